import Derived.Test.YtpnfpefcjeafbaaGreatFmtA31
import Derived.Test.YtpnfpefcjeafbaaGreatFmtA24
import Derived.Test.YtpnfpefcjeafbaaGreatFmtA27
import Derived.Test.YtpnfpefcjeafbaaGreatFmtA09
import Derived.Test.YtpnfpefcjeafbaaGreatFmtA26
import Derived.Test.YtpnfpefcjeafbaaGreatFmtA25
/- Here stand lemmas and contracts, in the order in which they are used. -/
set_option linter.unusedVariables false
set_option linter.unusedVariables false
namespace Go.Eng
open Go
/-- Of a number that has p places in binary64: the rung, and how the nearest is told. -/
theorem mid_num {V n p : Nat} {E : Int} (hT : Top n V) (hp : (p = 53 ∧ -1021 ≤ E ∧ E ≤ 2147483600) ∨ (1 ≤ p ∧ p ≤ 52 ∧ (p : Int) = E + 1074)) :
    cutX V (E - 64 * n) = V ∧ cutD V (E - 64 * n) = 64 * n - p ∧ flo V (E - 64 * n) = (max (E - 53) (-1074) + 1074).toNat * 4503599627370496 + V / 2 ^ (64 * n - p) ∧
    rung V (E - 64 * n) = min ((max (E - 53) (-1074) + 1074).toNat * 4503599627370496 + rn V (64 * n - p)) INF ∧
    rn V (64 * n - p) ≤ 2 ^ p ∧ (p = 53 → 4503599627370496 ≤ V / 2 ^ (64 * n - p)) ∧ V / 2 ^ (64 * n - p) ≤ rn V (64 * n - p) ∧ V / 2 ^ (64 * n - p) < 2 ^ p := by
  have hn0 := (top_pos hT).1
  have hX := top_cutX (E := E) hT
  have hD : cutD V (E - 64 * n) = 64 * n - p := by rw [top_cutD hT]; omega
  have hL := top_last (E := E) hT
  have hrr := rung_rn V (E - 64 * n)
  rw [hX, hD, hL] at hrr
  have hfl : flo V (E - 64 * n) = (max (E - 53) (-1074) + 1074).toNat * 4503599627370496 + V / 2 ^ (64 * n - p) := by unfold flo; rw [hX, hD, hL]
  have hle := rn_le V (64 * n - p)
  have hdp : V / 2 ^ (64 * n - p) < 2 ^ p := by
    rw [Nat.div_lt_iff_lt_mul (Nat.pow_pos (by decide)), ← Nat.pow_add, show p + (64 * n - p) = 64 * n by omega]
    exact hT.2
  refine ⟨hX, hD, hfl, hrr, Nat.le_trans hle.2 hdp, fun h53 => ?_, hle.1, hdp⟩
  rw [h53, Nat.le_div_iff_mul_le (Nat.pow_pos (by decide)), show (4503599627370496 : Nat) = 2 ^ 52 by decide, ← Nat.pow_add, show 52 + (64 * n - 53) = 64 * n - 1 by omega]
  exact hT.1
theorem acc_over {m : Nat} {e : Int} (ng : Bool) (hu : upN m e = true) (hi : inxN m e = true) : accN m e ng = if ng then -1 else 1 := by
  unfold accN
  rw [hu, hi, if_pos rfl]
  cases ng <;> rfl
theorem pow_53 : (2 : Nat) ^ 53 = 9007199254740992 := by decide
theorem pow_52 : (2 : Nat) ^ 52 = 4503599627370496 := by decide
theorem n_base {E : Int} (h : -1021 ≤ E) : ((max (E - 53) (-1074) + 1074).toNat : Int) = E + 1021 := by omega
theorem n_base0 {E : Int} (h : E ≤ -1022) : (max (E - 53) (-1074) + 1074).toNat = 0 := by omega
theorem n_over {E x : Int} {rq : Nat} (h : -1021 ≤ E) (hx : x = if rq < 9007199254740992 then 0 else 1) (hq : rq ≤ 9007199254740992) (hl : 4503599627370496 ≤ rq) (ho : (1023 : Int) < E + x - 1) :
    9218868437227405312 ≤ (max (E - 53) (-1074) + 1074).toNat * 4503599627370496 + rq := by
  have hb := n_base h
  generalize (max (E - 53) (-1074) + 1074).toNat = y at *
  by_cases hc : rq < 9007199254740992
  · rw [if_pos hc] at hx; omega
  · rw [if_neg hc] at hx; omega
theorem n_up {E x : Int} {rq a : Nat} (h : -1021 ≤ E) (hx : x = if rq < 9007199254740992 then 0 else 1) (hq : rq ≤ 9007199254740992) (hl : 4503599627370496 ≤ a) (ho : (1023 : Int) < E + x - 1)
    (ha : a < 9007199254740992) (hg : ¬ 9218868437227405312 ≤ (max (E - 53) (-1074) + 1074).toNat * 4503599627370496 + a) : a < rq := by
  have hb := n_base h
  generalize (max (E - 53) (-1074) + 1074).toNat = y at *
  by_cases hc : rq < 9007199254740992
  · rw [if_pos hc] at hx; omega
  · omega
theorem n_in {E x : Int} {rq a : Nat} (h : -1021 ≤ E) (hx : x = if rq < 9007199254740992 then 0 else 1) (ho : ¬ (1023 : Int) < E + x - 1) (ha : a < 9007199254740992) : (max (E - 53) (-1074) + 1074).toNat * 4503599627370496 + a < 9218868437227405312 := by
  have hb := n_base h
  generalize (max (E - 53) (-1074) + 1074).toNat = y at *
  have : 0 ≤ x := by rw [hx]; split <;> decide
  omega
theorem n_nor {E x : Int} {rq : Nat} (h : -1021 ≤ E) (hx : x = if rq < 9007199254740992 then 0 else 1) (hq : rq ≤ 9007199254740992) (hl : 4503599627370496 ≤ rq) (ho : ¬ (1023 : Int) < E + x - 1) :
    min ((max (E - 53) (-1074) + 1074).toNat * 4503599627370496 + rq) 9218868437227405312 = (E + x + 1022).toNat * 4503599627370496 + (if rq < 9007199254740992 then rq * 2048 else 9223372036854775808) / 2048 % 4503599627370496 ∧
    min ((max (E - 53) (-1074) + 1074).toNat * 4503599627370496 + rq) 9218868437227405312 < 9223372036854775808 := by
  have hb := n_base h
  generalize (max (E - 53) (-1074) + 1074).toNat = y at *
  by_cases hc : rq < 9007199254740992
  · rw [if_pos hc] at hx ⊢
    rw [Nat.mul_div_cancel _ (by decide)]
    omega
  · rw [if_neg hc] at hx ⊢
    omega
theorem n_one {E x : Int} {rq p : Nat} (hE : E ≤ -1022) (hx : x = if rq < 2 ^ p then 0 else 1) (hge : ¬ E + x - 1 < -1022) : E = -1022 ∧ x = 1 ∧ ¬ rq < 2 ^ p := by
  by_cases hc : rq < 2 ^ p
  · rw [if_pos hc] at hx; omega
  · rw [if_neg hc] at hx; exact ⟨by omega, hx, hc⟩
end Go.Eng
namespace Go.Proofs
open Go Go.Eng
variable {B : World} {R : Ending → Heap → Prop} {h : Heap}
theorem rndW53 (rq : Nat) : rndW rq 53 = if rq < 9007199254740992 then rq * 2048 else 9223372036854775808 := by
  unfold rndW; rw [pow_53, show (2 : Nat) ^ (64 - 53) = 2048 by decide]
/-- Float64 of what has at least one place. -/
theorem f64_mid {r q n V p : Nat} {pr ac E : Int} {ng : Bool} (F : FltV h r q pr ac ng n V E) (hpr : 53 < pr) (hn : n ≤ 30000000)
    (hp : (p = 53 ∧ -1021 ≤ E ∧ E ≤ 2147483600) ∨ (1 ≤ p ∧ p ≤ 52 ∧ (p : Int) = E + 1074))
    (H : ∀ h', Ext h h' → R (.returned (.tuple #[.float .f64 (wordN ng (rung V (E - 64 * n))), .int .i8 (accN V (E - 64 * n) ng)])) h') :
    F1081_j17 B R (some ⟨r, 0, none⟩) (p : Int) h := by
  obtain ⟨o, c, ws, F1, M1, v1, hT, hq⟩ := F
  obtain ⟨hX, hD, hfl, hrr, hrp, hq53, hfr, hdp⟩ := mid_num hT hp
  have hp1 : 1 ≤ p := by omega
  have hp2 : p ≤ 53 := by omega
  have hEl : -2147483648 ≤ E ∧ E < 2147483647 := by omega
  refine alK fun rz g1 erz f1 o1 z1 => ?_
  have Z1 : Flt g1 rz 0 0 0 false none 0 0 0 := o1
  have hrz : rz ≠ r := by have := F1.lt; omega
  have hrq : rz ≠ q := by have := M1.lt; omega
  refine ⟨rz, 0, rfl, rz, 0, rfl, Own.stC Z1 (by simp) rfl fun a2 f2 => ?_⟩
  rw [wrap_u32_in (x := (p : Int)) (by omega) (by omega)] at a2 f2 ⊢
  generalize setCell g1 ⟨rz, 0, none⟩ (.int .u32 (p : Int)) = g2 at a2 f2 ⊢
  have Z2 : Flt g2 rz p 0 0 false none 0 0 0 := a2
  have F2 : FltV g2 r q pr ac ng n V E := ⟨o, c, ws, (F1.fr f1 id).fr f2 (fun e => hrz e.symm), (M1.fr f1 id).fr f2 (fun e => hrq e.symm), v1, hT, hq⟩
  refine K1098b Z2 F2 hrz hrq hpr hp1 hp2 hn hEl.1 hEl.2 fun g3 q3 o3 c3 Z3 M3 f3 => ⟨_, rfl, ?_⟩
  have fx : Ext h g3 := by
    have a := Fr.trans (Fr.trans (S := fun x => x = rz) (Ext.to f1) f2 fun _ _ e => e) f3 fun _ _ e => e
    exact Fr.toExt a fun x hx e => by omega
  have Fx : Flt g3 r pr ac 1 ng (some ⟨q, o, none⟩) n c E := ((F1.fr f1 id).fr f2 (fun e => hrz e.symm)).fr f3 (fun e => hrz e.symm)
  have HH := H g3 fx
  clear H F2 Z2 a2 f2 f3 M1 F1 f1 o1 z1 Z1
  generalize hrqd : rn V (64 * n - p) = rq at *
  have h01 := rndE_01 rq p
  refine ⟨rz, 0, rfl, rz, 0 + 6, rfl, _, Own.cell Z3 _, rz, 0, rfl, rz, 0 + 3, rfl, _, Own.cell Z3 _, fun e => by simp at e, fun _ => ?_⟩
  have hEd : rndE rq p = if rq < 2 ^ p then 0 else 1 := rfl
  rw [wrap_i32_in (by omega) (by omega)]
  by_cases hover : (1023 : Int) < E + rndE rq p - 1
  · rw [decide_eq_true hover]
    have hp53 : p = 53 := by omega
    subst hp53
    have hq52 := hq53 rfl
    rw [pow_53] at hEd hrp hdp
    have hE : -1021 ≤ E := by omega
    have hr : rung V (E - 64 * n) = 9218868437227405312 := by rw [hrr]; exact Nat.min_eq_right (n_over hE hEd hrp (Nat.le_trans hq52 hfr) hover)
    have hup : upN V (E - 64 * n) = true ∧ inxN V (E - 64 * n) = true := by
      by_cases hge : INF ≤ flo V (E - 64 * n)
      · unfold upN inxN
        rw [decide_eq_true hge]; simp
      · have hi : incN V (E - 64 * n) = true := by
          rw [incN_rn, hX, hD, hrqd, decide_eq_true_eq]
          rw [hfl] at hge
          exact n_up hE hEd hrp hq52 hover hdp hge
        unfold upN inxN
        rw [incN_odd hi, hi]; simp
    rw [hr, acc_over ng hup.1 hup.2] at HH
    refine ⟨fun _ => Fx.lng ⟨fun e => ?_, fun e => ?_⟩, fun e => by cases e⟩
    · subst e
      exact K185 (ng := true) rfl ⟨_, rfl, HH⟩
    · subst e
      exact K185 (ng := false) rfl ⟨_, rfl, HH⟩
  · rw [decide_eq_false hover]
    have hfI : flo V (E - 64 * n) < INF := by
      rw [hfl]
      rcases hp with ⟨rfl, h1, h2⟩ | ⟨h1, h2, h3⟩
      · rw [pow_53] at hEd hdp
        exact n_in h1 hEd hover hdp
      · rw [n_base0 (by omega), Nat.zero_mul, Nat.zero_add]
        have h4 : 2 ^ p ≤ 2 ^ 52 := Nat.pow_le_pow_right (by decide) h2
        rw [pow_52] at h4
        exact Nat.lt_of_lt_of_le hdp (Nat.le_trans h4 (by decide))
    rw [accR_N ng hX hD hfI] at Z3
    have hj28 : F1081_j28 B R (E + rndE rq p - 1) (some ⟨rz, 0, none⟩) (if ng then (9223372036854775808 : Int) else 0) 0 g3 := by
      rcases hp with ⟨rfl, h1, h2⟩ | ⟨h1, h2, h3⟩
      · rw [pow_53] at hEd hrp
        have hn := n_nor h1 hEd hrp (Nat.le_trans (hq53 rfl) hfr) hover
        rw [← rndW53, ← hrr] at hn
        have hk := hn.1
        have hk2 := hn.2
        clear hrr hn hfl hX hD hfI
        generalize rung V (E - 64 * n) = k at *
        generalize accN V (E - 64 * n) ng = ac2 at *
        exact f64_nor Z3 M3 (by omega) (by omega) hk hk2 HH
      · have hr : rung V (E - 64 * n) = rq := by
          rw [hrr, n_base0 (by omega), Nat.zero_mul, Nat.zero_add]
          have h4 : 2 ^ p ≤ 2 ^ 52 := Nat.pow_le_pow_right (by decide) h2
          rw [pow_52] at h4
          exact Nat.min_eq_left (Nat.le_trans hrp (Nat.le_trans h4 (by decide)))
        rw [hr] at HH
        by_cases hlt : E + rndE rq p - 1 < -1022
        · have h52 : rq < 4503599627370496 := by
            by_cases hc : rq < 2 ^ p
            · have h4 : 2 ^ p ≤ 2 ^ 52 := Nat.pow_le_pow_right (by decide) h2
              rw [pow_52] at h4
              exact Nat.lt_of_lt_of_le hc h4
            · rw [if_neg hc] at hEd
              have h51 : p ≤ 51 := by omega
              have h4 : 2 ^ p ≤ 2 ^ 51 := Nat.pow_le_pow_right (by decide) h51
              exact Nat.lt_of_le_of_lt (Nat.le_trans hrp h4) (by decide)
          exact f64_den Z3 M3 h1 h2 h3 hrp h52 hlt HH
        · obtain ⟨e1, e2, e3⟩ := n_one (show E ≤ -1022 by omega) hEd hlt
          have hp52 : p = 52 := by omega
          subst hp52
          have hrq' : rq = 4503599627370496 := by rw [pow_52] at hrp e3; omega
          have hw : rndW rq 52 = 9223372036854775808 := by unfold rndW; rw [if_neg e3]
          refine f64_nor Z3 M3 hlt (by omega) (k := 4503599627370496) ?_ (by decide) (by rw [← hrq']; exact HH)
          rw [hw, e1, e2]; decide
    refine ⟨fun e => (by cases e), fun _ => Fx.lng ⟨fun e => ?_, fun e => ?_⟩⟩
    · rw [e] at hj28; exact hj28
    · rw [e] at hj28; exact hj28
end Go.Proofs
set_option linter.unusedVariables false
namespace Go.Eng
open Go
/-- Of a number below the smallest float's half or at it. -/
theorem low_num {V n : Nat} {E : Int} (hT : Top n V) (hE : E ≤ -1074) :
    flo V (E - 64 * n) = 0 ∧ odd V (E - 64 * n) = true ∧ incN V (E - 64 * n) = (decide (E = -1074) && decide (V % 2 ^ (64 * n - 1) ≠ 0)) := by
  have hn0 := (top_pos hT).1
  have hX := top_cutX (E := E) hT
  have hD : cutD V (E - 64 * n) = 64 * n + (-(E + 1074)).toNat := by rw [top_cutD hT]; omega
  have hL := top_last (E := E) hT
  have hlt : V < 2 ^ (64 * n + (-(E + 1074)).toNat) := Nat.lt_of_lt_of_le hT.2 (Nat.pow_le_pow_right (by decide) (by omega))
  have hz : V / 2 ^ (64 * n + (-(E + 1074)).toNat) = 0 := Nat.div_eq_of_lt hlt
  have hm : V % 2 ^ (64 * n + (-(E + 1074)).toNat) = V := Nat.mod_eq_of_lt hlt
  refine ⟨?_, ?_, ?_⟩
  · unfold flo; rw [hX, hD, hL, hz, show (max (E - 53) (-1074) + 1074).toNat = 0 by omega]
  · unfold odd; rw [hX, hD, hm]
    have := (top_pos hT).2
    exact decide_eq_true (by omega)
  · unfold incN; rw [hX, hD, hm, hz]
    have hV := hT.1
    have h2 : 2 ^ (64 * n) = 2 * 2 ^ (64 * n - 1) := by rw [Nat.mul_comm 2, ← Nat.pow_succ, show (64 * n - 1).succ = 64 * n by omega]
    have hV2 := hT.2
    rw [h2] at hV2
    have hmod : V % 2 ^ (64 * n - 1) = V - 2 ^ (64 * n - 1) := by
      rw [Nat.mod_eq_sub_mod hV, Nat.mod_eq_of_lt (by omega)]
    by_cases hE2 : E = -1074
    · rw [decide_eq_true hE2, Bool.true_and, hmod, show 64 * n + (-(E + 1074)).toNat = 64 * n by omega, h2]
      by_cases h : V = 2 ^ (64 * n - 1)
      · rw [decide_eq_false (by omega), decide_eq_false (by omega)]
      · rw [decide_eq_true (by omega), decide_eq_true (by omega)]
    · rw [decide_eq_false hE2, Bool.false_and, decide_eq_false]
      have h3 : 2 * 2 ^ (64 * n) ≤ 2 ^ (64 * n + (-(E + 1074)).toNat) := by
        rw [Nat.mul_comm, ← Nat.pow_succ]
        exact Nat.pow_le_pow_right (by decide) (by omega)
      rw [h2] at h3
      omega
theorem low_zero {V : Nat} {e : Int} (ng : Bool) (h1 : flo V e = 0) (h2 : odd V e = true) (h3 : incN V e = false) : rung V e = 0 ∧ accN V e ng = if ng then 1 else -1 := by
  refine ⟨?_, ?_⟩
  · rw [rung_idx V e false]; unfold idxW awayW; rw [h1, h3]; rfl
  · unfold accN inxN upN
    rw [h1, h2, h3]
    cases ng <;> rfl
theorem low_one {V : Nat} {e : Int} (ng : Bool) (h1 : flo V e = 0) (h2 : odd V e = true) (h3 : incN V e = true) : rung V e = 1 ∧ accN V e ng = if ng then -1 else 1 := by
  refine ⟨?_, ?_⟩
  · rw [rung_idx V e false]; unfold idxW awayW; rw [h1, h3]; rfl
  · unfold accN inxN upN
    rw [h1, h2, h3]
    cases ng <;> rfl
end Go.Eng
namespace Go.Proofs
open Go Go.Eng
variable {B : World} {R : Ending → Heap → Prop} {h : Heap}
/-- Float64 of a number other than 0. -/
theorem K1081 {r q n V : Nat} {pr ac E : Int} {ng : Bool} (F : FltV h r q pr ac ng n V E) (hpr : 53 < pr) (hn : n ≤ 30000000) (hE : -2147480000 ≤ E) (hE2 : E ≤ 2147483600)
    (H : ∀ h', Ext h h' → R (.returned (.tuple #[.float .f64 (wordN ng (rung V (E - 64 * n))), .int .i8 (accN V (E - 64 * n) ng)])) h') :
    Ent Tryz.prog B 93 #[.pointer (some ⟨r, 0, none⟩)] R h := by
  have G := F
  obtain ⟨o, c, ws, F1, M1, v1, hT, hq⟩ := F
  have hn0 := (top_pos hT).1
  have w1 : IntKind.i32.wrap (E - (1 : Int)) = E - 1 := wrap_i32_in (by omega) (by omega)
  have w2 : IntKind.i64.wrap (E - 1) = E - 1 := i64_in (by omega) (by omega)
  have w3 : IntKind.i64.wrap ((1075 : Int) + (E - 1)) = E + 1074 := by rw [i64_in (by omega) (by omega)]; omega
  refine F1081_ok _ ⟨fun e => by simp at e, fun _ => F1.lfo ⟨fun _ => F1.lex ?_, fun e => absurd (of_decide_eq_false e) (by simp)⟩⟩
  rw [w1, w2, w3]
  refine ⟨fun e => ⟨fun e2 => ?_, fun e2 => ⟨fun e3 => ?_, fun e3 => ?_⟩⟩, fun e => ?_⟩
  · have h1 := of_decide_eq_true e2
    obtain ⟨a1, a2, a3⟩ := low_num (E := E) hT (by omega)
    rw [decide_eq_false (show ¬ E = -1074 by omega), Bool.false_and] at a3
    obtain ⟨b1, b2⟩ := low_zero ng a1 a2 a3
    have HH := H h Fr.rfl'
    rw [b1, b2] at HH
    refine ⟨fun _ => F1.lng ⟨fun e => ?_, fun e => ?_⟩, fun e => by cases e⟩
    · subst e; exact HH
    · subst e; exact HH
  · have h1 : E = -1074 := by have := of_decide_eq_true e3; omega
    obtain ⟨a1, a2, a3⟩ := low_num (E := E) hT (by omega)
    rw [decide_eq_true h1, Bool.true_and] at a3
    have HH := H h Fr.rfl'
    have hw : IntKind.u64.wrap ((IntKind.u64.wrap ((IntKind.u64.wrap (n : Int)) * (64 : Int))) - (1 : Int)) = ((64 * n - 1 : Nat) : Int) := by
      rw [wrap_u64_in (x := (n : Int)) (by omega) (by omega), wrap_u64_in (x := (n : Int) * 64) (by omega) (by omega), wrap_u64_in (by omega) (by omega)]
      omega
    refine F1.ma (F1.ma ?_)
    rw [hw]
    refine K1097 M1 (by omega) ⟨_, rfl, ?_⟩
    rw [show val B64 ws = V from v1]
    by_cases hz : V % 2 ^ (64 * n - 1) = 0
    · rw [decide_eq_false (by simp [hz])] at a3
      obtain ⟨b1, b2⟩ := low_zero ng a1 a2 a3
      rw [b1, b2] at HH
      rw [if_pos hz]
      refine ⟨fun _ => F1.lng ⟨fun e => ?_, fun e => ?_⟩, fun e => by cases e⟩
      · subst e; exact HH
      · subst e; exact HH
    · rw [decide_eq_true hz] at a3
      obtain ⟨b1, b2⟩ := low_one ng a1 a2 a3
      rw [b1, b2] at HH
      rw [if_neg hz]
      refine ⟨fun e => (by cases e), fun _ => ⟨fun _ => F1.lng ⟨fun e => ?_, fun e => ?_⟩, fun e => absurd (of_decide_eq_false e) (by omega)⟩⟩
      · subst e; exact HH
      · subst e; exact HH
  · have h1 := of_decide_eq_true e
    have h2 := of_decide_eq_false e2
    have h3 := of_decide_eq_false e3
    refine ⟨fun e => (by cases e), fun _ => ⟨fun e => absurd (of_decide_eq_true e) h3, fun _ => ?_⟩⟩
    have := f64_mid (B := B) (R := R) (p := (E + 1074).toNat) G hpr hn (.inr ⟨by omega, by omega, by omega⟩) H
    rw [show (((E + 1074).toNat : Nat) : Int) = E + 1074 by omega] at this
    exact this
  · have h1 := of_decide_eq_false e
    exact f64_mid (p := 53) G hpr hn (.inl ⟨rfl, by omega, by omega⟩) H
end Go.Proofs
namespace Go.Proofs
open Go Go.Eng
variable {B : World} {R : Ending → Heap → Prop} {h : Heap}
/-- bits.Class. -/
theorem K17 {b : Int} (H : R (.returned (.int .i64 (cls b))) h) : Ent Tryz.prog B 36 #[.int .i64 b] R h := by
  refine F17_ok _ ⟨by decide, ?_⟩
  rw [and_fE, and_fT]
  refine F53_ok _ _ _ ?_
  have dE : decide (((fE b : Nat) : Int) = 2047) = decide (fE b = 2047) := by rw [decide_eq_decide]; omega
  have dT : decide (((fT b : Nat) : Int) = 0) = decide (fT b = 0) := by rw [decide_eq_decide]; omega
  have dE0 : decide (((fE b : Nat) : Int) = 0) = decide (fE b = 0) := by rw [decide_eq_decide]; omega
  unfold F53 F53_j4 F53_j17 F53_j25 F53_j22 F53_j14 F53_j11
  rw [dE, dT, dE0]
  have Hc : ∀ x, x = cls b → ∃ x6, Value.int .i64 x = Value.int .i64 x6 ∧ R (.returned (.int .i64 x6)) h := by
    rintro x rfl; exact ⟨_, rfl, H⟩
  unfold cls at Hc
  by_cases h1 : fE b = 2047
  · by_cases h2 : fT b = 0
    · simp only [h1, h2, decide_true]
      exact ⟨fun _ => ⟨fun e => (by cases e), fun _ => ⟨fun _ => Hc _ (by simp [h1, h2]), fun e => (by cases e)⟩⟩, fun e => (by cases e)⟩
    · simp only [h1, h2, decide_true, decide_false]
      exact ⟨fun _ => ⟨fun _ => Hc _ (by simp [h1, h2]), fun e => (by cases e)⟩, fun e => (by cases e)⟩
  · refine ⟨fun e => absurd (of_decide_eq_true e) h1, fun _ => ⟨fun e => (by cases e), fun _ => ⟨fun e => absurd (of_decide_eq_true e) h1, fun _ => ⟨fun e => ?_, fun e => ?_⟩⟩⟩⟩
    · have h0 := of_decide_eq_true e
      by_cases h2 : fT b = 0
      · exact ⟨fun _ => Hc _ (by simp [h0, h2]), fun e => absurd h2 (of_decide_eq_false e)⟩
      · have : 0 < fT b := by omega
        exact ⟨fun e => absurd (of_decide_eq_true e) h2, fun _ => ⟨fun _ => Hc _ (by simp [h0, this]), fun e => absurd h0 (of_decide_eq_false e)⟩⟩
    · have h0 := of_decide_eq_false e
      have : 0 < fE b := by omega
      exact ⟨fun e => (by cases e), fun _ => ⟨fun e => absurd (of_decide_eq_true e) h0, fun _ => Hc _ (by simp [h1, this])⟩⟩
theorem xor63 {w : Nat} (h : w < 18446744073709551616) : w ^^^ 9223372036854775808 = if w < 9223372036854775808 then w + 9223372036854775808 else w - 9223372036854775808 := by
  have hd := Nat.xor_div_two_pow (a := w) (b := 9223372036854775808) (n := 63)
  have hm := Nat.xor_mod_two_pow (a := w) (b := 9223372036854775808) (n := 63)
  have e1 : 9223372036854775808 / 2 ^ 63 = 1 := by decide
  have e2 : 9223372036854775808 % 2 ^ 63 = 0 := by decide
  rw [e1] at hd
  rw [e2, Nat.xor_zero] at hm
  by_cases hw : w < 9223372036854775808
  · have : w / 2 ^ 63 = 0 := by omega
    rw [this, show 0 ^^^ 1 = 1 from rfl] at hd
    rw [if_pos hw]; omega
  · have : w / 2 ^ 63 = 1 := by omega
    rw [this, show 1 ^^^ 1 = 0 from rfl] at hd
    rw [if_neg hw]; omega
theorem bitsI_flip {b : Int} (hb : I64 b) : bitsI .xor .i64 b (-9223372036854775808 : Int) = if b < 0 then b + 9223372036854775808 else b - 9223372036854775808 := by
  unfold I64 at hb
  have h1 : bitsI .xor .i64 b (-9223372036854775808 : Int) = IntKind.i64.wrap (((BitVec.ofInt 64 b ^^^ BitVec.ofInt 64 (-9223372036854775808 : Int)).toNat : Nat) : Int) := rfl
  rw [h1, BitVec.toNat_xor, BitVec.toNat_ofInt, BitVec.toNat_ofInt]
  have e1 : ((-9223372036854775808 : Int) % ((2 ^ 64 : Nat) : Int)).toNat = 9223372036854775808 := by decide
  have e2 : (b % ((2 ^ 64 : Nat) : Int)).toNat = (b % 18446744073709551616).toNat := rfl
  rw [e1, e2, xor63 (by omega)]
  have e : ∀ y : Int, IntKind.i64.wrap y = if (true && decide (y % 18446744073709551616 ≥ 9223372036854775808)) = true then y % 18446744073709551616 - 18446744073709551616 else y % 18446744073709551616 := fun y => rfl
  rw [e]
  simp only [Bool.true_and, decide_eq_true_eq]
  split <;> split <;> split <;> omega
/-- bits.Neg. -/
theorem K99 {b : Int} (hb : I64 b) (H : R (.returned (.int .i64 (negP b))) h) : Ent Tryz.prog B 15 #[.int .i64 b] R h := by
  refine F99_ok _ (K17 ⟨_, rfl, ?_⟩)
  rw [cls_nan, bitsI_flip hb]
  unfold negP at H
  refine ⟨fun e => ?_, fun e => ?_⟩
  · rw [e] at H; exact H
  · rw [e] at H; exact H
end Go.Proofs
namespace Go.Proofs
open Go Go.Eng
variable {B : World} {R : Ending → Heap → Prop} {h : Heap}
/-- A slice of pairs of whole numbers that only is read. -/
def PairsH (h : Heap) (p : Option Addr) (n : Nat) : Prop :=
  ∀ i, i < n → ∃ r q, p = some ⟨r, q, none⟩ ∧ r < h.size ∧ ∃ x y, I64 x ∧ I64 y ∧ cell? h ⟨r, q + i * 2, none⟩ = some (.int .i64 x) ∧ cell? h ⟨r, q + i * 2 + 1, none⟩ = some (.int .i64 y)
theorem cell_ext {h h' : Heap} (f : Ext h h') {r o : Nat} (hr : r < h.size) : cell? h' ⟨r, o, none⟩ = cell? h ⟨r, o, none⟩ := by
  unfold cell?; rw [f.same r hr id]
theorem PairsH.ext {h h' : Heap} {p : Option Addr} {n : Nat} (H : PairsH h p n) (f : Ext h h') : PairsH h' p n := by
  intro i hi
  obtain ⟨r, q, e, hr, x, y, ix, iy, c1, c2⟩ := H i hi
  exact ⟨r, q, e, Nat.lt_of_lt_of_le hr f.size, x, y, ix, iy, (cell_ext f hr).trans c1, (cell_ext f hr).trans c2⟩
end Go.Proofs
namespace Go.Proofs
open Go Go.Eng
/-- math.Copysign -/
def F137 (B : World) (R : Po) (a0 b0 : Nat) (h : Heap) : Prop :=
 Ec B 56 #[.float .f64 a0] (retE (fun c0 d0 => ∃ e0, c0 = .int .u64 e0 ∧
 Ec B 56 #[.float .f64 b0] (retE (fun f0 g0 => ∃ i0, f0 = .int .u64 i0 ∧
 Ec B 64 #[.int .u64 (bitsI .or .u64 (bitsI .andNot .u64 e0 (9223372036854775808 : Int)) (bitsI .and .u64 i0 (9223372036854775808 : Int)))] (retE (fun j0 k0 => ∃ l0, j0 = .float .f64 l0 ∧
 R (.returned (.float .f64 l0)) k0)
(pk R)) g0)
(pk R)) d0)
(pk R)) h
def F137_L : Nat → List (Nat × TypeDesc) := fun _ => []
theorem F137_ok {B : World} {R : Ending → Heap → Prop} (a0 b0 : Nat) {h : Heap} (H : F137 B R a0 b0 h) : Ec B 162 #[.float .f64 a0, .float .f64 b0] R h :=
 Ek Tryz.func162 (by kernel_rfl) (by kernel_rfl) (by kernel_rfl) F137_L [] (by kernel_rfl) H

/-- math.Ldexp -/
def F93 (B : World) (R : Po) (a0 : Nat) (b0 : Int) (h : Heap) : Prop :=
(false = true →
 Ec B 138 #[.float .f64 a0, .int .i64 b0] (retE (fun c0 d0 => ∃ e0, c0 = .float .f64 e0 ∧
 R (.returned (.float .f64 e0)) d0)
(pk R)) h) ∧
(false = false →
 Ec B 139 #[.float .f64 a0, .int .i64 b0] (retE (fun f0 g0 => ∃ i0, f0 = .float .f64 i0 ∧
 R (.returned (.float .f64 i0)) g0)
(pk R)) h)
def F93_L : Nat → List (Nat × TypeDesc) := fun _ => []
theorem F93_ok {B : World} {R : Ending → Heap → Prop} (a0 : Nat) (b0 : Int) {h : Heap} (H : F93 B R a0 b0 h) : Ec B 100 #[.float .f64 a0, .int .i64 b0] R h :=
 Ek Tryz.func100 (by kernel_rfl) (by kernel_rfl) (by kernel_rfl) F93_L [] (by kernel_rfl) H
end Go.Proofs
namespace Go.Eng
open Go
theorem rn_exact (q d : Nat) : rn (q * 2 ^ d) d = q := by
  have := rn_scale q 0 d
  rw [Nat.zero_add, rn_zero] at this
  exact this
/-- n rounded to 53 bits. -/
def R53 (n : Nat) : Nat := rn n (n.log2 - 52) * 2 ^ (n.log2 - 52)
theorem R53_zero : R53 0 = 0 := by decide
theorem log2_of {n k : Nat} (h1 : 2 ^ k ≤ n) (h2 : n < 2 ^ (k + 1)) : n.log2 = k := by
  have h0 : n ≠ 0 := by have : 0 < 2 ^ k := Nat.pow_pos (by decide); omega
  exact (Nat.log2_eq_iff h0).2 ⟨h1, h2⟩
theorem R53_at {n j : Nat} (h1 : 2 ^ (52 + j) ≤ n) (h2 : n < 2 ^ (53 + j)) : R53 n = rn n j * 2 ^ j := by
  have : n.log2 = 52 + j := log2_of h1 (by rw [show 52 + j + 1 = 53 + j by omega]; exact h2)
  unfold R53
  rw [this, Nat.add_sub_cancel_left]
theorem R53_small {n : Nat} (h : n < 2 ^ 53) : R53 n = n := by
  unfold R53
  have : n.log2 - 52 = 0 := by
    by_cases h0 : n = 0
    · subst h0; decide
    · have := (Nat.log2_lt h0).2 h; omega
  rw [this, rn_zero, Nat.pow_zero, Nat.mul_one]
theorem R53_scale (n k : Nat) : R53 (n * 2 ^ k) = R53 n * 2 ^ k := by
  by_cases h0 : n = 0
  · subst h0; rw [Nat.zero_mul, R53_zero, Nat.zero_mul]
  unfold R53
  rw [log2_scale k h0]
  by_cases h : 52 ≤ n.log2
  · rw [show n.log2 + k - 52 = n.log2 - 52 + k by omega, rn_scale, Nat.pow_add, Nat.mul_assoc]
  · rw [show n.log2 - 52 = 0 by omega, rn_zero, Nat.pow_zero, Nat.mul_one]
    by_cases h3 : n.log2 + k ≤ 52
    · rw [show n.log2 + k - 52 = 0 by omega, rn_zero, Nat.pow_zero, Nat.mul_one]
    · obtain ⟨d, hd⟩ : ∃ d, n.log2 + k - 52 = d ∧ d ≤ k := ⟨_, rfl, by omega⟩
      rw [hd.1]
      have e : n * 2 ^ k = n * 2 ^ (k - d) * 2 ^ d := by rw [Nat.mul_assoc, ← Nat.pow_add]; congr 2; omega
      rw [e, rn_exact]
theorem R53_exact {q d : Nat} (h : q ≤ 2 ^ 53) : R53 (q * 2 ^ d) = q * 2 ^ d := by
  rw [R53_scale]
  rcases Nat.lt_or_ge q (2 ^ 53) with h1 | h1
  · rw [R53_small h1]
  · have : q = 1 * 2 ^ 53 := by omega
    rw [this, R53_scale, R53_small (by decide)]
theorem rn_near (n d : Nat) : 2 * (rn n d * 2 ^ d) ≤ 2 * n + 2 ^ d ∧ 2 * n ≤ 2 * (rn n d * 2 ^ d) + 2 ^ d := by
  have hd := Nat.div_add_mod n (2 ^ d)
  have hm := Nat.mod_lt n (Nat.pow_pos (by decide : 0 < 2) : 0 < 2 ^ d)
  unfold rn
  rw [Nat.mul_comm] at hd
  split
  · rw [Nat.add_mul, Nat.one_mul]; omega
  · rw [Nat.add_zero]; omega
end Go.Eng
namespace Go.Eng
open Go
/-- A whole number rounded to 53 bits. -/
def rndI (v : Int) : Int := Ieee.signed (decide (v < 0)) (R53 v.natAbs) 0
theorem signed_nat (s : Bool) (m j : Nat) : Ieee.signed s m j = if s then -((m * 2 ^ j : Nat) : Int) else ((m * 2 ^ j : Nat) : Int) := by
  unfold Ieee.signed; rw [Nat.shiftLeft_eq]
theorem pat_neg (neg : Bool) {r : Nat} (hr : r < 9223372036854775808) : decide (pat neg r < 0) = neg := by
  cases neg
  · show decide (((r : Nat) : Int) < 0) = false
    exact decide_eq_false (by omega)
  · show decide (((r : Nat) : Int) - 9223372036854775808 < 0) = true
    exact decide_eq_true (by omega)
theorem pat_fE (neg : Bool) {r : Nat} (hr : r < 9223372036854775808) : fE (pat neg r) = r / 4503599627370496 := by
  unfold fE
  cases neg
  · show ((((r : Nat) : Int)) / 4503599627370496 % 2048).toNat = _
    omega
  · show ((((r : Nat) : Int) - 9223372036854775808) / 4503599627370496 % 2048).toNat = _
    omega
theorem pat_fT (neg : Bool) {r : Nat} (hr : r < 9223372036854775808) : fT (pat neg r) = r % 4503599627370496 := by
  unfold fT
  cases neg
  · show ((((r : Nat) : Int)) % 4503599627370496).toNat = _
    omega
  · show ((((r : Nat) : Int) - 9223372036854775808) % 4503599627370496).toNat = _
    omega
theorem fV_pat (neg : Bool) {j k : Nat} (hk : k ≤ 9007199254740992) (hn : j ≠ 0 → 4503599627370496 ≤ k) (hr : j * 4503599627370496 + k < 9218868437227405312) :
    isFin (pat neg (j * 4503599627370496 + k)) = true ∧ fV (pat neg (j * 4503599627370496 + k)) = Ieee.signed neg k j := by
  have h63 : j * 4503599627370496 + k < 9223372036854775808 := by omega
  have e1 := pat_fE neg h63
  have e2 := pat_fT neg h63
  have e3 := pat_neg neg h63
  refine ⟨?_, ?_⟩
  · unfold isFin; rw [e1]; exact decide_eq_true (by omega)
  unfold fV fM fX
  rw [e1, e2, e3]
  rcases Nat.lt_or_ge k 4503599627370496 with h | h
  · have hj : j = 0 := by
      rcases Nat.eq_zero_or_pos j with h0 | h0
      · exact h0
      · have := hn (by omega); omega
    subst hj
    have a1 : (0 * 4503599627370496 + k) / 4503599627370496 = 0 := by omega
    have a2 : (0 * 4503599627370496 + k) % 4503599627370496 = k := by omega
    rw [a1, a2]; rfl
  · rcases Nat.lt_or_ge k 9007199254740992 with h' | h'
    · have a1 : (j * 4503599627370496 + k) / 4503599627370496 = j + 1 := by omega
      have a2 : (j * 4503599627370496 + k) % 4503599627370496 = k - 4503599627370496 := by omega
      rw [a1, a2, if_neg (by omega), if_neg (by omega), show 4503599627370496 + (k - 4503599627370496) = k by omega, show (((j + 1 : Nat) : Int) - 1075 + 1074).toNat = j by omega]
    · have hk' : k = 9007199254740992 := by omega
      subst hk'
      have a1 : (j * 4503599627370496 + 9007199254740992) / 4503599627370496 = j + 2 := by omega
      have a2 : (j * 4503599627370496 + 9007199254740992) % 4503599627370496 = 0 := by omega
      rw [a1, a2, if_neg (by omega), if_neg (by omega), show (((j + 2 : Nat) : Int) - 1075 + 1074).toNat = j + 1 by omega, signed_nat, signed_nat, Nat.pow_succ]
      have : (4503599627370496 + 0) * (2 ^ j * 2) = 9007199254740992 * 2 ^ j := by omega
      rw [this]
theorem rung_fV (neg : Bool) {n K : Nat} (hK : K ≤ 2045) (h : n < 3 * 2 ^ (51 + K)) : isFin (pat neg (rung n (-1074))) = true ∧ fV (pat neg (rung n (-1074))) = Ieee.signed neg (R53 n) 0 := by
  by_cases h0 : n = 0
  · subst h0
    rw [rung_zero, R53_zero]
    have := fV_pat neg (j := 0) (k := 0) (by omega) (by omega) (by omega)
    rw [Nat.zero_mul, Nat.zero_add] at this
    exact this
  obtain ⟨j, hj⟩ : ∃ j, n.log2 - 52 = j := ⟨_, rfl⟩
  have eL : lastP n (-1074) = -1074 + (j : Int) := by unfold lastP; omega
  have eK : kpt n (-1074) = rn n j := by
    unfold kpt
    rw [eL, show ((-1074 : Int) - (-1074 + (j : Int))).toNat = 0 by omega, Nat.pow_zero, Nat.mul_one, show (-1074 + (j : Int) - (-1074 : Int)).toNat = j by omega]
  obtain ⟨b1, b2⟩ := kpt_lt (-1074) h0
  rw [eK] at b1 b2
  have e52 : (2 : Nat) ^ 52 = 4503599627370496 := by decide
  have e53 : (2 : Nat) ^ 53 = 9007199254740992 := by decide
  have e51 : (2 : Nat) ^ 51 = 2251799813685248 := by decide
  rw [e53] at b1
  rw [e52] at b2
  have hjK : j ≤ K := by
    have : n < 2 ^ (53 + K) := by
      have : 2 ^ (53 + K) = 4 * 2 ^ (51 + K) := by rw [show 53 + K = 2 + (51 + K) by omega, Nat.pow_add]
      have : 0 < 2 ^ (51 + K) := Nat.pow_pos (by decide)
      omega
    have := (Nat.log2_lt h0).2 this
    omega
  have hlt : j * 4503599627370496 + rn n j < 9218868437227405312 := by
    rcases Nat.lt_or_ge j 2045 with h1 | h1
    · omega
    · have hjk : j = K := by omega
      have : n / 2 ^ j < 3 * 2251799813685248 := by
        rw [Nat.div_lt_iff_lt_mul (Nat.pow_pos (by decide)), Nat.mul_assoc, ← e51, ← Nat.pow_add, hjk]; exact h
      have := (rn_le n j).2
      omega
  have er : rung n (-1074) = j * 4503599627370496 + rn n j := by
    unfold rung
    rw [eL, eK, show (-1074 + (j : Int) + 1074).toNat = j by omega]
    exact Nat.min_eq_left (by omega)
  rw [er]
  obtain ⟨c1, c2⟩ := fV_pat neg (j := j) (k := rn n j) b1 (fun hne => b2 (by rw [eL]; omega)) hlt
  refine ⟨c1, ?_⟩
  rw [c2, signed_nat, signed_nat]
  unfold R53
  rw [hj, Nat.pow_zero, Nat.mul_one]
theorem fin_not {a : Int} (h : isFin a = true) : isNaN a = false ∧ isInf a = false := by
  unfold isFin at h
  have := of_decide_eq_true h
  unfold isNaN isInf
  have : decide (fE a = 2047) = false := decide_eq_false (by omega)
  rw [this]; exact ⟨rfl, rfl⟩
end Go.Eng
namespace Go.Eng
open Go
/-- A sign and a size. -/
def sgv (s : Bool) (n : Nat) : Int := if s then -(n : Int) else (n : Int)
theorem rndI_sgv (s : Bool) (n : Nat) : rndI (sgv s n) = sgv s (R53 n) := by
  unfold rndI sgv
  cases s
  · simp only [Bool.false_eq_true, if_false]
    rw [decide_eq_false (by omega), Int.natAbs_natCast]
    show Ieee.signed false (R53 n) 0 = _
    rw [signed_nat, Nat.pow_zero, Nat.mul_one]; rfl
  · simp only [if_true]
    by_cases h : n = 0
    · subst h; rw [R53_zero]; rfl
    · rw [decide_eq_true (by omega), Int.natAbs_neg, Int.natAbs_natCast, signed_nat, Nat.pow_zero, Nat.mul_one]; rfl
theorem sgv_abs (s : Bool) (n : Nat) : (sgv s n).natAbs = n := by unfold sgv; cases s <;> simp
theorem sgv_of (X : Int) : ∃ s, X = sgv s X.natAbs := by
  by_cases h : X < 0
  · exact ⟨true, by unfold sgv; simp only [if_true]; omega⟩
  · exact ⟨false, by unfold sgv; simp only [Bool.false_eq_true, if_false]; omega⟩
end Go.Eng
