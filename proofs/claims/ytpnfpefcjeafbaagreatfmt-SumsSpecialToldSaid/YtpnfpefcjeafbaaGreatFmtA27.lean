import Derived.Test.YtpnfpefcjeafbaaGreatFmtA26
import Derived.Test.YtpnfpefcjeafbaaGreatFmtA24
import Derived.Test.YtpnfpefcjeafbaaGreatFmtA09
/- Here stand lemmas and contracts, in the order in which they are used. -/
set_option linter.unusedVariables false
set_option linter.unusedVariables false
namespace Go.Eng
open Go
/-- Of a number that has p places in binary64: the rung, and how the nearest is told. -/
theorem mid_num {V n p : Nat} {E : Int} (hT : Top n V) (hp : (p = 53 ∧ -1021 ≤ E ∧ E ≤ 2147483600) ∨ (1 ≤ p ∧ p ≤ 52 ∧ (p : Int) = E + 1074)) :
    cutX V (E - 64 * n) = V ∧ cutD V (E - 64 * n) = 64 * n - p ∧ flo V (E - 64 * n) = (max (E - 53) (-1074) + 1074).toNat * 4503599627370496 + V / 2 ^ (64 * n - p) ∧
    rung V (E - 64 * n) = min ((max (E - 53) (-1074) + 1074).toNat * 4503599627370496 + rn V (64 * n - p)) INF ∧
    rn V (64 * n - p) ≤ 2 ^ p ∧ (p = 53 → 4503599627370496 ≤ V / 2 ^ (64 * n - p)) ∧ V / 2 ^ (64 * n - p) ≤ rn V (64 * n - p) ∧ V / 2 ^ (64 * n - p) < 2 ^ p := by
  have hn0 := (top_pos hT).1
  have hX := top_cutX (E := E) hT
  have hD : cutD V (E - 64 * n) = 64 * n - p := by rw [top_cutD hT]; omega
  have hL := top_last (E := E) hT
  have hrr := rung_rn V (E - 64 * n)
  rw [hX, hD, hL] at hrr
  have hfl : flo V (E - 64 * n) = (max (E - 53) (-1074) + 1074).toNat * 4503599627370496 + V / 2 ^ (64 * n - p) := by unfold flo; rw [hX, hD, hL]
  have hle := rn_le V (64 * n - p)
  have hdp : V / 2 ^ (64 * n - p) < 2 ^ p := by
    rw [Nat.div_lt_iff_lt_mul (Nat.pow_pos (by decide)), ← Nat.pow_add, show p + (64 * n - p) = 64 * n by omega]
    exact hT.2
  refine ⟨hX, hD, hfl, hrr, Nat.le_trans hle.2 hdp, fun h53 => ?_, hle.1, hdp⟩
  rw [h53, Nat.le_div_iff_mul_le (Nat.pow_pos (by decide)), show (4503599627370496 : Nat) = 2 ^ 52 by decide, ← Nat.pow_add, show 52 + (64 * n - 53) = 64 * n - 1 by omega]
  exact hT.1
theorem acc_over {m : Nat} {e : Int} (ng : Bool) (hu : upN m e = true) (hi : inxN m e = true) : accN m e ng = if ng then -1 else 1 := by
  unfold accN
  rw [hu, hi, if_pos rfl]
  cases ng <;> rfl
theorem pow_53 : (2 : Nat) ^ 53 = 9007199254740992 := by decide
theorem pow_52 : (2 : Nat) ^ 52 = 4503599627370496 := by decide
theorem n_base {E : Int} (h : -1021 ≤ E) : ((max (E - 53) (-1074) + 1074).toNat : Int) = E + 1021 := by omega
theorem n_base0 {E : Int} (h : E ≤ -1022) : (max (E - 53) (-1074) + 1074).toNat = 0 := by omega
theorem n_over {E x : Int} {rq : Nat} (h : -1021 ≤ E) (hx : x = if rq < 9007199254740992 then 0 else 1) (hq : rq ≤ 9007199254740992) (hl : 4503599627370496 ≤ rq) (ho : (1023 : Int) < E + x - 1) :
    9218868437227405312 ≤ (max (E - 53) (-1074) + 1074).toNat * 4503599627370496 + rq := by
  have hb := n_base h
  generalize (max (E - 53) (-1074) + 1074).toNat = y at *
  by_cases hc : rq < 9007199254740992
  · rw [if_pos hc] at hx; omega
  · rw [if_neg hc] at hx; omega
theorem n_up {E x : Int} {rq a : Nat} (h : -1021 ≤ E) (hx : x = if rq < 9007199254740992 then 0 else 1) (hq : rq ≤ 9007199254740992) (hl : 4503599627370496 ≤ a) (ho : (1023 : Int) < E + x - 1)
    (ha : a < 9007199254740992) (hg : ¬ 9218868437227405312 ≤ (max (E - 53) (-1074) + 1074).toNat * 4503599627370496 + a) : a < rq := by
  have hb := n_base h
  generalize (max (E - 53) (-1074) + 1074).toNat = y at *
  by_cases hc : rq < 9007199254740992
  · rw [if_pos hc] at hx; omega
  · omega
theorem n_in {E x : Int} {rq a : Nat} (h : -1021 ≤ E) (hx : x = if rq < 9007199254740992 then 0 else 1) (ho : ¬ (1023 : Int) < E + x - 1) (ha : a < 9007199254740992) : (max (E - 53) (-1074) + 1074).toNat * 4503599627370496 + a < 9218868437227405312 := by
  have hb := n_base h
  generalize (max (E - 53) (-1074) + 1074).toNat = y at *
  have : 0 ≤ x := by rw [hx]; split <;> decide
  omega
theorem n_nor {E x : Int} {rq : Nat} (h : -1021 ≤ E) (hx : x = if rq < 9007199254740992 then 0 else 1) (hq : rq ≤ 9007199254740992) (hl : 4503599627370496 ≤ rq) (ho : ¬ (1023 : Int) < E + x - 1) :
    min ((max (E - 53) (-1074) + 1074).toNat * 4503599627370496 + rq) 9218868437227405312 = (E + x + 1022).toNat * 4503599627370496 + (if rq < 9007199254740992 then rq * 2048 else 9223372036854775808) / 2048 % 4503599627370496 ∧
    min ((max (E - 53) (-1074) + 1074).toNat * 4503599627370496 + rq) 9218868437227405312 < 9223372036854775808 := by
  have hb := n_base h
  generalize (max (E - 53) (-1074) + 1074).toNat = y at *
  by_cases hc : rq < 9007199254740992
  · rw [if_pos hc] at hx ⊢
    rw [Nat.mul_div_cancel _ (by decide)]
    omega
  · rw [if_neg hc] at hx ⊢
    omega
theorem n_one {E x : Int} {rq p : Nat} (hE : E ≤ -1022) (hx : x = if rq < 2 ^ p then 0 else 1) (hge : ¬ E + x - 1 < -1022) : E = -1022 ∧ x = 1 ∧ ¬ rq < 2 ^ p := by
  by_cases hc : rq < 2 ^ p
  · rw [if_pos hc] at hx; omega
  · rw [if_neg hc] at hx; exact ⟨by omega, hx, hc⟩
end Go.Eng
namespace Go.Proofs
open Go Go.Eng
variable {B : World} {R : Ending → Heap → Prop} {h : Heap}
theorem rndW53 (rq : Nat) : rndW rq 53 = if rq < 9007199254740992 then rq * 2048 else 9223372036854775808 := by
  unfold rndW; rw [pow_53, show (2 : Nat) ^ (64 - 53) = 2048 by decide]
/-- Float64 of what has at least one place. -/
theorem f64_mid {r q n V p : Nat} {pr ac E : Int} {ng : Bool} (F : FltV h r q pr ac ng n V E) (hpr : 53 < pr) (hn : n ≤ 30000000)
    (hp : (p = 53 ∧ -1021 ≤ E ∧ E ≤ 2147483600) ∨ (1 ≤ p ∧ p ≤ 52 ∧ (p : Int) = E + 1074))
    (H : ∀ h', Ext h h' → R (.returned (.tuple #[.float .f64 (wordN ng (rung V (E - 64 * n))), .int .i8 (accN V (E - 64 * n) ng)])) h') :
    F1081_j17 B R (some ⟨r, 0, none⟩) (p : Int) h := by
  obtain ⟨o, c, ws, F1, M1, v1, hT, hq⟩ := F
  obtain ⟨hX, hD, hfl, hrr, hrp, hq53, hfr, hdp⟩ := mid_num hT hp
  have hp1 : 1 ≤ p := by omega
  have hp2 : p ≤ 53 := by omega
  have hEl : -2147483648 ≤ E ∧ E < 2147483647 := by omega
  refine alK fun rz g1 erz f1 o1 z1 => ?_
  have Z1 : Flt g1 rz 0 0 0 false none 0 0 0 := o1
  have hrz : rz ≠ r := by have := F1.lt; omega
  have hrq : rz ≠ q := by have := M1.lt; omega
  refine ⟨rz, 0, rfl, rz, 0, rfl, Own.stC Z1 (by simp) rfl fun a2 f2 => ?_⟩
  rw [wrap_u32_in (x := (p : Int)) (by omega) (by omega)] at a2 f2 ⊢
  generalize setCell g1 ⟨rz, 0, none⟩ (.int .u32 (p : Int)) = g2 at a2 f2 ⊢
  have Z2 : Flt g2 rz p 0 0 false none 0 0 0 := a2
  have F2 : FltV g2 r q pr ac ng n V E := ⟨o, c, ws, (F1.fr f1 id).fr f2 (fun e => hrz e.symm), (M1.fr f1 id).fr f2 (fun e => hrq e.symm), v1, hT, hq⟩
  refine K1098b Z2 F2 hrz hrq hpr hp1 hp2 hn hEl.1 hEl.2 fun g3 q3 o3 c3 Z3 M3 f3 => ⟨_, rfl, ?_⟩
  have fx : Ext h g3 := by
    have a := Fr.trans (Fr.trans (S := fun x => x = rz) (Ext.to f1) f2 fun _ _ e => e) f3 fun _ _ e => e
    exact Fr.toExt a fun x hx e => by omega
  have Fx : Flt g3 r pr ac 1 ng (some ⟨q, o, none⟩) n c E := ((F1.fr f1 id).fr f2 (fun e => hrz e.symm)).fr f3 (fun e => hrz e.symm)
  have HH := H g3 fx
  clear H F2 Z2 a2 f2 f3 M1 F1 f1 o1 z1 Z1
  generalize hrqd : rn V (64 * n - p) = rq at *
  have h01 := rndE_01 rq p
  refine ⟨rz, 0, rfl, rz, 0 + 6, rfl, _, Own.cell Z3 _, rz, 0, rfl, rz, 0 + 3, rfl, _, Own.cell Z3 _, fun e => by simp at e, fun _ => ?_⟩
  have hEd : rndE rq p = if rq < 2 ^ p then 0 else 1 := rfl
  rw [wrap_i32_in (by omega) (by omega)]
  by_cases hover : (1023 : Int) < E + rndE rq p - 1
  · rw [decide_eq_true hover]
    have hp53 : p = 53 := by omega
    subst hp53
    have hq52 := hq53 rfl
    rw [pow_53] at hEd hrp hdp
    have hE : -1021 ≤ E := by omega
    have hr : rung V (E - 64 * n) = 9218868437227405312 := by rw [hrr]; exact Nat.min_eq_right (n_over hE hEd hrp (Nat.le_trans hq52 hfr) hover)
    have hup : upN V (E - 64 * n) = true ∧ inxN V (E - 64 * n) = true := by
      by_cases hge : INF ≤ flo V (E - 64 * n)
      · unfold upN inxN
        rw [decide_eq_true hge]; simp
      · have hi : incN V (E - 64 * n) = true := by
          rw [incN_rn, hX, hD, hrqd, decide_eq_true_eq]
          rw [hfl] at hge
          exact n_up hE hEd hrp hq52 hover hdp hge
        unfold upN inxN
        rw [incN_odd hi, hi]; simp
    rw [hr, acc_over ng hup.1 hup.2] at HH
    refine ⟨fun _ => Fx.lng ⟨fun e => ?_, fun e => ?_⟩, fun e => by cases e⟩
    · subst e
      exact K185 (ng := true) rfl ⟨_, rfl, HH⟩
    · subst e
      exact K185 (ng := false) rfl ⟨_, rfl, HH⟩
  · rw [decide_eq_false hover]
    have hfI : flo V (E - 64 * n) < INF := by
      rw [hfl]
      rcases hp with ⟨rfl, h1, h2⟩ | ⟨h1, h2, h3⟩
      · rw [pow_53] at hEd hdp
        exact n_in h1 hEd hover hdp
      · rw [n_base0 (by omega), Nat.zero_mul, Nat.zero_add]
        have h4 : 2 ^ p ≤ 2 ^ 52 := Nat.pow_le_pow_right (by decide) h2
        rw [pow_52] at h4
        exact Nat.lt_of_lt_of_le hdp (Nat.le_trans h4 (by decide))
    rw [accR_N ng hX hD hfI] at Z3
    have hj28 : F1081_j28 B R (E + rndE rq p - 1) (some ⟨rz, 0, none⟩) (if ng then (9223372036854775808 : Int) else 0) 0 g3 := by
      rcases hp with ⟨rfl, h1, h2⟩ | ⟨h1, h2, h3⟩
      · rw [pow_53] at hEd hrp
        have hn := n_nor h1 hEd hrp (Nat.le_trans (hq53 rfl) hfr) hover
        rw [← rndW53, ← hrr] at hn
        have hk := hn.1
        have hk2 := hn.2
        clear hrr hn hfl hX hD hfI
        generalize rung V (E - 64 * n) = k at *
        generalize accN V (E - 64 * n) ng = ac2 at *
        exact f64_nor Z3 M3 (by omega) (by omega) hk hk2 HH
      · have hr : rung V (E - 64 * n) = rq := by
          rw [hrr, n_base0 (by omega), Nat.zero_mul, Nat.zero_add]
          have h4 : 2 ^ p ≤ 2 ^ 52 := Nat.pow_le_pow_right (by decide) h2
          rw [pow_52] at h4
          exact Nat.min_eq_left (Nat.le_trans hrp (Nat.le_trans h4 (by decide)))
        rw [hr] at HH
        by_cases hlt : E + rndE rq p - 1 < -1022
        · have h52 : rq < 4503599627370496 := by
            by_cases hc : rq < 2 ^ p
            · have h4 : 2 ^ p ≤ 2 ^ 52 := Nat.pow_le_pow_right (by decide) h2
              rw [pow_52] at h4
              exact Nat.lt_of_lt_of_le hc h4
            · rw [if_neg hc] at hEd
              have h51 : p ≤ 51 := by omega
              have h4 : 2 ^ p ≤ 2 ^ 51 := Nat.pow_le_pow_right (by decide) h51
              exact Nat.lt_of_le_of_lt (Nat.le_trans hrp h4) (by decide)
          exact f64_den Z3 M3 h1 h2 h3 hrp h52 hlt HH
        · obtain ⟨e1, e2, e3⟩ := n_one (show E ≤ -1022 by omega) hEd hlt
          have hp52 : p = 52 := by omega
          subst hp52
          have hrq' : rq = 4503599627370496 := by rw [pow_52] at hrp e3; omega
          have hw : rndW rq 52 = 9223372036854775808 := by unfold rndW; rw [if_neg e3]
          refine f64_nor Z3 M3 hlt (by omega) (k := 4503599627370496) ?_ (by decide) (by rw [← hrq']; exact HH)
          rw [hw, e1, e2]; decide
    refine ⟨fun e => (by cases e), fun _ => Fx.lng ⟨fun e => ?_, fun e => ?_⟩⟩
    · rw [e] at hj28; exact hj28
    · rw [e] at hj28; exact hj28
end Go.Proofs
set_option linter.unusedVariables false
namespace Go.Eng
open Go
/-- Of a number below the smallest float's half or at it. -/
theorem low_num {V n : Nat} {E : Int} (hT : Top n V) (hE : E ≤ -1074) :
    flo V (E - 64 * n) = 0 ∧ odd V (E - 64 * n) = true ∧ incN V (E - 64 * n) = (decide (E = -1074) && decide (V % 2 ^ (64 * n - 1) ≠ 0)) := by
  have hn0 := (top_pos hT).1
  have hX := top_cutX (E := E) hT
  have hD : cutD V (E - 64 * n) = 64 * n + (-(E + 1074)).toNat := by rw [top_cutD hT]; omega
  have hL := top_last (E := E) hT
  have hlt : V < 2 ^ (64 * n + (-(E + 1074)).toNat) := Nat.lt_of_lt_of_le hT.2 (Nat.pow_le_pow_right (by decide) (by omega))
  have hz : V / 2 ^ (64 * n + (-(E + 1074)).toNat) = 0 := Nat.div_eq_of_lt hlt
  have hm : V % 2 ^ (64 * n + (-(E + 1074)).toNat) = V := Nat.mod_eq_of_lt hlt
  refine ⟨?_, ?_, ?_⟩
  · unfold flo; rw [hX, hD, hL, hz, show (max (E - 53) (-1074) + 1074).toNat = 0 by omega]
  · unfold odd; rw [hX, hD, hm]
    have := (top_pos hT).2
    exact decide_eq_true (by omega)
  · unfold incN; rw [hX, hD, hm, hz]
    have hV := hT.1
    have h2 : 2 ^ (64 * n) = 2 * 2 ^ (64 * n - 1) := by rw [Nat.mul_comm 2, ← Nat.pow_succ, show (64 * n - 1).succ = 64 * n by omega]
    have hV2 := hT.2
    rw [h2] at hV2
    have hmod : V % 2 ^ (64 * n - 1) = V - 2 ^ (64 * n - 1) := by
      rw [Nat.mod_eq_sub_mod hV, Nat.mod_eq_of_lt (by omega)]
    by_cases hE2 : E = -1074
    · rw [decide_eq_true hE2, Bool.true_and, hmod, show 64 * n + (-(E + 1074)).toNat = 64 * n by omega, h2]
      by_cases h : V = 2 ^ (64 * n - 1)
      · rw [decide_eq_false (by omega), decide_eq_false (by omega)]
      · rw [decide_eq_true (by omega), decide_eq_true (by omega)]
    · rw [decide_eq_false hE2, Bool.false_and, decide_eq_false]
      have h3 : 2 * 2 ^ (64 * n) ≤ 2 ^ (64 * n + (-(E + 1074)).toNat) := by
        rw [Nat.mul_comm, ← Nat.pow_succ]
        exact Nat.pow_le_pow_right (by decide) (by omega)
      rw [h2] at h3
      omega
theorem low_zero {V : Nat} {e : Int} (ng : Bool) (h1 : flo V e = 0) (h2 : odd V e = true) (h3 : incN V e = false) : rung V e = 0 ∧ accN V e ng = if ng then 1 else -1 := by
  refine ⟨?_, ?_⟩
  · rw [rung_idx V e false]; unfold idxW awayW; rw [h1, h3]; rfl
  · unfold accN inxN upN
    rw [h1, h2, h3]
    cases ng <;> rfl
theorem low_one {V : Nat} {e : Int} (ng : Bool) (h1 : flo V e = 0) (h2 : odd V e = true) (h3 : incN V e = true) : rung V e = 1 ∧ accN V e ng = if ng then -1 else 1 := by
  refine ⟨?_, ?_⟩
  · rw [rung_idx V e false]; unfold idxW awayW; rw [h1, h3]; rfl
  · unfold accN inxN upN
    rw [h1, h2, h3]
    cases ng <;> rfl
end Go.Eng
namespace Go.Proofs
open Go Go.Eng
variable {B : World} {R : Ending → Heap → Prop} {h : Heap}
/-- Float64 of a number other than 0. -/
theorem K1081 {r q n V : Nat} {pr ac E : Int} {ng : Bool} (F : FltV h r q pr ac ng n V E) (hpr : 53 < pr) (hn : n ≤ 30000000) (hE : -2147480000 ≤ E) (hE2 : E ≤ 2147483600)
    (H : ∀ h', Ext h h' → R (.returned (.tuple #[.float .f64 (wordN ng (rung V (E - 64 * n))), .int .i8 (accN V (E - 64 * n) ng)])) h') :
    Ent Tryz.prog B 93 #[.pointer (some ⟨r, 0, none⟩)] R h := by
  have G := F
  obtain ⟨o, c, ws, F1, M1, v1, hT, hq⟩ := F
  have hn0 := (top_pos hT).1
  have w1 : IntKind.i32.wrap (E - (1 : Int)) = E - 1 := wrap_i32_in (by omega) (by omega)
  have w2 : IntKind.i64.wrap (E - 1) = E - 1 := i64_in (by omega) (by omega)
  have w3 : IntKind.i64.wrap ((1075 : Int) + (E - 1)) = E + 1074 := by rw [i64_in (by omega) (by omega)]; omega
  refine F1081_ok _ ⟨fun e => by simp at e, fun _ => F1.lfo ⟨fun _ => F1.lex ?_, fun e => absurd (of_decide_eq_false e) (by simp)⟩⟩
  rw [w1, w2, w3]
  refine ⟨fun e => ⟨fun e2 => ?_, fun e2 => ⟨fun e3 => ?_, fun e3 => ?_⟩⟩, fun e => ?_⟩
  · have h1 := of_decide_eq_true e2
    obtain ⟨a1, a2, a3⟩ := low_num (E := E) hT (by omega)
    rw [decide_eq_false (show ¬ E = -1074 by omega), Bool.false_and] at a3
    obtain ⟨b1, b2⟩ := low_zero ng a1 a2 a3
    have HH := H h Fr.rfl'
    rw [b1, b2] at HH
    refine ⟨fun _ => F1.lng ⟨fun e => ?_, fun e => ?_⟩, fun e => by cases e⟩
    · subst e; exact HH
    · subst e; exact HH
  · have h1 : E = -1074 := by have := of_decide_eq_true e3; omega
    obtain ⟨a1, a2, a3⟩ := low_num (E := E) hT (by omega)
    rw [decide_eq_true h1, Bool.true_and] at a3
    have HH := H h Fr.rfl'
    have hw : IntKind.u64.wrap ((IntKind.u64.wrap ((IntKind.u64.wrap (n : Int)) * (64 : Int))) - (1 : Int)) = ((64 * n - 1 : Nat) : Int) := by
      rw [wrap_u64_in (x := (n : Int)) (by omega) (by omega), wrap_u64_in (x := (n : Int) * 64) (by omega) (by omega), wrap_u64_in (by omega) (by omega)]
      omega
    refine F1.ma (F1.ma ?_)
    rw [hw]
    refine K1097 M1 (by omega) ⟨_, rfl, ?_⟩
    rw [show val B64 ws = V from v1]
    by_cases hz : V % 2 ^ (64 * n - 1) = 0
    · rw [decide_eq_false (by simp [hz])] at a3
      obtain ⟨b1, b2⟩ := low_zero ng a1 a2 a3
      rw [b1, b2] at HH
      rw [if_pos hz]
      refine ⟨fun _ => F1.lng ⟨fun e => ?_, fun e => ?_⟩, fun e => by cases e⟩
      · subst e; exact HH
      · subst e; exact HH
    · rw [decide_eq_true hz] at a3
      obtain ⟨b1, b2⟩ := low_one ng a1 a2 a3
      rw [b1, b2] at HH
      rw [if_neg hz]
      refine ⟨fun e => (by cases e), fun _ => ⟨fun _ => F1.lng ⟨fun e => ?_, fun e => ?_⟩, fun e => absurd (of_decide_eq_false e) (by omega)⟩⟩
      · subst e; exact HH
      · subst e; exact HH
  · have h1 := of_decide_eq_true e
    have h2 := of_decide_eq_false e2
    have h3 := of_decide_eq_false e3
    refine ⟨fun e => (by cases e), fun _ => ⟨fun e => absurd (of_decide_eq_true e) h3, fun _ => ?_⟩⟩
    have := f64_mid (B := B) (R := R) (p := (E + 1074).toNat) G hpr hn (.inr ⟨by omega, by omega, by omega⟩) H
    rw [show (((E + 1074).toNat : Nat) : Int) = E + 1074 by omega] at this
    exact this
  · have h1 := of_decide_eq_false e
    exact f64_mid (p := 53) G hpr hn (.inl ⟨rfl, by omega, by omega⟩) H
end Go.Proofs
namespace Go.Proofs
open Go Go.Eng
/-- math.Abs -/
def F94 (B : World) (R : Po) (a0 : Nat) (h : Heap) : Prop :=
 Ec B 56 #[.float .f64 a0] (retE (fun b0 c0 => ∃ d0, b0 = .int .u64 d0 ∧
 Ec B 64 #[.int .u64 (bitsI .andNot .u64 d0 (9223372036854775808 : Int))] (retE (fun e0 f0 => ∃ g0, e0 = .float .f64 g0 ∧
 R (.returned (.float .f64 g0)) f0)
(pk R)) c0)
(pk R)) h
def F94_L : Nat → List (Nat × TypeDesc) := fun _ => []
theorem F94_ok {B : World} {R : Ending → Heap → Prop} (a0 : Nat) {h : Heap} (H : F94 B R a0 h) : Ec B 35 #[.float .f64 a0] R h :=
 Ek Tryz.func35 (by kernel_rfl) (by kernel_rfl) (by kernel_rfl) F94_L [] (by kernel_rfl) H
end Go.Proofs
namespace Go.Proofs
open Go Go.Eng
variable {B : World} {R : Ending → Heap → Prop} {h : Heap}
/-- A cell of a block that is known, stored. -/
theorem _root_.Go.Eng.Own.stL {h : Heap} {b o : Nat} {l : List Value} {v : Value} {K : Heap → Prop} (H : Own h b l.toArray) (ho : o < l.length) (hv : oneCell v = true)
    (k : ∀ h', Own h' b (l.set o v).toArray → Fr (fun x => x = b) h h' → K h') : stC h b o v K :=
  H.stC (by simpa using ho) hv fun O f => k _ (by simpa using O) f
end Go.Proofs
namespace Go.Proofs
open Go Go.Eng
variable {B : World} {R : Ending → Heap → Prop} {h : Heap}
theorem NaNP_I64 : I64 NaNP := by unfold I64 NaNP; omega
theorem mulP_I64 (a b : Int) : I64 (mulP a b) := by
  unfold mulP timesP
  split
  · exact NaNP_I64
  · split
    · exact pat_I64 (by decide)
    · exact pat_I64 (by have := rung_lt (fW a * fW b).natAbs (-2148); omega)
theorem NumS.up {K : Nat} {neg : Bool} {p : Option Addr} {n : Nat} {e v : Int} (N : NumS K h neg p n e v) (d : Nat) : NumS (K + d) h neg p n e (v * ((2 ^ d : Nat) : Int)) := by
  obtain ⟨M, I, a1, a2⟩ := N
  refine ⟨M, I, by omega, ?_⟩
  rw [show (e + ((K + d : Nat) : Int)).toNat = (e + (K : Int)).toNat + d by omega, signed_add, a2]
end Go.Proofs
