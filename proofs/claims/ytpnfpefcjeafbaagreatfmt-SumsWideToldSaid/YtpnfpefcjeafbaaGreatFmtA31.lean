import Derived.Test.YtpnfpefcjeafbaaGreatFmtA30
import Derived.Test.YtpnfpefcjeafbaaGreatFmtA09
/- Here stand lemmas and contracts, in the order in which they are used. -/
set_option linter.unusedVariables false
set_option linter.unusedVariables false
namespace Go.Eng
open Go
theorem div_top {ws : List Nat} {n p V : Nat} (hl : ws.length = n) (h0 : 0 < n) (d : Dig 18446744073709551616 ws) (hV : val 18446744073709551616 ws = V) (hp : p ≤ 64) : V / 2 ^ (64 * n - p) = ws.getD (n - 1) 0 / 2 ^ (64 - p) := by
  have hw : ws ≠ [] := fun e => by rw [e] at hl; simp at hl; omega
  have hlast : ws.getLast hw = ws.getD (n - 1) 0 := by
    rw [List.getD_eq_getElem?_getD, List.getElem?_eq_getElem (by omega), Option.getD_some, List.getLast_eq_getElem]
    congr 1; omega
  have h1 : val 18446744073709551616 ws.dropLast < 2 ^ (64 * (n - 1)) := by
    have := val_lt (b := 18446744073709551616) (x := ws.dropLast) (fun w hw' => d w (List.dropLast_subset _ hw'))
    rw [List.length_dropLast, hl, show (18446744073709551616 : Nat) = 2 ^ 64 from by decide, ← Nat.pow_mul] at this
    exact this
  rw [← hV, val_top hw, hlast, hl, show (18446744073709551616 : Nat) ^ (n - 1) = 2 ^ (64 * (n - 1)) by rw [show (18446744073709551616 : Nat) = 2 ^ 64 from by decide, ← Nat.pow_mul]]
  rw [show 64 * n - p = 64 * (n - 1) + (64 - p) by omega, Nat.pow_add, ← Nat.div_div_eq_div_mul, Nat.add_mul_div_left _ _ (Nat.pow_pos (by decide)), Nat.div_eq_of_lt h1, Nat.zero_add]
end Go.Eng
namespace Go.Proofs
open Go Go.Eng
variable {B : World} {R : Ending → Heap → Prop} {h : Heap}
/-- How a rounding was told: 0, or above or below. -/
def accR (V k : Nat) (ng : Bool) : Int := if V % 2 ^ k = 0 then 0 else accI (decide (V / 2 ^ k < rn V k) != ng)
/-- Float.round to at most 53 bits. -/
theorem K1110b {r q o n c V p : Nat} {ac ex : Int} {ng : Bool} {ws : List Nat} (F : Flt h r p ac 1 ng (some ⟨q, o, none⟩) n c ex) (M : Mn h q o n c ws) (hq : q ≠ r) (hV : val B64 ws = V) (hT : Top n V)
    (hp : 1 ≤ p) (hp2 : p ≤ 53) (hn : n ≤ 30000000) (hex : -2147483648 ≤ ex) (hex2 : ex < 2147483647)
    (H : ∀ h' c', Flt h' r p (accR V (64 * n - p) ng) 1 ng (some ⟨q, o, none⟩) 1 c' (ex + rndE (rn V (64 * n - p)) p) → Mn h' q o 1 c' [rndW (rn V (64 * n - p)) p] → Fr (fun x => x = r ∨ x = q) h h' → R (.returned (.tuple #[])) h') :
    Ent Tryz.prog B 159 #[.pointer (some ⟨r, 0, none⟩), .int .u64 (0 : Int)] R h := by
  have h0 := (top_pos hT).1
  have hle := M.le
  have hl := M.len
  obtain ⟨i, hi⟩ : ∃ i : Nat, i + 1 = 64 * n - p := ⟨64 * n - p - 1, by omega⟩
  have hdt := div_top (p := p) hl h0 M.dig hV (by omega)
  have htop : 2 ^ 63 ≤ ws.getD (n - 1) 0 := by
    have h1 := div_top (p := 1) hl h0 M.dig hV (by decide)
    have h2 : 1 ≤ V / 2 ^ (64 * n - 1) := (Nat.le_div_iff_mul_le (Nat.pow_pos (by decide))).2 (by rw [Nat.one_mul]; exact hT.1)
    rw [h1, show 64 - 1 = 63 from rfl, Nat.le_div_iff_mul_le (by decide)] at h2
    omega
  refine rnd_head (i := i) F M hq hV (by omega) (by omega) hn fun h1 F1 f1 => ?_
  have M1 : Mn h1 q o n c ws := M.fr f1 hq
  have htB : ws.getD (n - 1) 0 < 18446744073709551616 := by
    rw [List.getD_eq_getElem?_getD, List.getElem?_eq_getElem (by omega)]
    exact M.dig.get (by omega)
  -- what remains to be shown of the one word
  have key : ∀ (h2 : Heap) (c2 : Nat), Flt h2 r p 0 1 ng (some ⟨q, o, none⟩) 1 c2 ex → Mn h2 q o 1 c2 [ws.getD (n - 1) 0] → Fr (fun x => x = r ∨ x = q) h h2 →
      F1110_j15 B R (some ⟨r, 0, none⟩) (bitsI .and .u64 (if V % 2 ^ i = 0 then (0 : Int) else 1) (1 : Int)) ((V / 2 ^ i % 2 : Nat) : Int) 1 h2 := by
    intro h2 c2 F2 M2 f2
    have es : bitsI .and .u64 (if V % 2 ^ i = 0 then (0 : Int) else 1) (1 : Int) = ((if V % 2 ^ i = 0 then 0 else 1 : Nat) : Int) := by split <;> decide
    rw [es]
    have hrb : V / 2 ^ i % 2 ≤ 1 := Nat.le_of_lt_succ (Nat.mod_lt _ (by decide))
    have hhalf : halfB V (64 * n - p) = decide (V / 2 ^ i % 2 = 1) := by
      unfold halfB
      rw [← hi, decide_eq_true (show 0 < i + 1 by omega), Bool.true_and, Nat.add_sub_cancel]
    have hrest : restB V (64 * n - p) = decide ((if V % 2 ^ i = 0 then 0 else 1 : Nat) = 1) := by
      unfold restB
      rw [← hi, Nat.add_sub_cancel]
      by_cases hi0 : 0 < i
      · rw [decide_eq_true hi0, Bool.true_and, decide_eq_decide]
        split <;> omega
      · have : i = 0 := by omega
        subst this
        rw [Nat.pow_zero, Nat.mod_one]; rfl
    have hinc := rn_bits' V (64 * n - p)
    rw [hhalf, hrest, hdt] at hinc
    have hodd := odd_bits V (64 * n - p)
    rw [hhalf, hrest] at hodd
    refine rnd_one F2 M2 hq hp hp2 (by split <;> decide) hrb htop hex hex2 _ rfl fun h3 F3 M3 f3 => ?_
    have e1 : ws.getD (n - 1) 0 / 2 ^ (64 - p) + (decide (V / 2 ^ i % 2 = 1) && (decide ((if V % 2 ^ i = 0 then 0 else 1 : Nat) = 1) || decide (ws.getD (n - 1) 0 / 2 ^ (64 - p) % 2 = 1))).toNat = rn V (64 * n - p) := by
      rw [hinc]
      congr 1
      generalize (decide (V / 2 ^ i % 2 = 1) && (decide ((if V % 2 ^ i = 0 then 0 else 1 : Nat) = 1) || decide (ws.getD (n - 1) 0 / 2 ^ (64 - p) % 2 = 1))) = b
      cases b <;> rfl
    rw [e1] at F3 M3
    have e2 : (if (if V % 2 ^ i = 0 then 0 else 1 : Nat) = 0 ∧ V / 2 ^ i % 2 = 0 then (0 : Int) else accI ((decide (V / 2 ^ i % 2 = 1) && (decide ((if V % 2 ^ i = 0 then 0 else 1 : Nat) = 1) || decide (ws.getD (n - 1) 0 / 2 ^ (64 - p) % 2 = 1))) != ng)) = accR V (64 * n - p) ng := by
      unfold accR
      rw [hdt]
      have c1 : ((if V % 2 ^ i = 0 then 0 else 1 : Nat) = 0 ∧ V / 2 ^ i % 2 = 0) ↔ V % 2 ^ (64 * n - p) = 0 := by
        have hd : decide (V % 2 ^ (64 * n - p) ≠ 0) = true ↔ (V / 2 ^ i % 2 = 1 ∨ (if V % 2 ^ i = 0 then 0 else 1 : Nat) = 1) := by rw [hodd]; simp
        rw [decide_eq_true_eq] at hd
        constructor
        · rintro ⟨a, b⟩
          rcases Classical.em (V % 2 ^ (64 * n - p) = 0) with h | h
          · exact h
          · rcases hd.1 h with h | h <;> omega
        · intro a
          have hn : ¬ (V / 2 ^ i % 2 = 1 ∨ (if V % 2 ^ i = 0 then 0 else 1 : Nat) = 1) := fun h => hd.2 h a
          have h01 : (if V % 2 ^ i = 0 then 0 else 1 : Nat) ≤ 1 := by split <;> decide
          omega
      have c2 : decide (ws.getD (n - 1) 0 / 2 ^ (64 - p) < rn V (64 * n - p)) = (decide (V / 2 ^ i % 2 = 1) && (decide ((if V % 2 ^ i = 0 then 0 else 1 : Nat) = 1) || decide (ws.getD (n - 1) 0 / 2 ^ (64 - p) % 2 = 1))) := by
        rw [← e1]
        generalize (decide (V / 2 ^ i % 2 = 1) && (decide ((if V % 2 ^ i = 0 then 0 else 1 : Nat) = 1) || decide (ws.getD (n - 1) 0 / 2 ^ (64 - p) % 2 = 1))) = b
        cases b <;> simp
      rw [c2]
      by_cases hc : (if V % 2 ^ i = 0 then 0 else 1 : Nat) = 0 ∧ V / 2 ^ i % 2 = 0
      · rw [if_pos hc, if_pos (c1.1 hc)]
      · rw [if_neg hc, if_neg fun e => hc (c1.2 e)]
    rw [e2] at F3
    exact H h3 c2 F3 M3 (Fr.trans f2 f3 fun _ _ e => e)
  have e5 : IntKind.u32.wrap (Int.tdiv (IntKind.u32.wrap ((p : Int) + 63)) 64) = 1 := by
    rw [wrap_u32_in (x := (p : Int) + 63) (by omega) (by omega), Int.tdiv_eq_ediv_of_nonneg (by omega), wrap_u32_in (by omega) (by omega)]
    omega
  have f1' : Fr (fun x => x = r ∨ x = q) h h1 := f1.mono fun _ _ e => .inl e
  refine F1.p0 ⟨by decide, ?_⟩
  rw [e5]
  refine ⟨fun e => F1.ma (F1.ma ?_), fun e => ?_⟩
  · have hn1 : 1 < n := by have := of_decide_eq_true e; omega
    rw [wrap_u32_in (x := (n : Int) - 1) (by omega) (by omega)]
    refine sl_from (l := n - 1) (by omega) (by omega) ?_
    rw [slP_some (by omega)]
    obtain ⟨cs, c1, c2, c3⟩ := M1.own
    have hsl : Sl .u64 h1 (some ⟨q, o + (n - 1), none⟩) [ws.getD (n - 1) 0] := .inr ⟨q, o + (n - 1), cs, rfl, c1, fun j hj => by
      have : j = 0 := by simp at hj; exact hj
      subst this
      have := c3 (n - 1) (by omega)
      rw [Nat.add_zero, this]
      simp only [List.getElem_cons_zero, List.getD_eq_getElem?_getD, List.getElem?_eq_getElem (show n - 1 < ws.length by omega), Option.getD_some]⟩
    refine copyK hsl (show [ws.getD (n - 1) 0].length = n - (n - 1) by simp; omega) pt_some c1 (by omega) fun h2 W => ?_
    have hm : Nat.min (n - (n - 1)) n = 1 := by show min _ _ = 1; omega
    rw [hm] at W
    have F2 : Flt h2 r p 0 1 ng (some ⟨q, o, none⟩) n c ex := F1.fr W.fr (fun e => hq e.symm)
    refine F2.ma (sl_to (m := 1) rfl (by omega) ?_)
    rw [slP0 pt_some]
    refine F2.sma fun h3 F3 f3 => ?_
    obtain ⟨cs2, w1, w2, w3, w4⟩ := W.own c1
    have M2 : Mn h2 q o 1 c [ws.getD (n - 1) 0] := ⟨⟨cs2, w1, by omega, w4⟩, rfl, by omega, M1.lim, fun w hw => by simp at hw; subst hw; simpa using htB⟩
    have f13 : Fr (fun x => x = r ∨ x = q) h h3 := Fr.trans (Fr.trans f1' (W.fr.mono (T := fun x => x = r ∨ x = q) fun _ _ e => .inr e) fun _ _ e => e) (f3.mono (T := fun x => x = r ∨ x = q) fun _ _ e => .inl e) fun _ _ e => e
    exact key h3 c F3 (M2.fr f3 hq) f13
  · have hn1 : n = 1 := by have := of_decide_eq_false e; omega
    subst hn1
    match ws, hl, M1, key with
    | [t], _, M1, key => exact key h1 c F1 M1 f1'
/-- Float.Set into a blank one of at most 53 bits. -/
theorem K1098b {rz r q n V p : Nat} {pr ac E : Int} {ng : Bool} (Z : Flt h rz p 0 0 false none 0 0 0) (F : FltV h r q pr ac ng n V E) (hr : rz ≠ r) (hrq : rz ≠ q) (hpr : 53 < pr)
    (hp : 1 ≤ p) (hp2 : p ≤ 53) (hn : n ≤ 30000000) (hex : -2147483648 ≤ E) (hex2 : E < 2147483647)
    (H : ∀ h' q' o' c', Flt h' rz p (accR V (64 * n - p) ng) 1 ng (some ⟨q', o', none⟩) 1 c' (E + rndE (rn V (64 * n - p)) p) → Mn h' q' o' 1 c' [rndW (rn V (64 * n - p)) p] → Fr (fun x => x = rz) h h' → R (.returned (.pointer (some ⟨rz, 0, none⟩))) h') :
    Ent Tryz.prog B 126 #[.pointer (some ⟨rz, 0, none⟩), .pointer (some ⟨r, 0, none⟩)] R h := by
  obtain ⟨o, c, ws, F1, M1, v1, t1, hq⟩ := F
  have h0 := (top_pos t1).1
  have ne : rz ≠ r := hr
  refine F1098_ok _ _ ⟨fun e => (by cases e), fun _ => Z.sac fun g1 Z1 f1 => .inr (.inr ⟨_, _, _, _, rfl, rfl, .inr ⟨hr, ⟨_, Z1⟩, ⟨_, F1.fr f1 fun e => hr e.symm⟩, ?_⟩⟩)⟩
  have X1 : Flt g1 r _ _ _ _ _ _ _ _ := F1.fr f1 fun e => hr e.symm
  refine ⟨fun _ => X1.lfo (Z1.sfo fun g2 Z2 f2 => ?_), fun e => by simp at e⟩
  have X2 : Flt g2 r _ _ _ _ _ _ _ _ := X1.fr f2 fun e => hr e.symm
  refine X2.lng (Z2.sng fun g3 Z3 f3 => ?_)
  have X3 : Flt g3 r _ _ _ _ _ _ _ _ := X2.fr f3 fun e => hr e.symm
  refine X3.lfo ⟨fun _ => X3.lex (Z3.sex fun g4 Z4 f4 => ?_), fun e => by simp at e⟩
  have X4 : Flt g4 r _ _ _ _ _ _ _ _ := X3.fr f4 fun e => hr e.symm
  have f14 : Fr (fun x => x = rz) h g4 := Fr.trans (Fr.trans (Fr.trans f1 f2 fun _ _ e => e) f3 fun _ _ e => e) f4 fun _ _ e => e
  have M4 : Mn g4 q o n c ws := M1.fr f14 fun e => hrq e.symm
  have hl := M1.len
  have hle := M1.le
  have hlim := M1.lim
  have ntop : Trim ws := by
    intro hh
    have hw : ws ≠ [] := fun e => by rw [e] at hl; simp at hl; omega
    rw [List.getLast?_eq_some_getLast hw] at hh
    have hz : ws.getLast hw = 0 := Option.some.inj hh
    have hv := val_top (b := 18446744073709551616) hw
    rw [hz, Nat.mul_zero, Nat.add_zero] at hv
    have h1 : val 18446744073709551616 ws.dropLast < 2 ^ (64 * (n - 1)) := by
      have := val_lt (b := 18446744073709551616) (x := ws.dropLast) (fun w hw' => M1.dig w (List.dropLast_subset _ hw'))
      rw [List.length_dropLast, hl, show (18446744073709551616 : Nat) = 2 ^ 64 from by decide, ← Nat.pow_mul] at this
      exact this
    rw [← hv, v1] at h1
    have := t1.1
    have h2 : 2 ^ (64 * (n - 1)) ≤ 2 ^ (64 * n - 1) := Nat.pow_le_pow_right (by decide) (by omega)
    omega
  have N4 : NatI g4 (some ⟨q, o, none⟩) n V := ⟨pt_some, by omega, ws, M4.sl, hl, M4.dig, ntop, v1⟩
  refine Z4.ma (X4.ma (K182 (S := fun _ => False) Dst.none N4 (by omega) fun q' c' g5 f5 hc5 N5 D5 => ⟨_, _, _, rfl, ?_⟩))
  obtain ⟨q2, o2, ws2, rfl, M5, v5, t5, hq5⟩ := Mn.of N5 D5 hc5 h0
  have Z5 : Flt g5 rz _ _ _ _ _ _ _ _ := Z4.fr f5 id
  have hsz : g4.size ≤ q2 := by rcases hq5 with e | e; exact e.elim; exact e
  have hq2 : q2 ≠ rz := by have := Z4.lt; omega
  refine Z5.sma fun g6 Z6 f6 => ?_
  have M6 : Mn g6 q2 o2 n c' ws2 := M5.fr f6 hq2
  have X6 : Flt g6 r _ _ _ _ _ _ _ _ := (X4.fr f5 id).fr f6 fun e => hr e.symm
  refine Z6.p0 ⟨fun e => by have := of_decide_eq_true e; omega, fun _ => Z6.p0 (X6.p0 ⟨fun _ => ?_, fun e => by have := of_decide_eq_false e; omega⟩)⟩
  refine K1110b Z6 M6 hq2 v5 t1 hp hp2 hn hex hex2 fun h' c2 Z7 M7 f7 => ⟨rfl, ?_⟩
  have a1 : Fr (fun x => x = rz) h g6 := Fr.trans f14 (Fr.trans (Ext.to f5) f6 (S := fun x => x = rz) fun _ _ e => e) fun _ _ e => e
  refine H h' q2 o2 c2 Z7 M7 ⟨Nat.le_trans a1.size f7.size, fun b hb hs => ?_⟩
  have hb4 : b < g4.size := Nat.lt_of_lt_of_le hb f14.size
  rw [f7.same b (Nat.lt_of_lt_of_le hb a1.size) (fun e => e.elim hs (by omega)), a1.same b hb hs]
end Go.Proofs
namespace Go.Proofs
open Go Go.Eng
/-- math.ldexp -/
def F152_j39 (B : World) (R : Po) (a0 b0 : Int) (c0 : Nat) (d0 : Heap) : Prop :=
  0 ≤ (52 : Int) ∧
 Ec B 64 #[.int .u64 (bitsI .or .u64 (bitsI .andNot .u64 b0 (9218868437227405312 : Int)) (IntKind.u64.wrap ((IntKind.u64.wrap (IntKind.i64.wrap (a0 + (1023 : Int)))) * 2 ^ min (Int.toNat (52 : Int)) IntKind.u64.bits)))] (retE (fun e0 f0 => ∃ g0, e0 = .float .f64 g0 ∧
 flW .f64 (FloatKind.f64.format.mul c0 g0) c0 g0 fun i0 =>
 R (.returned (.float .f64 i0)) f0)
(pk R)) d0
def F152_j8 (B : World) (R : Po) (j0 : Nat) (k0 : Int) (l0 : Bool) (m0 : Heap) : Prop :=
(l0 = true →
 R (.returned (.float .f64 j0)) m0) ∧
(l0 = false →
 Ec B 163 #[.float .f64 j0] (retE (fun n0 o0 => ∃ p0 q0, n0 = .tuple #[.float .f64 p0, .int .i64 q0] ∧
 Ec B 56 #[.float .f64 p0] (retE (fun r0 s0 => ∃ t0, r0 = .int .u64 t0 ∧
0 ≤ (52 : Int) ∧
((decide ((IntKind.i64.wrap ((IntKind.i64.wrap (k0 + q0)) + (IntKind.i64.wrap ((bitsI .and .i64 (IntKind.i64.wrap (Int.fdiv t0 (2 ^ min (Int.toNat (52 : Int)) IntKind.u64.bits))) (2047 : Int)) - (1023 : Int))))) < (-1075 : Int))) = true →
 Ec B 162 #[.float .f64 0, .float .f64 p0] (retE (fun u0 v0 => ∃ w0, u0 = .float .f64 w0 ∧
 R (.returned (.float .f64 w0)) v0)
(pk R)) s0) ∧
((decide ((IntKind.i64.wrap ((IntKind.i64.wrap (k0 + q0)) + (IntKind.i64.wrap ((bitsI .and .i64 (IntKind.i64.wrap (Int.fdiv t0 (2 ^ min (Int.toNat (52 : Int)) IntKind.u64.bits))) (2047 : Int)) - (1023 : Int))))) < (-1075 : Int))) = false →
((decide ((1023 : Int) < (IntKind.i64.wrap ((IntKind.i64.wrap (k0 + q0)) + (IntKind.i64.wrap ((bitsI .and .i64 (IntKind.i64.wrap (Int.fdiv t0 (2 ^ min (Int.toNat (52 : Int)) IntKind.u64.bits))) (2047 : Int)) - (1023 : Int))))))) = true →
((FloatKind.f64.format.order p0 0 == some .lt) = true →
 Ec B 98 #[.int .i64 (-1 : Int)] (retE (fun x0 y0 => ∃ z0, x0 = .float .f64 z0 ∧
 R (.returned (.float .f64 z0)) y0)
(pk R)) s0) ∧
((FloatKind.f64.format.order p0 0 == some .lt) = false →
 Ec B 98 #[.int .i64 (1 : Int)] (retE (fun a1 b1 => ∃ c1, a1 = .float .f64 c1 ∧
 R (.returned (.float .f64 c1)) b1)
(pk R)) s0)) ∧
((decide ((1023 : Int) < (IntKind.i64.wrap ((IntKind.i64.wrap (k0 + q0)) + (IntKind.i64.wrap ((bitsI .and .i64 (IntKind.i64.wrap (Int.fdiv t0 (2 ^ min (Int.toNat (52 : Int)) IntKind.u64.bits))) (2047 : Int)) - (1023 : Int))))))) = false →
((decide ((IntKind.i64.wrap ((IntKind.i64.wrap (k0 + q0)) + (IntKind.i64.wrap ((bitsI .and .i64 (IntKind.i64.wrap (Int.fdiv t0 (2 ^ min (Int.toNat (52 : Int)) IntKind.u64.bits))) (2047 : Int)) - (1023 : Int))))) < (-1022 : Int))) = true →
 F152_j39 B R (IntKind.i64.wrap ((IntKind.i64.wrap ((IntKind.i64.wrap (k0 + q0)) + (IntKind.i64.wrap ((bitsI .and .i64 (IntKind.i64.wrap (Int.fdiv t0 (2 ^ min (Int.toNat (52 : Int)) IntKind.u64.bits))) (2047 : Int)) - (1023 : Int))))) + (53 : Int))) t0 4368491638549381120 s0) ∧
((decide ((IntKind.i64.wrap ((IntKind.i64.wrap (k0 + q0)) + (IntKind.i64.wrap ((bitsI .and .i64 (IntKind.i64.wrap (Int.fdiv t0 (2 ^ min (Int.toNat (52 : Int)) IntKind.u64.bits))) (2047 : Int)) - (1023 : Int))))) < (-1022 : Int))) = false →
 F152_j39 B R (IntKind.i64.wrap ((IntKind.i64.wrap (k0 + q0)) + (IntKind.i64.wrap ((bitsI .and .i64 (IntKind.i64.wrap (Int.fdiv t0 (2 ^ min (Int.toNat (52 : Int)) IntKind.u64.bits))) (2047 : Int)) - (1023 : Int))))) t0 4607182418800017408 s0))))
(pk R)) o0)
(pk R)) m0)
def F152 (B : World) (R : Po) (d1 : Nat) (e1 : Int) (h : Heap) : Prop :=
((FloatKind.f64.format.order d1 0 == some .eq) = true →
 R (.returned (.float .f64 d1)) h) ∧
((FloatKind.f64.format.order d1 0 == some .eq) = false →
 Ec B 65 #[.float .f64 d1, .int .i64 (0 : Int)] (retE (fun f1 g1 => ∃ i1, f1 = .bool i1 ∧
(i1 = true →
 F152_j8 B R d1 e1 true g1) ∧
(i1 = false →
 Ec B 161 #[.float .f64 d1] (retE (fun j1 k1 => ∃ l1, j1 = .bool l1 ∧
 F152_j8 B R d1 e1 l1 k1)
(pk R)) g1))
(pk R)) h)
def F152_L : Nat → List (Nat × TypeDesc) := fun _ => []
theorem F152_ok {B : World} {R : Ending → Heap → Prop} (d1 : Nat) (e1 : Int) {h : Heap} (H : F152 B R d1 e1 h) : Ec B 139 #[.float .f64 d1, .int .i64 e1] R h :=
 Ek Tryz.func139 (by kernel_rfl) (by kernel_rfl) (by kernel_rfl) F152_L [] (by kernel_rfl) H

/-- math.IsNaN -/
def F183 (B : World) (R : Po) (a0 : Nat) (h : Heap) : Prop :=
 R (.returned (.bool (FloatKind.f64.format.order a0 a0 != some .eq))) h
def F183_L : Nat → List (Nat × TypeDesc) := fun _ => []
theorem F183_ok {B : World} {R : Ending → Heap → Prop} (a0 : Nat) {h : Heap} (H : F183 B R a0 h) : Ec B 161 #[.float .f64 a0] R h :=
 Ek Tryz.func161 (by kernel_rfl) (by kernel_rfl) (by kernel_rfl) F183_L [] (by kernel_rfl) H

/-- math.normalize -/
def F184 (B : World) (R : Po) (a0 : Nat) (h : Heap) : Prop :=
 Ec B 35 #[.float .f64 a0] (retE (fun b0 c0 => ∃ d0, b0 = .float .f64 d0 ∧
((FloatKind.f64.format.order d0 4503599627370496 == some .lt) = true →
 flW .f64 (FloatKind.f64.format.mul a0 4841369599423283200) a0 4841369599423283200 fun e0 =>
 R (.returned (.tuple #[.float .f64 e0, .int .i64 (-52 : Int)])) c0) ∧
((FloatKind.f64.format.order d0 4503599627370496 == some .lt) = false →
 R (.returned (.tuple #[.float .f64 a0, .int .i64 (0 : Int)])) c0))
(pk R)) h
def F184_L : Nat → List (Nat × TypeDesc) := fun _ => []
theorem F184_ok {B : World} {R : Ending → Heap → Prop} (a0 : Nat) {h : Heap} (H : F184 B R a0 h) : Ec B 163 #[.float .f64 a0] R h :=
 Ek Tryz.func163 (by kernel_rfl) (by kernel_rfl) (by kernel_rfl) F184_L [] (by kernel_rfl) H

/-- math.Inf -/
def F185_j2 (B : World) (R : Po) (a0 : Int) (b0 : Heap) : Prop :=
 Ec B 64 #[.int .u64 a0] (retE (fun c0 d0 => ∃ e0, c0 = .float .f64 e0 ∧
 R (.returned (.float .f64 e0)) d0)
(pk R)) b0
def F185 (B : World) (R : Po) (f0 : Int) (h : Heap) : Prop :=
((decide ((0 : Int) ≤ f0)) = true →
 F185_j2 B R (9218868437227405312 : Int) h) ∧
((decide ((0 : Int) ≤ f0)) = false →
 F185_j2 B R (18442240474082181120 : Int) h)
def F185_L : Nat → List (Nat × TypeDesc) := fun _ => []
theorem F185_ok {B : World} {R : Ending → Heap → Prop} (f0 : Int) {h : Heap} (H : F185 B R f0 h) : Ec B 98 #[.int .i64 f0] R h :=
 Ek Tryz.func98 (by kernel_rfl) (by kernel_rfl) (by kernel_rfl) F185_L [] (by kernel_rfl) H
end Go.Proofs
set_option linter.unusedVariables false
namespace Go.Eng
open Go
/-- The word of a rung with a sign. -/
def wordN (ng : Bool) (k : Nat) : Nat := k + (if ng then 9223372036854775808 else 0)
theorem wordN_sg {ng : Bool} {k : Nat} (h : k < 9223372036854775808) : sg (wordN ng k) = pat ng k := by
  unfold wordN sg pat
  cases ng
  · simp only [Bool.false_eq_true, if_false, Nat.add_zero]; rw [if_pos h]
  · simp only [if_true]; rw [if_neg (by omega)]; omega
section
variable {V n : Nat} {E : Int}
theorem top_last (hT : Top n V) : lastP V (E - 64 * n) = max (E - 53) (-1074) := by
  have := (top_pos hT).1
  unfold lastP
  rw [top_log hT]
  omega
theorem top_cutX (hT : Top n V) : cutX V (E - 64 * n) = V := by
  have := (top_pos hT).1
  unfold cutX
  rw [top_last hT, show (E - 64 * (n : Int) - max (E - 53) (-1074)).toNat = 0 by omega, Nat.pow_zero, Nat.mul_one]
theorem top_cutD (hT : Top n V) : cutD V (E - 64 * n) = (max (E - 53) (-1074) - (E - 64 * n)).toNat := by
  unfold cutD
  rw [top_last hT]
theorem incN_rn (m : Nat) (e : Int) : incN m e = decide (cutX m e / 2 ^ cutD m e < rn (cutX m e) (cutD m e)) := by
  unfold incN rn
  by_cases h : 2 ^ cutD m e < 2 * (cutX m e % 2 ^ cutD m e) ∨ (2 ^ cutD m e = 2 * (cutX m e % 2 ^ cutD m e) ∧ cutX m e / 2 ^ cutD m e % 2 = 1)
  · rw [if_pos h, decide_eq_true h]; simp
  · rw [if_neg h, decide_eq_false h]; simp
theorem rung_rn (m : Nat) (e : Int) : rung m e = min ((lastP m e + 1074).toNat * 4503599627370496 + rn (cutX m e) (cutD m e)) 9218868437227405312 := rfl
/-- How the nearest float is told. -/
def accN (m : Nat) (e : Int) (ng : Bool) : Int := if inxN m e then (if upN m e != ng then 1 else -1) else 0
end
end Go.Eng
namespace Go.Proofs
open Go Go.Eng
variable {B : World} {R : Ending → Heap → Prop} {h : Heap}
theorem accR_N {V k : Nat} (ng : Bool) {m : Nat} {e : Int} (hX : cutX m e = V) (hD : cutD m e = k) (hf : flo m e < INF) : accR V k ng = accN m e ng := by
  unfold accR accN inxN upN
  rw [incN_rn, hX, hD]
  have h1 : decide (INF ≤ flo m e) = false := by rw [decide_eq_false_iff_not]; omega
  rw [h1, Bool.or_false, Bool.or_false]
  unfold odd
  rw [hX, hD]
  by_cases h : V % 2 ^ k = 0
  · rw [if_pos h, decide_eq_false (by omega)]; rfl
  · rw [if_neg h, decide_eq_true h]; rfl
/-- math.Inf. -/
theorem wordN_f (k : Nat) : wordN false k = k := by unfold wordN; simp
theorem wordN_t (k : Nat) : wordN true k = k + 9223372036854775808 := by unfold wordN; simp
theorem K185 {s : Int} {ng : Bool} (hs : decide ((0 : Int) ≤ s) = !ng) (H : R (.returned (.float .f64 (wordN ng 9218868437227405312))) h) : Ent Tryz.prog B 98 #[.int .i64 s] R h := by
  have k : ∀ w : Nat, ∀ x : Int, x = (w : Int) → R (.returned (.float .f64 w)) h → F185_j2 B R x h := fun w x hx hr => by
    subst hx
    exact E116 (n := w) ⟨_, rfl, hr⟩
  refine F185_ok _ ⟨fun e => k 9218868437227405312 _ (by omega) ?_, fun e => k 18442240474082181120 _ (by omega) ?_⟩
  · rw [e] at hs
    have : ng = false := by cases ng <;> simp at hs ⊢
    subst this
    rw [wordN_f] at H; exact H
  · rw [e] at hs
    have : ng = true := by cases ng <;> simp at hs ⊢
    subst this
    rw [wordN_t] at H; exact H
theorem or_sign (ng : Bool) {m : Nat} (hm : m < 9223372036854775808) : bitsI .or .u64 (if ng then (9223372036854775808 : Int) else 0) (m : Int) = (wordN ng m : Int) := by
  unfold wordN
  cases ng
  · have h := bitsI_or (a := 0) (b := m) (by omega) (by omega)
    rw [Nat.zero_or] at h
    exact h
  · have h := bitsI_or (a := 9223372036854775808) (b := m) (by omega) (by omega)
    have h2 := or_add (a := 1) (b := m) (s := 63) hm
    rw [Nat.one_mul] at h2
    have h3 : (9223372036854775808 : Nat) ||| m = m + 9223372036854775808 := by rw [Nat.add_comm]; exact h2
    rw [h3] at h
    exact h
/-- The end of Float64: sign, exponent and fraction put together. -/
theorem f64_end {rz q o c w : Nat} {p ac E : Int} {ng : Bool} (Z : Flt h rz p ac 1 ng (some ⟨q, o, none⟩) 1 c E) {a b : Nat} (hb : b < 4503599627370496) (hab : a * 4503599627370496 + b < 9223372036854775808)
    (H : R (.returned (.tuple #[.float .f64 (wordN ng (a * 4503599627370496 + b)), .int .i8 ac])) h) :
    F1081_j33 B R (some ⟨rz, 0, none⟩) (if ng then (9223372036854775808 : Int) else 0) ((a * 4503599627370496 : Nat) : Int) (b : Int) h := by
  have e1 : bitsI .or .u64 (bitsI .or .u64 (if ng then (9223372036854775808 : Int) else 0) ((a * 4503599627370496 : Nat) : Int)) (b : Int) = (wordN ng (a * 4503599627370496 + b) : Int) := by
    have ha : a * 4503599627370496 < 9223372036854775808 := Nat.lt_of_le_of_lt (Nat.le_add_right _ b) hab
    rw [or_sign ng (m := a * 4503599627370496) ha]
    have hw : wordN ng (a * 4503599627370496) < 18446744073709551616 := by
      cases ng
      · rw [wordN_f]; exact Nat.lt_trans ha (by decide)
      · rw [wordN_t]; exact Nat.lt_of_lt_of_eq (Nat.add_lt_add_right ha _) (by decide)
    rw [bitsI_or hw (by omega)]
    congr 1
    unfold wordN
    have e52 : (2 : Nat) ^ 52 = 4503599627370496 := by decide
    have h2 : ∀ x : Nat, x * 4503599627370496 ||| b = x * 4503599627370496 + b := fun x => by
      have := or_add (a := x) (b := b) (s := 52) (by rw [e52]; exact hb)
      rwa [e52] at this
    cases ng
    · simp only [Bool.false_eq_true, if_false, Nat.add_zero]; exact h2 a
    · simp only [if_true]
      rw [show a * 4503599627370496 + 9223372036854775808 = (a + 2048) * 4503599627370496 by omega, h2]
      omega
  refine ⟨rz, 0, rfl, rz, 0 + 2, rfl, ac, Own.cell Z _, ?_⟩
  rw [e1]
  exact E116 ⟨_, rfl, rfl, H⟩
end Go.Proofs
set_option linter.unusedVariables false
namespace Go.Proofs
open Go Go.Eng
variable {B : World} {R : Ending → Heap → Prop} {h : Heap}
theorem rndE_01 (rq p : Nat) : rndE rq p = 0 ∨ rndE rq p = 1 := by unfold rndE; split; exact .inl rfl; exact .inr rfl
/-- Float64's end, of what is below the normal ones. -/
theorem f64_den {rz q o c p rq : Nat} {pr ac E X : Int} {ng : Bool} (Z : Flt h rz pr ac 1 ng (some ⟨q, o, none⟩) 1 c X) (M : Mn h q o 1 c [rndW rq p]) (hp1 : 1 ≤ p) (hp2 : p ≤ 52) (hpE : (p : Int) = E + 1074)
    (hrq : rq ≤ 2 ^ p) (h52 : rq < 4503599627370496) (hlt : E + rndE rq p - 1 < -1022) (HH : R (.returned (.tuple #[.float .f64 (wordN ng rq), .int .i8 ac])) h) :
    F1081_j28 B R (E + rndE rq p - 1) (some ⟨rz, 0, none⟩) (if ng then (9223372036854775808 : Int) else 0) 0 h := by
  have h01 := rndE_01 rq p
  refine ⟨fun e => ⟨rz, 0, rfl, rz, 0 + 5, rfl, _, _, _, Own.cell Z _, K1099 M (by decide) ⟨_, rfl, ?_⟩⟩, fun e => absurd hlt (of_decide_eq_false e)⟩
  have esh : IntKind.u64.wrap (IntKind.i64.wrap ((64 : Int) - (IntKind.i64.wrap ((1075 : Int) + (IntKind.i64.wrap (E + rndE rq p - 1)))))) = ((64 - p - (rndE rq p).toNat : Nat) : Int) := by
    generalize rndE rq p = x at *
    rw [i64_in (x := E + x - 1) (by omega) (by omega), i64_in (x := 1075 + (E + x - 1)) (by omega) (by omega), i64_in (by omega) (by omega), wrap_u64_in (by omega) (by omega)]
    omega
  rw [esh]
  refine ⟨Int.natCast_nonneg _, ?_⟩
  rw [fdiv_pow (by omega)]
  have hw : ([rndW rq p].getD (1 - 1) 0) / 2 ^ (64 - p - (rndE rq p).toNat) = rq := by
    show rndW rq p / _ = _
    unfold rndW rndE
    by_cases hlt2 : rq < 2 ^ p
    · rw [if_pos hlt2, if_pos hlt2, Int.toNat_zero, Nat.sub_zero, Nat.mul_div_cancel _ (Nat.pow_pos (by decide))]
    · rw [if_neg hlt2, if_neg hlt2, show (1 : Int).toNat = 1 from rfl, show rq = 2 ^ p by omega]
      rw [show (9223372036854775808 : Nat) = 2 ^ p * 2 ^ (64 - p - 1) by rw [← Nat.pow_add, show p + (64 - p - 1) = 63 by omega], Nat.mul_div_cancel _ (Nat.pow_pos (by decide))]
  rw [hw]
  have := f64_end (w := 0) (B := B) (R := R) Z (a := 0) (b := rq) h52 (by rw [Nat.zero_mul, Nat.zero_add]; exact Nat.lt_trans h52 (by decide)) (by rw [Nat.zero_mul, Nat.zero_add]; exact HH)
  rw [Nat.zero_mul] at this
  exact this
/-- Float64's end, of normal ones. -/
theorem f64_nor {rz q o c p rq k : Nat} {pr ac E X : Int} {ng : Bool} (Z : Flt h rz pr ac 1 ng (some ⟨q, o, none⟩) 1 c X) (M : Mn h q o 1 c [rndW rq p])
    (hge : ¬ E + rndE rq p - 1 < -1022) (hle : E + rndE rq p ≤ 1024) (hk : k = (E + rndE rq p + 1022).toNat * 4503599627370496 + rndW rq p / 2048 % 4503599627370496) (hk2 : k < 9223372036854775808)
    (HH : R (.returned (.tuple #[.float .f64 (wordN ng k), .int .i8 ac])) h) :
    F1081_j28 B R (E + rndE rq p - 1) (some ⟨rz, 0, none⟩) (if ng then (9223372036854775808 : Int) else 0) 0 h := by
  refine ⟨fun e => absurd (of_decide_eq_true e) hge, fun e => ⟨by decide, rz, 0, rfl, rz, 0 + 5, rfl, _, _, _, Own.cell Z _, K1099 M (by decide) ⟨_, rfl, by decide, ?_⟩⟩⟩
  have hbx : IntKind.u64.wrap ((IntKind.u64.wrap (IntKind.i32.wrap ((E + rndE rq p - 1) + (1023 : Int)))) * 2 ^ min (Int.toNat (52 : Int)) IntKind.u64.bits) = (((E + rndE rq p + 1022).toNat * 4503599627370496 : Nat) : Int) := by
    generalize rndE rq p = x at *
    rw [wrap_i32_in (by omega) (by omega), wrap_u64_in (x := (E + x - 1) + 1023) (by omega) (by omega), show (E + x - 1) + 1023 = (((E + x + 1022).toNat : Nat) : Int) by omega]
    have := shl_pow (x := (E + x + 1022).toNat) (s := 52) (by decide)
    rw [show ((52 : Nat) : Int) = 52 from rfl] at this
    rw [this, show (2 : Nat) ^ 52 = 4503599627370496 by decide, Nat.mod_eq_of_lt (by omega)]
  have h3 : rndW rq p < 18446744073709551616 := M.dig _ (by simp)
  have hmt : bitsI .and .u64 (Int.fdiv (([rndW rq p].getD (1 - 1) 0 : Nat) : Int) (2 ^ min (Int.toNat (11 : Int)) IntKind.u64.bits)) (4503599627370495 : Int) = ((rndW rq p / 2048 % 4503599627370496 : Nat) : Int) := by
    show bitsI .and .u64 (Int.fdiv ((rndW rq p : Nat) : Int) _) _ = _
    generalize rndW rq p = w at *
    have h1 := fdiv_pow (x := w) (s := 11) (by decide)
    rw [show ((11 : Nat) : Int) = 11 from rfl, show (2 : Nat) ^ 11 = 2048 by decide] at h1
    have h2 := bitsI_and (a := w / 2048) (b := 4503599627370495) (by omega)
    rw [show ((4503599627370495 : Nat) : Int) = 4503599627370495 from rfl] at h2
    rw [h1, h2, Nat.mod_eq_of_lt (by decide : 4503599627370495 < 18446744073709551616)]
    have h4 := Nat.and_two_pow_sub_one_eq_mod (w / 2048) 52
    rw [show (2 : Nat) ^ 52 - 1 = 4503599627370495 by decide, show (2 : Nat) ^ 52 = 4503599627370496 by decide] at h4
    rw [h4]
  rw [hbx, hmt]
  refine f64_end (w := 0) Z (Nat.mod_lt _ (by decide)) (by rw [← hk]; exact hk2) ?_
  rw [← hk]; exact HH
end Go.Proofs
