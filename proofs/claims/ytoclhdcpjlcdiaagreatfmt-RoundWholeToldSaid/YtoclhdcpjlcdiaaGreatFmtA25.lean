import Derived.Test.YtoclhdcpjlcdiaaGreatFmtA24
import Derived.Test.YtoclhdcpjlcdiaaGreatFmtA03
/- Here stand lemmas: further walks of eft. -/
set_option linter.unusedVariables false
namespace Go.Proofs
open Go Go.Eng
variable {B : World} {R : Ending → Heap → Prop} {h : Heap}
/-- bits.Class. -/
theorem K17 {b : Int} (H : R (.returned (.int .i64 (cls b))) h) : Ent Tryz.prog B 7 #[.int .i64 b] R h := by
  refine F17_ok _ ⟨by decide, ?_⟩
  rw [and_fE, and_fT]
  refine F53_ok _ _ _ ?_
  have dE : decide (((fE b : Nat) : Int) = 2047) = decide (fE b = 2047) := by rw [decide_eq_decide]; omega
  have dT : decide (((fT b : Nat) : Int) = 0) = decide (fT b = 0) := by rw [decide_eq_decide]; omega
  have dE0 : decide (((fE b : Nat) : Int) = 0) = decide (fE b = 0) := by rw [decide_eq_decide]; omega
  unfold F53 F53_j4 F53_j17 F53_j25 F53_j22 F53_j14 F53_j11
  rw [dE, dT, dE0]
  have Hc : ∀ x, x = cls b → ∃ x6, Value.int .i64 x = Value.int .i64 x6 ∧ R (.returned (.int .i64 x6)) h := by
    rintro x rfl; exact ⟨_, rfl, H⟩
  unfold cls at Hc
  by_cases h1 : fE b = 2047
  · by_cases h2 : fT b = 0
    · simp only [h1, h2, decide_true]
      exact ⟨fun _ => ⟨fun e => (by cases e), fun _ => ⟨fun _ => Hc _ (by simp [h1, h2]), fun e => (by cases e)⟩⟩, fun e => (by cases e)⟩
    · simp only [h1, h2, decide_true, decide_false]
      exact ⟨fun _ => ⟨fun _ => Hc _ (by simp [h1, h2]), fun e => (by cases e)⟩, fun e => (by cases e)⟩
  · refine ⟨fun e => absurd (of_decide_eq_true e) h1, fun _ => ⟨fun e => (by cases e), fun _ => ⟨fun e => absurd (of_decide_eq_true e) h1, fun _ => ⟨fun e => ?_, fun e => ?_⟩⟩⟩⟩
    · have h0 := of_decide_eq_true e
      by_cases h2 : fT b = 0
      · exact ⟨fun _ => Hc _ (by simp [h0, h2]), fun e => absurd h2 (of_decide_eq_false e)⟩
      · have : 0 < fT b := by omega
        exact ⟨fun e => absurd (of_decide_eq_true e) h2, fun _ => ⟨fun _ => Hc _ (by simp [h0, this]), fun e => absurd h0 (of_decide_eq_false e)⟩⟩
    · have h0 := of_decide_eq_false e
      have : 0 < fE b := by omega
      exact ⟨fun e => (by cases e), fun _ => ⟨fun e => absurd (of_decide_eq_true e) h0, fun _ => Hc _ (by simp [h1, this])⟩⟩
theorem xor63 {w : Nat} (h : w < 18446744073709551616) : w ^^^ 9223372036854775808 = if w < 9223372036854775808 then w + 9223372036854775808 else w - 9223372036854775808 := by
  have hd := Nat.xor_div_two_pow (a := w) (b := 9223372036854775808) (n := 63)
  have hm := Nat.xor_mod_two_pow (a := w) (b := 9223372036854775808) (n := 63)
  have e1 : 9223372036854775808 / 2 ^ 63 = 1 := by decide
  have e2 : 9223372036854775808 % 2 ^ 63 = 0 := by decide
  rw [e1] at hd
  rw [e2, Nat.xor_zero] at hm
  by_cases hw : w < 9223372036854775808
  · have : w / 2 ^ 63 = 0 := by omega
    rw [this, show 0 ^^^ 1 = 1 from rfl] at hd
    rw [if_pos hw]; omega
  · have : w / 2 ^ 63 = 1 := by omega
    rw [this, show 1 ^^^ 1 = 0 from rfl] at hd
    rw [if_neg hw]; omega
theorem bitsI_flip {b : Int} (hb : I64 b) : bitsI .xor .i64 b (-9223372036854775808 : Int) = if b < 0 then b + 9223372036854775808 else b - 9223372036854775808 := by
  unfold I64 at hb
  have h1 : bitsI .xor .i64 b (-9223372036854775808 : Int) = IntKind.i64.wrap (((BitVec.ofInt 64 b ^^^ BitVec.ofInt 64 (-9223372036854775808 : Int)).toNat : Nat) : Int) := rfl
  rw [h1, BitVec.toNat_xor, BitVec.toNat_ofInt, BitVec.toNat_ofInt]
  have e1 : ((-9223372036854775808 : Int) % ((2 ^ 64 : Nat) : Int)).toNat = 9223372036854775808 := by decide
  have e2 : (b % ((2 ^ 64 : Nat) : Int)).toNat = (b % 18446744073709551616).toNat := rfl
  rw [e1, e2, xor63 (by omega)]
  have e : ∀ y : Int, IntKind.i64.wrap y = if (true && decide (y % 18446744073709551616 ≥ 9223372036854775808)) = true then y % 18446744073709551616 - 18446744073709551616 else y % 18446744073709551616 := fun y => rfl
  rw [e]
  simp only [Bool.true_and, decide_eq_true_eq]
  split <;> split <;> split <;> omega
/-- bits.Neg. -/
theorem K99 {b : Int} (hb : I64 b) (H : R (.returned (.int .i64 (negP b))) h) : Ent Tryz.prog B 41 #[.int .i64 b] R h := by
  refine F99_ok _ (K17 ⟨_, rfl, ?_⟩)
  rw [cls_nan, bitsI_flip hb]
  unfold negP at H
  refine ⟨fun e => ?_, fun e => ?_⟩
  · rw [e] at H; exact H
  · rw [e] at H; exact H
end Go.Proofs
namespace Go.Proofs
open Go Go.Eng
variable {B : World} {R : Ending → Heap → Prop} {h : Heap}
/-- A slice of pairs of whole numbers that only is read. -/
def PairsH (h : Heap) (p : Option Addr) (n : Nat) : Prop :=
  ∀ i, i < n → ∃ r q, p = some ⟨r, q, none⟩ ∧ r < h.size ∧ ∃ x y, I64 x ∧ I64 y ∧ cell? h ⟨r, q + i * 2, none⟩ = some (.int .i64 x) ∧ cell? h ⟨r, q + i * 2 + 1, none⟩ = some (.int .i64 y)
theorem cell_ext {h h' : Heap} (f : Ext h h') {r o : Nat} (hr : r < h.size) : cell? h' ⟨r, o, none⟩ = cell? h ⟨r, o, none⟩ := by
  unfold cell?; rw [f.same r hr id]
theorem PairsH.ext {h h' : Heap} {p : Option Addr} {n : Nat} (H : PairsH h p n) (f : Ext h h') : PairsH h' p n := by
  intro i hi
  obtain ⟨r, q, e, hr, x, y, ix, iy, c1, c2⟩ := H i hi
  exact ⟨r, q, e, Nat.lt_of_lt_of_le hr f.size, x, y, ix, iy, (cell_ext f hr).trans c1, (cell_ext f hr).trans c2⟩
end Go.Proofs
