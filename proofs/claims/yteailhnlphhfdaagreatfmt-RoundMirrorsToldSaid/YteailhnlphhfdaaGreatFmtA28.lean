import Derived.Test.YteailhnlphhfdaaGreatFmtA12
import Derived.Test.YteailhnlphhfdaaGreatFmtA13
import Derived.Test.YteailhnlphhfdaaGreatFmtA25
import Derived.Test.YteailhnlphhfdaaGreatFmtA22
import Derived.WalkKit
import Derived.Test.YteailhnlphhfdaaGreatFmtA07
import Derived.Test.YteailhnlphhfdaaGreatFmtA20
import Derived.Test.YteailhnlphhfdaaGreatFmtA23
import Derived.Test.YteailhnlphhfdaaGreatFmtA03
/- Here stand lemmas: order and rounding of floats. -/
set_option linter.unusedVariables false
namespace Go.Eng
open Go
theorem signed_nat (s : Bool) (m j : Nat) : Ieee.signed s m j = if s then -((m * 2 ^ j : Nat) : Int) else ((m * 2 ^ j : Nat) : Int) := by
  unfold Ieee.signed; rw [Nat.shiftLeft_eq]
theorem pat_neg (neg : Bool) {r : Nat} (hr : r < 9223372036854775808) : decide (pat neg r < 0) = neg := by
  cases neg
  · show decide (((r : Nat) : Int) < 0) = false
    exact decide_eq_false (by omega)
  · show decide (((r : Nat) : Int) - 9223372036854775808 < 0) = true
    exact decide_eq_true (by omega)
theorem pat_fE (neg : Bool) {r : Nat} (hr : r < 9223372036854775808) : fE (pat neg r) = r / 4503599627370496 := by
  unfold fE
  cases neg
  · show ((((r : Nat) : Int)) / 4503599627370496 % 2048).toNat = _
    omega
  · show ((((r : Nat) : Int) - 9223372036854775808) / 4503599627370496 % 2048).toNat = _
    omega
theorem pat_fT (neg : Bool) {r : Nat} (hr : r < 9223372036854775808) : fT (pat neg r) = r % 4503599627370496 := by
  unfold fT
  cases neg
  · show ((((r : Nat) : Int)) % 4503599627370496).toNat = _
    omega
  · show ((((r : Nat) : Int) - 9223372036854775808) % 4503599627370496).toNat = _
    omega
theorem fV_pat (neg : Bool) {j k : Nat} (hk : k ≤ 9007199254740992) (hn : j ≠ 0 → 4503599627370496 ≤ k) (hr : j * 4503599627370496 + k < 9218868437227405312) :
    isFin (pat neg (j * 4503599627370496 + k)) = true ∧ fV (pat neg (j * 4503599627370496 + k)) = Ieee.signed neg k j := by
  have h63 : j * 4503599627370496 + k < 9223372036854775808 := by omega
  have e1 := pat_fE neg h63
  have e2 := pat_fT neg h63
  have e3 := pat_neg neg h63
  refine ⟨?_, ?_⟩
  · unfold isFin; rw [e1]; exact decide_eq_true (by omega)
  unfold fV fM fX
  rw [e1, e2, e3]
  rcases Nat.lt_or_ge k 4503599627370496 with h | h
  · have hj : j = 0 := by
      rcases Nat.eq_zero_or_pos j with h0 | h0
      · exact h0
      · have := hn (by omega); omega
    subst hj
    have a1 : (0 * 4503599627370496 + k) / 4503599627370496 = 0 := by omega
    have a2 : (0 * 4503599627370496 + k) % 4503599627370496 = k := by omega
    rw [a1, a2]; rfl
  · rcases Nat.lt_or_ge k 9007199254740992 with h' | h'
    · have a1 : (j * 4503599627370496 + k) / 4503599627370496 = j + 1 := by omega
      have a2 : (j * 4503599627370496 + k) % 4503599627370496 = k - 4503599627370496 := by omega
      rw [a1, a2, if_neg (by omega), if_neg (by omega), show 4503599627370496 + (k - 4503599627370496) = k by omega, show (((j + 1 : Nat) : Int) - 1075 + 1074).toNat = j by omega]
    · have hk' : k = 9007199254740992 := by omega
      subst hk'
      have a1 : (j * 4503599627370496 + 9007199254740992) / 4503599627370496 = j + 2 := by omega
      have a2 : (j * 4503599627370496 + 9007199254740992) % 4503599627370496 = 0 := by omega
      rw [a1, a2, if_neg (by omega), if_neg (by omega), show (((j + 2 : Nat) : Int) - 1075 + 1074).toNat = j + 1 by omega, signed_nat, signed_nat, Nat.pow_succ]
      have : (4503599627370496 + 0) * (2 ^ j * 2) = 9007199254740992 * 2 ^ j := by omega
      rw [this]
theorem fin_not {a : Int} (h : isFin a = true) : isNaN a = false ∧ isInf a = false := by
  unfold isFin at h
  have := of_decide_eq_true h
  unfold isNaN isInf
  have : decide (fE a = 2047) = false := decide_eq_false (by omega)
  rw [this]; exact ⟨rfl, rfl⟩
end Go.Eng
namespace Go.Proofs
open Go Go.Eng
variable {B : World} {R : Ending → Heap → Prop} {h : Heap}
theorem order_full {a b : Int} (ha : I64 a) (hb : I64 b) (fa : isFin a = true) (fb : isFin b = true) : FloatKind.f64.format.order (wd a) (wd b) = some (compareOfLessAndEq (fV a) (fV b)) := by
  have ea : Ieee.double.read (wd a) = .number (decide (a < 0)) (fM a) (fX a) := by
    rw [read_wd ha, if_pos]; unfold isFin at fa; exact of_decide_eq_true fa
  have eb : Ieee.double.read (wd b) = .number (decide (b < 0)) (fM b) (fX b) := by
    rw [read_wd hb, if_pos]; unfold isFin at fb; exact of_decide_eq_true fb
  have e0 : FloatKind.f64.format.order (wd a) (wd b) = (Ieee.double.read (wd a)).order (Ieee.double.read (wd b)) := rfl
  have ho : ∀ s m i t n j, Ieee.Datum.order (.number s m i) (.number t n j) = some (compare (Ieee.signed s m (i - min i j).toNat) (Ieee.signed t n (j - min i j).toNat)) := fun _ _ _ _ _ _ => rfl
  rw [e0, ea, eb, ho]
  have ga := fX_ge a
  have gb := fX_ge b
  rw [fV_at, fV_at]
  obtain ⟨b0, h0, h1, h2, h3⟩ : ∃ z, min (fX a) (fX b) = z ∧ z ≤ fX a ∧ z ≤ fX b ∧ -1074 ≤ z := ⟨_, rfl, by omega, by omega, by omega⟩
  rw [h0, show (fX a - (-1074)).toNat = (fX a - b0).toNat + (b0 + 1074).toNat by omega, show (fX b - (-1074)).toNat = (fX b - b0).toNat + (b0 + 1074).toNat by omega, signed_add, signed_add]
  generalize Ieee.signed (decide (a < 0)) (fM a) (fX a - b0).toNat = x
  generalize Ieee.signed (decide (b < 0)) (fM b) (fX b - b0).toNat = y
  generalize (b0 + 1074).toNat = kk
  have hk : (0 : Int) < ((2 ^ kk : Nat) : Int) := Int.natCast_pos.2 (Nat.pow_pos (by decide))
  generalize ((2 ^ kk : Nat) : Int) = k at hk
  have e : (x * k < y * k) ↔ (x < y) := Int.mul_lt_mul_right hk
  have e' : (x * k = y * k) ↔ (x = y) := ⟨fun h => Int.eq_of_mul_eq_mul_right (by omega) h, fun h => by rw [h]⟩
  show some (compareOfLessAndEq x y) = _
  unfold compareOfLessAndEq
  simp only [e, e']
/-- The pattern of 2^e. -/
def pwP (e : Int) : Int := if -1022 ≤ e then (e + 1023) * 4503599627370496 else ((2 ^ (e + 1074).toNat : Nat) : Int)
end Go.Proofs
