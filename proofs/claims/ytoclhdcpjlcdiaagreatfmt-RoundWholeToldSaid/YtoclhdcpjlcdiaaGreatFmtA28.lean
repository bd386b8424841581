import Derived.Test.YtoclhdcpjlcdiaaGreatFmtA12
import Derived.Test.YtoclhdcpjlcdiaaGreatFmtA13
import Derived.Test.YtoclhdcpjlcdiaaGreatFmtA23
import Derived.Test.YtoclhdcpjlcdiaaGreatFmtA27
import Derived.Test.YtoclhdcpjlcdiaaGreatFmtA20
import Derived.Test.YtoclhdcpjlcdiaaGreatFmtA03
/- Here stand lemmas: order and rounding of floats. -/
set_option linter.unusedVariables false
namespace Go.Eng
open Go
theorem rn_exact (q d : Nat) : rn (q * 2 ^ d) d = q := by
  have := rn_scale q 0 d
  rw [Nat.zero_add, rn_zero] at this
  exact this
/-- n rounded to 53 bits. -/
def R53 (n : Nat) : Nat := rn n (n.log2 - 52) * 2 ^ (n.log2 - 52)
theorem R53_zero : R53 0 = 0 := by decide
theorem log2_of {n k : Nat} (h1 : 2 ^ k ≤ n) (h2 : n < 2 ^ (k + 1)) : n.log2 = k := by
  have h0 : n ≠ 0 := by have : 0 < 2 ^ k := Nat.pow_pos (by decide); omega
  exact (Nat.log2_eq_iff h0).2 ⟨h1, h2⟩
theorem R53_at {n j : Nat} (h1 : 2 ^ (52 + j) ≤ n) (h2 : n < 2 ^ (53 + j)) : R53 n = rn n j * 2 ^ j := by
  have : n.log2 = 52 + j := log2_of h1 (by rw [show 52 + j + 1 = 53 + j by omega]; exact h2)
  unfold R53
  rw [this, Nat.add_sub_cancel_left]
theorem R53_small {n : Nat} (h : n < 2 ^ 53) : R53 n = n := by
  unfold R53
  have : n.log2 - 52 = 0 := by
    by_cases h0 : n = 0
    · subst h0; decide
    · have := (Nat.log2_lt h0).2 h; omega
  rw [this, rn_zero, Nat.pow_zero, Nat.mul_one]
theorem R53_scale (n k : Nat) : R53 (n * 2 ^ k) = R53 n * 2 ^ k := by
  by_cases h0 : n = 0
  · subst h0; rw [Nat.zero_mul, R53_zero, Nat.zero_mul]
  unfold R53
  rw [log2_scale k h0]
  by_cases h : 52 ≤ n.log2
  · rw [show n.log2 + k - 52 = n.log2 - 52 + k by omega, rn_scale, Nat.pow_add, Nat.mul_assoc]
  · rw [show n.log2 - 52 = 0 by omega, rn_zero, Nat.pow_zero, Nat.mul_one]
    by_cases h3 : n.log2 + k ≤ 52
    · rw [show n.log2 + k - 52 = 0 by omega, rn_zero, Nat.pow_zero, Nat.mul_one]
    · obtain ⟨d, hd⟩ : ∃ d, n.log2 + k - 52 = d ∧ d ≤ k := ⟨_, rfl, by omega⟩
      rw [hd.1]
      have e : n * 2 ^ k = n * 2 ^ (k - d) * 2 ^ d := by rw [Nat.mul_assoc, ← Nat.pow_add]; congr 2; omega
      rw [e, rn_exact]
theorem R53_exact {q d : Nat} (h : q ≤ 2 ^ 53) : R53 (q * 2 ^ d) = q * 2 ^ d := by
  rw [R53_scale]
  rcases Nat.lt_or_ge q (2 ^ 53) with h1 | h1
  · rw [R53_small h1]
  · have : q = 1 * 2 ^ 53 := by omega
    rw [this, R53_scale, R53_small (by decide)]
theorem rn_near (n d : Nat) : 2 * (rn n d * 2 ^ d) ≤ 2 * n + 2 ^ d ∧ 2 * n ≤ 2 * (rn n d * 2 ^ d) + 2 ^ d := by
  have hd := Nat.div_add_mod n (2 ^ d)
  have hm := Nat.mod_lt n (Nat.pow_pos (by decide : 0 < 2) : 0 < 2 ^ d)
  unfold rn
  rw [Nat.mul_comm] at hd
  split
  · rw [Nat.add_mul, Nat.one_mul]; omega
  · rw [Nat.add_zero]; omega
end Go.Eng
namespace Go.Eng
open Go
/-- A whole number rounded to 53 bits. -/
def rndI (v : Int) : Int := Ieee.signed (decide (v < 0)) (R53 v.natAbs) 0
theorem signed_nat (s : Bool) (m j : Nat) : Ieee.signed s m j = if s then -((m * 2 ^ j : Nat) : Int) else ((m * 2 ^ j : Nat) : Int) := by
  unfold Ieee.signed; rw [Nat.shiftLeft_eq]
theorem pat_neg (neg : Bool) {r : Nat} (hr : r < 9223372036854775808) : decide (pat neg r < 0) = neg := by
  cases neg
  · show decide (((r : Nat) : Int) < 0) = false
    exact decide_eq_false (by omega)
  · show decide (((r : Nat) : Int) - 9223372036854775808 < 0) = true
    exact decide_eq_true (by omega)
theorem pat_fE (neg : Bool) {r : Nat} (hr : r < 9223372036854775808) : fE (pat neg r) = r / 4503599627370496 := by
  unfold fE
  cases neg
  · show ((((r : Nat) : Int)) / 4503599627370496 % 2048).toNat = _
    omega
  · show ((((r : Nat) : Int) - 9223372036854775808) / 4503599627370496 % 2048).toNat = _
    omega
theorem pat_fT (neg : Bool) {r : Nat} (hr : r < 9223372036854775808) : fT (pat neg r) = r % 4503599627370496 := by
  unfold fT
  cases neg
  · show ((((r : Nat) : Int)) % 4503599627370496).toNat = _
    omega
  · show ((((r : Nat) : Int) - 9223372036854775808) % 4503599627370496).toNat = _
    omega
theorem fV_pat (neg : Bool) {j k : Nat} (hk : k ≤ 9007199254740992) (hn : j ≠ 0 → 4503599627370496 ≤ k) (hr : j * 4503599627370496 + k < 9218868437227405312) :
    isFin (pat neg (j * 4503599627370496 + k)) = true ∧ fV (pat neg (j * 4503599627370496 + k)) = Ieee.signed neg k j := by
  have h63 : j * 4503599627370496 + k < 9223372036854775808 := by omega
  have e1 := pat_fE neg h63
  have e2 := pat_fT neg h63
  have e3 := pat_neg neg h63
  refine ⟨?_, ?_⟩
  · unfold isFin; rw [e1]; exact decide_eq_true (by omega)
  unfold fV fM fX
  rw [e1, e2, e3]
  rcases Nat.lt_or_ge k 4503599627370496 with h | h
  · have hj : j = 0 := by
      rcases Nat.eq_zero_or_pos j with h0 | h0
      · exact h0
      · have := hn (by omega); omega
    subst hj
    have a1 : (0 * 4503599627370496 + k) / 4503599627370496 = 0 := by omega
    have a2 : (0 * 4503599627370496 + k) % 4503599627370496 = k := by omega
    rw [a1, a2]; rfl
  · rcases Nat.lt_or_ge k 9007199254740992 with h' | h'
    · have a1 : (j * 4503599627370496 + k) / 4503599627370496 = j + 1 := by omega
      have a2 : (j * 4503599627370496 + k) % 4503599627370496 = k - 4503599627370496 := by omega
      rw [a1, a2, if_neg (by omega), if_neg (by omega), show 4503599627370496 + (k - 4503599627370496) = k by omega, show (((j + 1 : Nat) : Int) - 1075 + 1074).toNat = j by omega]
    · have hk' : k = 9007199254740992 := by omega
      subst hk'
      have a1 : (j * 4503599627370496 + 9007199254740992) / 4503599627370496 = j + 2 := by omega
      have a2 : (j * 4503599627370496 + 9007199254740992) % 4503599627370496 = 0 := by omega
      rw [a1, a2, if_neg (by omega), if_neg (by omega), show (((j + 2 : Nat) : Int) - 1075 + 1074).toNat = j + 1 by omega, signed_nat, signed_nat, Nat.pow_succ]
      have : (4503599627370496 + 0) * (2 ^ j * 2) = 9007199254740992 * 2 ^ j := by omega
      rw [this]
theorem rung_fV (neg : Bool) {n K : Nat} (hK : K ≤ 2045) (h : n < 3 * 2 ^ (51 + K)) : isFin (pat neg (rung n (-1074))) = true ∧ fV (pat neg (rung n (-1074))) = Ieee.signed neg (R53 n) 0 := by
  by_cases h0 : n = 0
  · subst h0
    rw [rung_zero, R53_zero]
    have := fV_pat neg (j := 0) (k := 0) (by omega) (by omega) (by omega)
    rw [Nat.zero_mul, Nat.zero_add] at this
    exact this
  obtain ⟨j, hj⟩ : ∃ j, n.log2 - 52 = j := ⟨_, rfl⟩
  have eL : lastP n (-1074) = -1074 + (j : Int) := by unfold lastP; omega
  have eK : kpt n (-1074) = rn n j := by
    unfold kpt
    rw [eL, show ((-1074 : Int) - (-1074 + (j : Int))).toNat = 0 by omega, Nat.pow_zero, Nat.mul_one, show (-1074 + (j : Int) - (-1074 : Int)).toNat = j by omega]
  obtain ⟨b1, b2⟩ := kpt_lt (-1074) h0
  rw [eK] at b1 b2
  have e52 : (2 : Nat) ^ 52 = 4503599627370496 := by decide
  have e53 : (2 : Nat) ^ 53 = 9007199254740992 := by decide
  have e51 : (2 : Nat) ^ 51 = 2251799813685248 := by decide
  rw [e53] at b1
  rw [e52] at b2
  have hjK : j ≤ K := by
    have : n < 2 ^ (53 + K) := by
      have : 2 ^ (53 + K) = 4 * 2 ^ (51 + K) := by rw [show 53 + K = 2 + (51 + K) by omega, Nat.pow_add]
      have : 0 < 2 ^ (51 + K) := Nat.pow_pos (by decide)
      omega
    have := (Nat.log2_lt h0).2 this
    omega
  have hlt : j * 4503599627370496 + rn n j < 9218868437227405312 := by
    rcases Nat.lt_or_ge j 2045 with h1 | h1
    · omega
    · have hjk : j = K := by omega
      have : n / 2 ^ j < 3 * 2251799813685248 := by
        rw [Nat.div_lt_iff_lt_mul (Nat.pow_pos (by decide)), Nat.mul_assoc, ← e51, ← Nat.pow_add, hjk]; exact h
      have := (rn_le n j).2
      omega
  have er : rung n (-1074) = j * 4503599627370496 + rn n j := by
    unfold rung
    rw [eL, eK, show (-1074 + (j : Int) + 1074).toNat = j by omega]
    exact Nat.min_eq_left (by omega)
  rw [er]
  obtain ⟨c1, c2⟩ := fV_pat neg (j := j) (k := rn n j) b1 (fun hne => b2 (by rw [eL]; omega)) hlt
  refine ⟨c1, ?_⟩
  rw [c2, signed_nat, signed_nat]
  unfold R53
  rw [hj, Nat.pow_zero, Nat.mul_one]
theorem fin_not {a : Int} (h : isFin a = true) : isNaN a = false ∧ isInf a = false := by
  unfold isFin at h
  have := of_decide_eq_true h
  unfold isNaN isInf
  have : decide (fE a = 2047) = false := decide_eq_false (by omega)
  rw [this]; exact ⟨rfl, rfl⟩
end Go.Eng
namespace Go.Eng
open Go
/-- A sign and a size. -/
def sgv (s : Bool) (n : Nat) : Int := if s then -(n : Int) else (n : Int)
theorem rndI_sgv (s : Bool) (n : Nat) : rndI (sgv s n) = sgv s (R53 n) := by
  unfold rndI sgv
  cases s
  · simp only [Bool.false_eq_true, if_false]
    rw [decide_eq_false (by omega), Int.natAbs_natCast]
    show Ieee.signed false (R53 n) 0 = _
    rw [signed_nat, Nat.pow_zero, Nat.mul_one]; rfl
  · simp only [if_true]
    by_cases h : n = 0
    · subst h; rw [R53_zero]; rfl
    · rw [decide_eq_true (by omega), Int.natAbs_neg, Int.natAbs_natCast, signed_nat, Nat.pow_zero, Nat.mul_one]; rfl
theorem sgv_abs (s : Bool) (n : Nat) : (sgv s n).natAbs = n := by unfold sgv; cases s <;> simp
theorem sgv_of (X : Int) : ∃ s, X = sgv s X.natAbs := by
  by_cases h : X < 0
  · exact ⟨true, by unfold sgv; simp only [if_true]; omega⟩
  · exact ⟨false, by unfold sgv; simp only [Bool.false_eq_true, if_false]; omega⟩
end Go.Eng
namespace Go.Proofs
open Go Go.Eng
variable {B : World} {R : Ending → Heap → Prop} {h : Heap}
theorem order_full {a b : Int} (ha : I64 a) (hb : I64 b) (fa : isFin a = true) (fb : isFin b = true) : FloatKind.f64.format.order (wd a) (wd b) = some (compareOfLessAndEq (fV a) (fV b)) := by
  have ea : Ieee.double.read (wd a) = .number (decide (a < 0)) (fM a) (fX a) := by
    rw [read_wd ha, if_pos]; unfold isFin at fa; exact of_decide_eq_true fa
  have eb : Ieee.double.read (wd b) = .number (decide (b < 0)) (fM b) (fX b) := by
    rw [read_wd hb, if_pos]; unfold isFin at fb; exact of_decide_eq_true fb
  have e0 : FloatKind.f64.format.order (wd a) (wd b) = (Ieee.double.read (wd a)).order (Ieee.double.read (wd b)) := rfl
  have ho : ∀ s m i t n j, Ieee.Datum.order (.number s m i) (.number t n j) = some (compare (Ieee.signed s m (i - min i j).toNat) (Ieee.signed t n (j - min i j).toNat)) := fun _ _ _ _ _ _ => rfl
  rw [e0, ea, eb, ho]
  have ga := fX_ge a
  have gb := fX_ge b
  rw [fV_at, fV_at]
  obtain ⟨b0, h0, h1, h2, h3⟩ : ∃ z, min (fX a) (fX b) = z ∧ z ≤ fX a ∧ z ≤ fX b ∧ -1074 ≤ z := ⟨_, rfl, by omega, by omega, by omega⟩
  rw [h0, show (fX a - (-1074)).toNat = (fX a - b0).toNat + (b0 + 1074).toNat by omega, show (fX b - (-1074)).toNat = (fX b - b0).toNat + (b0 + 1074).toNat by omega, signed_add, signed_add]
  generalize Ieee.signed (decide (a < 0)) (fM a) (fX a - b0).toNat = x
  generalize Ieee.signed (decide (b < 0)) (fM b) (fX b - b0).toNat = y
  generalize (b0 + 1074).toNat = kk
  have hk : (0 : Int) < ((2 ^ kk : Nat) : Int) := Int.natCast_pos.2 (Nat.pow_pos (by decide))
  generalize ((2 ^ kk : Nat) : Int) = k at hk
  have e : (x * k < y * k) ↔ (x < y) := Int.mul_lt_mul_right hk
  have e' : (x * k = y * k) ↔ (x = y) := ⟨fun h => Int.eq_of_mul_eq_mul_right (by omega) h, fun h => by rw [h]⟩
  show some (compareOfLessAndEq x y) = _
  unfold compareOfLessAndEq
  simp only [e, e']
end Go.Proofs
