import Derived.Test.YtcbcgggnmncbjaaGreatFmtA36
/- Here stand lemmas and contracts, in the order in which they are used. -/
set_option linter.unusedVariables false
set_option linter.unusedVariables false
/-! For math.Frexp; sums of lists of floats. -/
namespace Go.Proofs
open Go Go.Eng
/-- An exponent put into a word without one. -/
theorem put_exp (s : Bool) {t y : Nat} (ht : t < 4503599627370496) (hy : y < 2048) : bitsI .or .u64 ((wordN s (0 * 4503599627370496 + t) : Nat) : Int) ((y * 4503599627370496 : Nat) : Int) = ((wordN s (y * 4503599627370496 + t) : Nat) : Int) := by
  rw [bitsI_or (word_lt s (by decide) ht) (by omega), word_parts, word_parts]
  have e3 : y * 4503599627370496 = 2 ^ 52 * (2 ^ 11 * 0 + y) + 0 := by rw [p52]; omega
  rw [e3, ← p52, ← p11, or_split (by rw [p52]; exact ht) (by decide), or_split (by decide) (by rw [p11]; exact hy), Nat.or_zero, Nat.or_zero, Nat.zero_or]
theorem frac_word (s : Bool) {E t : Nat} (hE : E < 2048) (ht : t < 4503599627370496) : bitsI .or .u64 (bitsI .andNot .u64 ((wordN s (E * 4503599627370496 + t) : Nat) : Int) (9218868437227405312 : Int)) (4602678819172646912 : Int) = ((wordN s (1022 * 4503599627370496 + t) : Nat) : Int) := by
  rw [clear_exp s hE ht]
  exact put_exp s ht (y := 1022) (by decide)
/-- A word's exponent, read without a sign. -/
theorem get_expU (s : Bool) {E t : Nat} (hE : E < 2048) (ht : t < 4503599627370496) :
    bitsI .and .u64 (Int.fdiv ((wordN s (E * 4503599627370496 + t) : Nat) : Int) (2 ^ min (Int.toNat (52 : Int)) IntKind.u64.bits)) (2047 : Int) = (E : Int) := by
  have e2 := fdiv_pow (x := wordN s (E * 4503599627370496 + t)) (s := 52) (by decide)
  rw [show ((52 : Nat) : Int) = 52 from rfl, p52] at e2
  have hs : s.toNat ≤ 1 := by cases s <;> decide
  have e3 : wordN s (E * 4503599627370496 + t) / 4503599627370496 = 2048 * s.toNat + E := by rw [word_parts]; omega
  rw [e2, e3]
  have e4 := bitsI_and (a := 2048 * s.toNat + E) (b := 2047) (by omega)
  rw [show ((2047 : Nat) : Int) = 2047 from rfl] at e4
  rw [e4, show (2047 : Nat) % 18446744073709551616 = 2047 from rfl, show (2048 * s.toNat + E) &&& 2047 = (2048 * s.toNat + E) % 2 ^ 11 from Nat.and_two_pow_sub_one_eq_mod _ 11, p11]
  omega
/-- A finite float other than 0, as math.Frexp tells it: the fraction's sign and digits, and the exponent that is told. -/
def frP (b : Int) : Int := if fE b = 0 then mulP b P52 else b
def frS (b : Int) : Bool := decide (frP b < 0)
def frT (b : Int) : Nat := fT (frP b)
def frE (b : Int) : Int := (if fE b = 0 then -52 else 0) + (fE (frP b) : Int) - 1022
/-- The value of it. -/
theorem fr_spec {b : Int} (ib : I64 b) (fb : isFin b = true) (h0 : fV b ≠ 0) : ∃ E, frP b = pat (frS b) (E * 4503599627370496 + frT b) ∧ 0 < E ∧ E < 2047 ∧ frT b < 4503599627370496 ∧ frE b = (if fE b = 0 then -52 else 0) + (E : Int) - 1022 ∧
    -1126 ≤ frE b ∧ frE b ≤ 1024 ∧ fV b * 4503599627370496 = frW (frS b) (frT b) * ((2 ^ (frE b - 53 + 1126).toNat : Nat) : Int) := by
  by_cases hE : fE b = 0
  · obtain ⟨s, E, t, e, e1, e2, ht, v⟩ := sub_norm ib fb hE h0
    have h63 : E * 4503599627370496 + t < 9223372036854775808 := by omega
    have hP : frP b = pat s (E * 4503599627370496 + t) := by unfold frP; rw [if_pos hE]; exact e
    have hS : frS b = s := by unfold frS; rw [hP]; exact pat_neg s h63
    have hT : frT b = t := by unfold frT; rw [hP, pat_fT s h63]; omega
    have hF : fE (frP b) = E := by rw [hP, pat_fE s h63]; omega
    have hX : frE b = -52 + (E : Int) - 1022 := by unfold frE; rw [if_pos hE, hF]
    rw [hS, hT, if_pos hE]
    have hv := norm_val s e1 e2 ht
    rw [← e, v] at hv
    refine ⟨E, hP, e1, e2, ht, hX, by omega, by omega, ?_⟩
    rw [hv, hX, show (-52 + (E : Int) - 1022 - 53 + 1126).toNat = E - 1 by omega]
  · obtain ⟨s, E, t, e, e2, ht, e3, e4⟩ := pat_parts ib fb
    have h63 : E * 4503599627370496 + t < 9223372036854775808 := by omega
    have e1 : 0 < E := by omega
    have hP : frP b = pat s (E * 4503599627370496 + t) := by unfold frP; rw [if_neg hE]; exact e
    have hS : frS b = s := by unfold frS; rw [hP]; exact pat_neg s h63
    have hT : frT b = t := by unfold frT; rw [hP, pat_fT s h63]; omega
    have hF : fE (frP b) = E := by rw [hP, pat_fE s h63]; omega
    have hX : frE b = 0 + (E : Int) - 1022 := by unfold frE; rw [if_neg hE, hF]
    rw [hS, hT, if_neg hE]
    have hv := norm_val s e1 e2 ht
    rw [← e] at hv
    refine ⟨E, hP, e1, e2, ht, hX, by omega, by omega, ?_⟩
    rw [hv, hX, show (0 + (E : Int) - 1022 - 53 + 1126).toNat = (E - 1) + 52 by omega, Nat.pow_add, p52, Int.natCast_mul, Int.mul_assoc]
    rfl
/-- The sum of a list of floats. -/
def sV : List Int → Int
  | [] => 0
  | a :: l => fV a + sV l
theorem sV_append (a b : List Int) : sV (a ++ b) = sV a + sV b := by
  induction a with
  | nil => simp [sV]
  | cons x l ih => simp only [List.cons_append, sV, ih]; omega
theorem sV_reverse (a : List Int) : sV a.reverse = sV a := by
  induction a with
  | nil => rfl
  | cons x l ih => rw [List.reverse_cons, sV_append, ih]; simp only [sV]; omega
end Go.Proofs
