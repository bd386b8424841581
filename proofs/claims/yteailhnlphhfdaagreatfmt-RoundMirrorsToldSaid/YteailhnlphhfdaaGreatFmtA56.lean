import Derived.Test.YteailhnlphhfdaaGreatFmtA28
import Derived.Test.YteailhnlphhfdaaGreatFmtA23
/- Here stand lemmas: sums and products of floats and what they lost. -/
set_option linter.unusedVariables false
set_option linter.unusedVariables false
namespace Go.Eng
open Go
/-- A whole number of at most 53 bits, with noughts behind. -/
def Fl (v : Int) : Prop := ∃ m t : Nat, v.natAbs = m * 2 ^ t ∧ m ≤ 9007199254740992
/-- 2^k divides. -/
def Dv (k : Nat) (x : Int) : Prop := ∃ z : Int, x = z * ((2 ^ k : Nat) : Int)
theorem Dv.zero {k : Nat} : Dv k 0 := ⟨0, by rw [Int.zero_mul]⟩
theorem Dv.add {k : Nat} {x y : Int} (a : Dv k x) (b : Dv k y) : Dv k (x + y) := by
  obtain ⟨z, rfl⟩ := a; obtain ⟨w, rfl⟩ := b; exact ⟨z + w, by rw [Int.add_mul]⟩
theorem Dv.neg {k : Nat} {x : Int} (a : Dv k x) : Dv k (-x) := by
  obtain ⟨z, rfl⟩ := a; exact ⟨-z, by rw [Int.neg_mul]⟩
theorem Dv.sub {k : Nat} {x y : Int} (a : Dv k x) (b : Dv k y) : Dv k (x - y) := by
  rw [Int.sub_eq_add_neg]; exact a.add b.neg
theorem Dv.mono {j k : Nat} {x : Int} (a : Dv k x) (h : j ≤ k) : Dv j x := by
  obtain ⟨z, rfl⟩ := a
  obtain ⟨d, rfl⟩ : ∃ d, k = j + d := ⟨k - j, by omega⟩
  exact ⟨z * ((2 ^ d : Nat) : Int), by rw [Nat.pow_add, Int.natCast_mul, Int.mul_assoc, Int.mul_comm ((2 ^ j : Nat) : Int)]⟩
theorem Dv.abs {k : Nat} {x : Int} (a : Dv k x) : ∃ m : Nat, x.natAbs = m * 2 ^ k := by
  obtain ⟨z, rfl⟩ := a
  exact ⟨z.natAbs, by rw [Int.natAbs_mul, Int.natAbs_natCast]⟩
theorem Dv.of_abs {k m : Nat} {x : Int} (h : x.natAbs = m * 2 ^ k) : Dv k x := by
  by_cases hx : x < 0
  · exact ⟨-(m : Int), by rw [Int.neg_mul, ← Int.natCast_mul, ← h]; omega⟩
  · exact ⟨(m : Int), by rw [← Int.natCast_mul, ← h]; omega⟩
theorem Dv.ge {k : Nat} {x : Int} (a : Dv k x) (h : x ≠ 0) : 2 ^ k ≤ x.natAbs := by
  obtain ⟨m, e⟩ := a.abs
  have : m ≠ 0 := by intro k; rw [k, Nat.zero_mul] at e; omega
  rw [e]
  exact Nat.le_mul_of_pos_left _ (by omega)
theorem Fl.zero : Fl 0 := ⟨0, 0, rfl, by decide⟩
theorem Fl.neg {v : Int} (h : Fl v) : Fl (-v) := by
  obtain ⟨m, t, a, b⟩ := h; exact ⟨m, t, by rw [Int.natAbs_neg]; exact a, b⟩
theorem Fl.of {k : Nat} {x : Int} (a : Dv k x) (h : x.natAbs ≤ 9007199254740992 * 2 ^ k) : Fl x := by
  obtain ⟨m, e⟩ := a.abs
  refine ⟨m, k, e, ?_⟩
  rw [e] at h
  exact Nat.le_of_mul_le_mul_right h (Nat.pow_pos (by decide))
/-- A great float is a multiple of its last place. -/
theorem Fl.big {v : Int} (h : Fl v) {k : Nat} (hk : 4503599627370496 * 2 ^ k ≤ v.natAbs) : Dv k v := by
  obtain ⟨m, t, a, b⟩ := h
  rcases Nat.lt_or_ge t k with hlt | hge
  · obtain ⟨d, rfl⟩ : ∃ d, k = t + (d + 1) := ⟨k - t - 1, by omega⟩
    have hp : 0 < 2 ^ t := Nat.pow_pos (by decide)
    rw [a, Nat.pow_add, Nat.mul_comm (2 ^ t), ← Nat.mul_assoc] at hk
    have h1 := Nat.le_of_mul_le_mul_right hk hp
    have hd : 0 < 2 ^ d := Nat.pow_pos (by decide)
    rw [Nat.pow_succ] at h1
    have h2 : 2 ^ d = 1 := by omega
    have hd0 : d = 0 := by
      rcases Nat.eq_zero_or_pos d with e | e
      · exact e
      · have : 2 ^ 1 ≤ 2 ^ d := Nat.pow_le_pow_right (by decide) e
        omega
    subst hd0
    have hm : m = 4503599627370496 * 2 := by omega
    refine Dv.of_abs (m := 4503599627370496) ?_
    rw [a, hm, Nat.zero_add, Nat.pow_succ, Nat.mul_assoc, Nat.mul_comm 2]
  · exact (Dv.of_abs a).mono hge
end Go.Eng
set_option linter.unusedVariables false
namespace Go.Eng
open Go
theorem Dv.mul {i j : Nat} {x y : Int} (a : Dv i x) (b : Dv j y) : Dv (i + j) (x * y) := by
  obtain ⟨z, rfl⟩ := a; obtain ⟨w, rfl⟩ := b
  exact ⟨z * w, by rw [Nat.pow_add, Int.natCast_mul]; ac_rfl⟩
theorem Dv.split {i W : Nat} {x : Int} (a : Dv (i + W) x) : ∃ z, x = z * ((2 ^ W : Nat) : Int) ∧ Dv i z := by
  obtain ⟨z, rfl⟩ := a
  exact ⟨z * ((2 ^ i : Nat) : Int), by rw [Nat.pow_add, Int.natCast_mul, Int.mul_assoc], ⟨z, rfl⟩⟩
end Go.Eng
namespace Go.Proofs
open Go Go.Eng
end Go.Proofs
