import Derived.Test.YtedmhkimbbkdgaaGreatFmtA39
import Derived.Test.YtedmhkimbbkdgaaGreatFmtA33
/- Here stand lemmas: sums and products of ends. -/
set_option linter.unusedVariables false
set_option linter.unusedVariables false
/-! What is told of a number lies on its side of it. -/
namespace Go.Eng
open Go
theorem fin_pat {s : Bool} {k : Nat} (hk : k ≤ 9218868437227405312) (h : isFin (pat s k) = true) : k < 9218868437227405312 := by
  unfold isFin at h
  rw [pat_fE s (by omega), decide_eq_true_eq] at h
  omega
end Go.Eng
set_option linter.unusedVariables false
/-! Products of ends keep the order. -/
namespace Go.Eng
open Go
theorem fin_rk {a : Int} (ia : I64 a) (fa : isFin a = true) : -9218868437227405312 < rk a ∧ rk a < 9218868437227405312 := by
  obtain ⟨s, k, hk, rfl⟩ := as_pat ia (fin_not fa).1
  have hk := fin_pat hk fa
  rw [rk_pat (by omega)]
  cases s <;> simp only [Bool.false_eq_true, if_false, if_true] <;> omega
end Go.Eng
namespace Go.Proofs
open Go Go.Eng
end Go.Proofs
set_option linter.unusedVariables false
/-! Sums of ends keep the order. -/
namespace Go.Eng
open Go
theorem fin_of_rk {a : Int} (ia : I64 a) (na : isNaN a = false) (h1 : -9218868437227405312 < rk a) (h2 : rk a < 9218868437227405312) : isFin a = true := by
  cases hf : isFin a
  · rcases rk_inf ia na hf with h | h <;> omega
  · rfl
end Go.Eng
namespace Go.Proofs
open Go Go.Eng
theorem rk_pz (a : Int) : rk (pz a) = rk a := by
  unfold pz
  by_cases h : a = -9223372036854775808
  · rw [if_pos h, h]; rfl
  · rw [if_neg h]
end Go.Proofs
set_option linter.unusedVariables false
/-! What is told of single floats; what an exact number lies in. -/
namespace Go.Eng
open Go
/-- What is told of a float: one that is no nought below 0. -/
structure PtS (A a : Int) : Prop where
  i : I64 A
  n : isNaN A = false
  z : A ≠ -9223372036854775808
  r : rk A = rk a
theorem PtS.fin {A a : Int} (P : PtS A a) (ia : I64 a) (fa : isFin a = true) : isFin A = true :=
  fin_of_rk P.i P.n (by rw [P.r]; exact (fin_rk ia fa).1) (by rw [P.r]; exact (fin_rk ia fa).2)
theorem PtS.val {A a : Int} (P : PtS A a) (ia : I64 a) (fa : isFin a = true) : fV A = fV a := (fV_rk P.i ia (P.fin ia fa) fa).2.2 P.r
theorem PtS.of {x a : Int} (ix : I64 x) (nx : isNaN x = false) (h : rk x = rk a) : PtS (cnP x) a := by
  obtain ⟨h1, h2, h3⟩ := cn_rk ix nx
  exact ⟨h3, h2, cn_nz ix nx, by rw [h1, h]⟩
end Go.Eng
namespace Go.Proofs
open Go Go.Eng
end Go.Proofs
