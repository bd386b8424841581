import Derived.Test.YteailhnlphhfdaaGreatFmtA40
/- Here stand lemmas: the walk of SpanLess, and words for it. -/
set_option linter.unusedVariables false
set_option linter.unusedVariables false
namespace Go.Eng
open Go
/-- An interval around a finite float. -/
structure EncS (lo hi a : Int) : Prop where
  il : I64 lo
  ih : I64 hi
  nl : isNaN lo = false
  nh : isNaN hi = false
  l : rk lo ≤ rk a
  h : rk a ≤ rk hi
theorem EncS.v {lo hi a : Int} (E : EncS lo hi a) (ia : I64 a) (fa : isFin a = true) : vS lo hi = true := by
  have := fin_rk ia fa
  have := E.l
  have := E.h
  unfold vS
  rw [E.nl, E.nh, decide_eq_true (by omega), decide_eq_true (by omega), decide_eq_true (by omega)]; rfl
theorem PtS.enc {A a : Int} (P : PtS A a) : EncS A A a := ⟨P.i, P.i, P.n, P.n, by rw [P.r]; omega, by rw [P.r]; omega⟩
end Go.Eng
namespace Go.Proofs
open Go Go.Eng
variable {B : World} {R : Ending → Heap → Prop} {h : Heap}
theorem EncS.of {a lo hi : Int} {j k : Nat} (ia : I64 a) (fa : isFin a = true) (D : Dn a lo j) (U : Up a hi k) : EncS lo hi a := by
  have na := (fin_not fa).1
  obtain ⟨d1, d2⟩ := D.2 na
  obtain ⟨u1, u2⟩ := U.2 na
  have := fin_rk ia fa
  exact ⟨D.1, U.1, d1, u1, by omega, by omega⟩
end Go.Proofs
