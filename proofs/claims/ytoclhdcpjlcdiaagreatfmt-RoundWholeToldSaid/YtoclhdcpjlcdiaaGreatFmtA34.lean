import Derived.Test.YtoclhdcpjlcdiaaGreatFmtA33
import Derived.Test.YtoclhdcpjlcdiaaGreatFmtA24
import Derived.Test.YtoclhdcpjlcdiaaGreatFmtA27
/- Here stand lemmas: span: contracts, and the walk of the row. -/
set_option linter.unusedVariables false
set_option linter.unusedVariables false
namespace Go.Proofs
open Go Go.Eng
variable {B : World} {R : Ending → Heap → Prop} {h : Heap}
/-- The blank interval of package span. -/
def NoneH (h : Heap) : Prop := 0 < h.size ∧ cell? h ⟨0, 0, none⟩ = some (.int .i64 0) ∧ cell? h ⟨0, 1, none⟩ = some (.int .i64 0)
theorem NoneH.ext {h h' : Heap} (H : NoneH h) (f : Ext h h') : NoneH h' := by
  obtain ⟨a, b, c⟩ := H
  refine ⟨Nat.lt_of_lt_of_le a f.size, ?_, ?_⟩
  · unfold cell? at b ⊢; rw [f.same 0 a id]; exact b
  · unfold cell? at c ⊢; rw [f.same 0 a id]; exact c
theorem NoneH.c0 {h : Heap} (H : NoneH h) : cI h 0 0 .i64 0 := H.2.1
theorem NoneH.c1 {h : Heap} (H : NoneH h) : cell? h ⟨0, 0 + 1, none⟩ = some (.int .i64 0) := H.2.2
end Go.Proofs
set_option linter.unusedVariables false
namespace Go.Proofs
open Go Go.Eng
variable {B : World} {R : Ending → Heap → Prop} {h : Heap}
abbrev P1 : Int := 4607182418800017408
abbrev P2 : Int := 4611686018427387904
abbrev P3 : Int := 4613937818241073152
theorem pwOne : Pw P1 0 := ⟨by unfold I64 P1; omega, by decide +kernel, by decide +kernel, by omega⟩
theorem pwTwo : Pw P2 1 := ⟨by unfold I64 P2; omega, by decide +kernel, by decide +kernel, by omega⟩
theorem c11 : cls (addP P1 P1) ≠ 0 := by decide +kernel
theorem c12 : cls (addP P1 P2) ≠ 0 := by decide +kernel
theorem d11 : dirV (1 : Int).toNat (fV P1 + fV P1) (-1074) = P2 := by decide +kernel
theorem d12 : dirV (2 : Int).toNat (fV P1 + fV P2) (-1074) = P3 := by decide +kernel
theorem v11 : (vS P1 P1 && vS P1 P2) = true := by decide +kernel
theorem i1 : I64 P1 := pwOne.1
theorem i2 : I64 P2 := pwTwo.1
theorem i3 : I64 P3 := by unfold I64 P3; omega
end Go.Proofs
set_option linter.unusedVariables false
namespace Go.Eng
open Go
theorem rk_inf {p : Int} (ip : I64 p) (hn : isNaN p = false) (hf : isFin p = false) : rk p = 9218868437227405312 ∨ rk p = -9218868437227405312 := by
  obtain ⟨s, k, hk, rfl⟩ := as_pat ip hn
  by_cases h : k = 9218868437227405312
  · subst h
    rw [rk_pat (by omega)]
    cases s
    · exact .inl rfl
    · exact .inr rfl
  · rw [pat_fin (by omega)] at hf; cases hf
end Go.Eng
namespace Go.Proofs
open Go Go.Eng
variable {B : World} {R : Ending → Heap → Prop} {h : Heap}
end Go.Proofs
