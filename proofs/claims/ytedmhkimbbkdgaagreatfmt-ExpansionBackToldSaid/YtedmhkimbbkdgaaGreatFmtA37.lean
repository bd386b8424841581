import Derived.Test.YtedmhkimbbkdgaaGreatFmtA34
/- Here stand lemmas: sums in place. -/
set_option linter.unusedVariables false
set_option linter.unusedVariables false
namespace Go.Eng
open Go
/-- What stands behind what was written stands as it stood. -/
theorem Wrote.rest {k : IntKind} {h0 h : Heap} {b o : Nat} {zs xs : List Nat} (W : Wrote k h0 h b o zs) (hx : Sl k h0 (some ⟨b, o, none⟩) xs) (hl : zs.length ≤ xs.length) : Wrote k h0 h b o (zs ++ xs.drop zs.length) := by
  rcases hx with hx | ⟨b', o', cs', e1, e2, e3⟩
  · subst hx
    have : zs = [] := List.eq_nil_of_length_eq_zero (by simpa using hl)
    subst this; exact W
  · cases e1
    obtain ⟨c0, cs, e, h1, h2, h3, h4, h5⟩ := W.blk
    have : cs' = c0 := e2.inj ⟨e, h1⟩
    subst this
    refine ⟨W.size, W.same, cs', cs, e, h1, h2, h3, fun j hj => h4 j ?_, fun j hj => ?_⟩
    · rw [List.length_append, List.length_drop] at hj; omega
    · rw [List.length_append, List.length_drop] at hj
      by_cases hz : j < zs.length
      · rw [List.getElem_append_left hz]; exact h5 j hz
      · rw [List.getElem_append_right (by omega), List.getElem_drop, h4 (o + j) (by omega), e3 j (by omega)]
        congr 4; omega
end Go.Eng
namespace Go.Proofs
open Go Go.Eng
variable {B : World} {R : Ending → Heap → Prop} {h : Heap}
end Go.Proofs
