import Derived.Test.YtedmhkimbbkdgaaGreatFmtA38
/- Here stand lemmas: span: further contracts; rounding keeps the order. -/
set_option linter.unusedVariables false
set_option linter.unusedVariables false
namespace Go.Eng
open Go
theorem cn_nz {a : Int} (ha : I64 a) (hn : isNaN a = false) : cnP a ≠ -9223372036854775808 := by
  obtain ⟨s, k, hk, rfl⟩ := as_pat ha hn
  have hz : isNaN 0 = false ∧ isInf 0 = false ∧ fW 0 = 0 ∧ decide ((0 : Int) < 0) = false := ⟨by decide, by decide, by decide, by decide⟩
  unfold cnP addP plusP
  rw [hn, hz.1, hz.2.1, hz.2.2.1, hz.2.2.2]
  by_cases h : k = 9218868437227405312
  · subst h
    have hi : isInf (pat s 9218868437227405312) = true := by cases s <;> decide +kernel
    rw [hi, pat_neg s (by omega)]
    simp only [Bool.or_self, Bool.and_false, Bool.false_and, Bool.false_eq_true, if_false, if_true]
    cases s <;> decide
  · have hf : isFin (pat s k) = true := pat_fin (by omega)
    have hi : isInf (pat s k) = false := (fin_not hf).2
    have hw : fW (pat s k) = if s then -(magK k : Int) else (magK k : Int) := by unfold fW; rw [if_pos hf, fV_mag (by omega)]
    rw [hi, hw, pat_neg s (by omega), Int.add_zero]
    simp only [Bool.or_self, Bool.and_false, Bool.false_and, Bool.false_eq_true, if_false]
    have hab : (if s then -(magK k : Int) else (magK k : Int)).natAbs = magK k := by cases s <;> simp
    rw [hab, rung_mag hk]
    by_cases h0 : k = 0
    · subst h0
      rw [magK_zero]
      cases s <;> decide
    · unfold pat
      split <;> omega
/-- An interval that was told: ends that are no NaNs, canonical, in order. -/
structure TolS (lo hi : Int) : Prop where
  il : I64 lo
  ih : I64 hi
  nl : isNaN lo = false
  nh : isNaN hi = false
  zl : lo ≠ -9223372036854775808
  zh : hi ≠ -9223372036854775808
  v : vS lo hi = true
theorem TolS.mk' {x y : Int} (ix : I64 x) (iy : I64 y) (nx : isNaN x = false) (ny : isNaN y = false) (h1 : rk x ≤ rk y) (h2 : rk x < 9218868437227405312) (h3 : -9218868437227405312 < rk y) : TolS (cnP x) (cnP y) := by
  obtain ⟨a1, a2, a3⟩ := cn_rk ix nx
  obtain ⟨b1, b2, b3⟩ := cn_rk iy ny
  refine ⟨a3, b3, a2, b2, cn_nz ix nx, cn_nz iy ny, ?_⟩
  unfold vS
  rw [a2, b2, a1, b1, decide_eq_true h1, decide_eq_true h2, decide_eq_true h3]; rfl
end Go.Eng
namespace Go.Proofs
open Go Go.Eng
variable {B : World} {R : Ending → Heap → Prop} {h : Heap}
end Go.Proofs
set_option linter.unusedVariables false
namespace Go.Eng
open Go
theorem same3 {h h' : Heap} {b : Nat} {cs : Array Value} {S : Nat → Prop} (H : Own h b cs) (f : Fr S h h') (hb : ¬ S b) : sameCells h h' b 0 3 := by
  have h1 := H.fr f hb
  simp only [sameCells]
  simp [H.cell, h1.cell]
end Go.Eng
namespace Go.Proofs
open Go Go.Eng
variable {B : World} {R : Ending → Heap → Prop} {h : Heap}
end Go.Proofs
