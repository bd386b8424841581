import Derived.Test.YteailhnlphhfdaaGreatFmtA38
import Derived.Test.YteailhnlphhfdaaGreatFmtA57
/- Here stand lemmas: span: further contracts; rounding keeps the order. -/
set_option linter.unusedVariables false
set_option linter.unusedVariables false
namespace Go.Eng
open Go
theorem cn_nz {a : Int} (ha : I64 a) (hn : isNaN a = false) : cnP a ≠ -9223372036854775808 := by
  obtain ⟨s, k, hk, rfl⟩ := as_pat ha hn
  have hz : isNaN 0 = false ∧ isInf 0 = false ∧ fW 0 = 0 ∧ decide ((0 : Int) < 0) = false := ⟨by decide, by decide, by decide, by decide⟩
  unfold cnP addP plusP
  rw [hn, hz.1, hz.2.1, hz.2.2.1, hz.2.2.2]
  by_cases h : k = 9218868437227405312
  · subst h
    have hi : isInf (pat s 9218868437227405312) = true := by cases s <;> decide +kernel
    rw [hi, pat_neg s (by omega)]
    simp only [Bool.or_self, Bool.and_false, Bool.false_and, Bool.false_eq_true, if_false, if_true]
    cases s <;> decide
  · have hf : isFin (pat s k) = true := pat_fin (by omega)
    have hi : isInf (pat s k) = false := (fin_not hf).2
    have hw : fW (pat s k) = if s then -(magK k : Int) else (magK k : Int) := by unfold fW; rw [if_pos hf, fV_mag (by omega)]
    rw [hi, hw, pat_neg s (by omega), Int.add_zero]
    simp only [Bool.or_self, Bool.and_false, Bool.false_and, Bool.false_eq_true, if_false]
    have hab : (if s then -(magK k : Int) else (magK k : Int)).natAbs = magK k := by cases s <;> simp
    rw [hab, rung_mag hk]
    by_cases h0 : k = 0
    · subst h0
      rw [magK_zero]
      cases s <;> decide
    · unfold pat
      split <;> omega
/-- An interval that was told: ends that are no NaNs, canonical, in order. -/
structure TolS (lo hi : Int) : Prop where
  il : I64 lo
  ih : I64 hi
  nl : isNaN lo = false
  nh : isNaN hi = false
  zl : lo ≠ -9223372036854775808
  zh : hi ≠ -9223372036854775808
  v : vS lo hi = true
theorem TolS.mk' {x y : Int} (ix : I64 x) (iy : I64 y) (nx : isNaN x = false) (ny : isNaN y = false) (h1 : rk x ≤ rk y) (h2 : rk x < 9218868437227405312) (h3 : -9218868437227405312 < rk y) : TolS (cnP x) (cnP y) := by
  obtain ⟨a1, a2, a3⟩ := cn_rk ix nx
  obtain ⟨b1, b2, b3⟩ := cn_rk iy ny
  refine ⟨a3, b3, a2, b2, cn_nz ix nx, cn_nz iy ny, ?_⟩
  unfold vS
  rw [a2, b2, a1, b1, decide_eq_true h1, decide_eq_true h2, decide_eq_true h3]; rfl
end Go.Eng
namespace Go.Proofs
open Go Go.Eng
variable {B : World} {R : Ending → Heap → Prop} {h : Heap}
end Go.Proofs
set_option linter.unusedVariables false
namespace Go.Proofs
open Go Go.Eng
variable {B : World} {R : Ending → Heap → Prop} {h : Heap}
/-- So many places below, and above. -/
def Dn (b x : Int) (j : Nat) : Prop := I64 x ∧ (isNaN b = false → isNaN x = false ∧ rk x = max (rk b - j) (-9218868437227405312))
def Up (b x : Int) (j : Nat) : Prop := I64 x ∧ (isNaN b = false → isNaN x = false ∧ rk x = min (rk b + j) 9218868437227405312)
end Go.Proofs
set_option linter.unusedVariables false
namespace Go.Eng
open Go
theorem inf_lt63 : INF < 9223372036854775808 := by decide
theorem rk_dirV (w : Nat) (v e : Int) : rk (dirV w v e) = if v = 0 then 0 else if v < 0 then -(dirP w true v.natAbs e : Int) else (dirP w false v.natAbs e : Int) := by
  unfold dirV
  by_cases h0 : v = 0
  · rw [if_pos h0, if_pos h0]; decide
  · rw [if_neg h0, if_neg h0]
    have hb : ∀ b, dirP w b v.natAbs e < 9223372036854775808 := fun b => Nat.lt_of_le_of_lt (dirP_le w b _ e) inf_lt63
    by_cases h1 : v < 0
    · rw [decide_eq_true h1, rk_pat (hb true), if_pos h1, if_pos rfl]
    · rw [decide_eq_false h1, rk_pat (hb false), if_neg h1, if_neg Bool.false_ne_true]
end Go.Eng
