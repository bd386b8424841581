import Derived.Test.YtoclhdcpjlcdiaaGreatFmtA39
import Derived.Test.YtoclhdcpjlcdiaaGreatFmtA57
/- Here stand lemmas: sums and products of ends. -/
set_option linter.unusedVariables false
set_option linter.unusedVariables false
/-! What is told of a number lies on its side of it. -/
namespace Go.Eng
open Go
theorem dirP_tow (m : Nat) (e : Int) : dirP 1 false m e = min (flo m e) (INF - 1) ∧ dirP 2 true m e = min (flo m e) (INF - 1) := by
  have hI : 0 < INF := by decide
  unfold dirP idxW awayW topW
  generalize INF = J at *
  constructor <;> (simp only [Bool.false_and, Bool.not_true, Bool.toNat_false, Nat.add_zero, Bool.false_eq_true, if_false]; split <;> omega)
theorem dirP_awy (m : Nat) (e : Int) : dirP 1 true m e = min (flo m e + (odd m e).toNat) INF ∧ dirP 2 false m e = min (flo m e + (odd m e).toNat) INF := by
  have hI : 0 < INF := by decide
  unfold dirP idxW awayW topW
  generalize INF = J at *
  constructor <;> (simp only [Bool.true_and, Bool.not_false, if_true]; split <;> omega)
theorem tow_le {m K : Nat} (hK : 1074 ≤ K) (hm : m ≠ 0) {k : Nat} (hk : k ≤ flo m (-(K : Int))) : magK k * 2 ^ (K - 1074) ≤ m := by
  obtain ⟨h1, _, _⟩ := flo_val hK hm
  have h2 : magK k ≤ magK (flo m (-(K : Int))) := by
    rcases Nat.lt_or_ge k (flo m (-(K : Int))) with h | h
    · exact Nat.le_of_lt (magK_lt h)
    · rw [show k = flo m (-(K : Int)) by omega]; exact Nat.le_refl _
  exact Nat.le_trans (Nat.mul_le_mul_right _ h2) h1
theorem awy_ge {m K : Nat} (hK : 1074 ≤ K) (hm : m ≠ 0) : m ≤ magK (flo m (-(K : Int)) + (odd m (-(K : Int))).toNat) * 2 ^ (K - 1074) := by
  obtain ⟨h1, h2, h3⟩ := flo_val hK hm
  cases ho : odd m (-(K : Int))
  · rw [ho] at h3
    have := of_decide_eq_false h3.symm
    show m ≤ magK (flo m (-(K : Int)) + 0) * _
    rw [Nat.add_zero]; omega
  · exact Nat.le_of_lt h2
theorem fin_pat {s : Bool} {k : Nat} (hk : k ≤ 9218868437227405312) (h : isFin (pat s k) = true) : k < 9218868437227405312 := by
  unfold isFin at h
  rw [pat_fE s (by omega), decide_eq_true_eq] at h
  omega
theorem inf_lit : INF = 9218868437227405312 := rfl
/-- Rounding down tells no more. -/
theorem dirV_lo {v : Int} {K : Nat} (hK : 1074 ≤ K) (hf : isFin (dirV 1 v (-(K : Int))) = true) : fV (dirV 1 v (-(K : Int))) * ((2 ^ (K - 1074) : Nat) : Int) ≤ v := by
  have hI := inf_lit
  unfold dirV at hf ⊢
  by_cases h0 : v = 0
  · rw [if_pos h0, h0, show fV 0 = 0 by decide, Int.zero_mul]; exact Int.le_refl _
  · rw [if_neg h0] at hf ⊢
    by_cases h1 : v < 0
    · rw [decide_eq_true h1] at hf ⊢
      have hk := fin_pat (by have := dirP_le 1 true v.natAbs (-(K : Int)); omega) hf
      rw [fV_mag hk, if_pos rfl, Int.neg_mul, ← Int.natCast_mul]
      have ha := (dirP_awy v.natAbs (-(K : Int))).1
      have := awy_ge hK (m := v.natAbs) (by omega)
      rw [show dirP 1 true v.natAbs (-(K : Int)) = flo v.natAbs (-(K : Int)) + (odd v.natAbs (-(K : Int))).toNat by omega]
      omega
    · rw [decide_eq_false h1] at hf ⊢
      have hk := fin_pat (by have := dirP_le 1 false v.natAbs (-(K : Int)); omega) hf
      rw [fV_mag hk, if_neg Bool.false_ne_true, ← Int.natCast_mul]
      have ha := (dirP_tow v.natAbs (-(K : Int))).1
      have := tow_le hK (m := v.natAbs) (by omega) (k := dirP 1 false v.natAbs (-(K : Int))) (by omega)
      omega
/-- Down is not above up; down is not infinite above, up not below. -/
theorem dirV_12 (v e : Int) : rk (dirV 1 v e) ≤ rk (dirV 2 v e) ∧ rk (dirV 1 v e) < 9218868437227405312 ∧ -9218868437227405312 < rk (dirV 2 v e) := by
  have hI := inf_lit
  rw [rk_dirV, rk_dirV]
  by_cases h0 : v = 0
  · rw [if_pos h0, if_pos h0]; omega
  · rw [if_neg h0, if_neg h0]
    obtain ⟨a1, a2⟩ := dirP_tow v.natAbs e
    obtain ⟨b1, b2⟩ := dirP_awy v.natAbs e
    by_cases h1 : v < 0
    · rw [if_pos h1, if_pos h1, b1, a2]; omega
    · rw [if_neg h1, if_neg h1, a1, b2]; omega
theorem flo_self {k : Nat} (h0 : 0 < k) : flo (magK k) (-1074) = k ∧ odd (magK k) (-1074) = false := by
  have hm : magK k ≠ 0 := by have := magK_lt h0; omega
  obtain ⟨h1, h2, h3⟩ := flo_val (K := 1074) (Nat.le_refl _) hm
  have e : -(((1074 : Nat)) : Int) = -1074 := rfl
  rw [e] at h1 h2 h3
  rw [Nat.sub_self, Nat.pow_zero, Nat.mul_one] at h1 h2 h3
  have hk : flo (magK k) (-1074) = k := by
    rcases Nat.lt_trichotomy (flo (magK k) (-1074)) k with h | h | h
    · have : magK (flo (magK k) (-1074) + 1) ≤ magK k := by
        rcases Nat.lt_or_ge (flo (magK k) (-1074) + 1) k with h4 | h4
        · exact Nat.le_of_lt (magK_lt h4)
        · rw [show flo (magK k) (-1074) + 1 = k by omega]; exact Nat.le_refl _
      omega
    · exact h
    · have := magK_lt h; omega
  refine ⟨hk, ?_⟩
  rw [h3, hk]
  exact decide_eq_false fun x => x rfl
/-- A float's own value, rounded. -/
theorem rk_self {w : Nat} {a : Int} (hw : w = 1 ∨ w = 2) (ia : I64 a) (fa : isFin a = true) : rk (dirV w (fV a) (-1074)) = rk a := by
  have hI := inf_lit
  obtain ⟨s, k, hk, rfl⟩ := as_pat ia (fin_not fa).1
  have hk := fin_pat hk fa
  rw [rk_dirV, fV_mag hk, rk_pat (by omega)]
  by_cases h0 : k = 0
  · subst h0
    rw [magK_zero]
    cases s <;> rfl
  · have hm := magK_lt (show 0 < k by omega)
    rw [magK_zero] at hm
    obtain ⟨f1, f2⟩ := flo_self (show 0 < k by omega)
    obtain ⟨a1, a2⟩ := dirP_tow (magK k) (-1074)
    obtain ⟨b1, b2⟩ := dirP_awy (magK k) (-1074)
    rw [f1] at a1 a2
    rw [f1, f2, show false.toNat = 0 from rfl] at b1 b2
    cases s
    · simp only [Bool.false_eq_true, if_false]
      rw [if_neg (by omega), if_neg (by omega), Int.natAbs_natCast]
      rcases hw with rfl | rfl
      · rw [a1]; omega
      · rw [b2]; omega
    · simp only [if_true]
      rw [if_neg (by omega), if_pos (by omega), Int.natAbs_neg, Int.natAbs_natCast]
      rcases hw with rfl | rfl
      · rw [b1]; omega
      · rw [a2]; omega
end Go.Eng
set_option linter.unusedVariables false
/-! Products of ends keep the order. -/
namespace Go.Eng
open Go
theorem fin_rk {a : Int} (ia : I64 a) (fa : isFin a = true) : -9218868437227405312 < rk a ∧ rk a < 9218868437227405312 := by
  obtain ⟨s, k, hk, rfl⟩ := as_pat ia (fin_not fa).1
  have hk := fin_pat hk fa
  rw [rk_pat (by omega)]
  cases s <;> simp only [Bool.false_eq_true, if_false, if_true] <;> omega
end Go.Eng
namespace Go.Proofs
open Go Go.Eng
end Go.Proofs
set_option linter.unusedVariables false
/-! Sums of ends keep the order. -/
namespace Go.Eng
open Go
theorem fin_of_rk {a : Int} (ia : I64 a) (na : isNaN a = false) (h1 : -9218868437227405312 < rk a) (h2 : rk a < 9218868437227405312) : isFin a = true := by
  cases hf : isFin a
  · rcases rk_inf ia na hf with h | h <;> omega
  · rfl
end Go.Eng
namespace Go.Proofs
open Go Go.Eng
theorem rk_pz (a : Int) : rk (pz a) = rk a := by
  unfold pz
  by_cases h : a = -9223372036854775808
  · rw [if_pos h, h]; rfl
  · rw [if_neg h]
end Go.Proofs
set_option linter.unusedVariables false
/-! What is told of single floats; what an exact number lies in. -/
namespace Go.Eng
open Go
/-- What is told of a float: one that is no nought below 0. -/
structure PtS (A a : Int) : Prop where
  i : I64 A
  n : isNaN A = false
  z : A ≠ -9223372036854775808
  r : rk A = rk a
theorem PtS.fin {A a : Int} (P : PtS A a) (ia : I64 a) (fa : isFin a = true) : isFin A = true :=
  fin_of_rk P.i P.n (by rw [P.r]; exact (fin_rk ia fa).1) (by rw [P.r]; exact (fin_rk ia fa).2)
theorem PtS.val {A a : Int} (P : PtS A a) (ia : I64 a) (fa : isFin a = true) : fV A = fV a := (fV_rk P.i ia (P.fin ia fa) fa).2.2 P.r
theorem PtS.of {x a : Int} (ix : I64 x) (nx : isNaN x = false) (h : rk x = rk a) : PtS (cnP x) a := by
  obtain ⟨h1, h2, h3⟩ := cn_rk ix nx
  exact ⟨h3, h2, cn_nz ix nx, by rw [h1, h]⟩
end Go.Eng
namespace Go.Proofs
open Go Go.Eng
end Go.Proofs
