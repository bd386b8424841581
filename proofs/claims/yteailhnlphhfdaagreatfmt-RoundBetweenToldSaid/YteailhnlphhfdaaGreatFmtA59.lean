import Derived.Test.YteailhnlphhfdaaGreatFmtA57
import Derived.Test.YteailhnlphhfdaaGreatFmtA40
import Derived.Test.YteailhnlphhfdaaGreatFmtA39
/- Here stand lemmas: rounding in the four ways: neighbours, the nearest, signs, order. -/
set_option linter.unusedVariables false
set_option linter.unusedVariables false
/-! The nearest of the two floats beside a number. -/
namespace Go.Eng
open Go
/-- The nearest is one of both beside the number. -/
theorem rung_side (m : Nat) (e : Int) : rung m e = min (flo m e + (incN m e).toNat) INF := rung_idx m e false
end Go.Eng
set_option linter.unusedVariables false
/-! Where a number is a float, down and up are it; else they are neighbours. -/
namespace Go.Proofs
open Go Go.Eng
theorem cast_pow2 (n : Nat) : ((2 ^ n : Nat) : Int) = (2 : Int) ^ n := by rw [Int.natCast_pow]; rfl
theorem tight_yes {K : Nat} {v b : Int} {w : Nat} (hw : w = 1 ∨ w = 2) (hK : 1074 ≤ K) (ib : I64 b) (fb : isFin b = true) (hv : fV b * ((2 ^ (K - 1074) : Nat) : Int) = v) : rk (dirV w v (-(K : Int))) = rk b := by
  have d1 := (dirV_scale w (fV b) (-(K : Int)) (K - 1074)).1
  rw [← hv, cast_pow2, d1, show -(K : Int) + ((K - 1074 : Nat) : Int) = -1074 by omega]
  exact rk_self hw ib fb
end Go.Proofs
set_option linter.unusedVariables false
/-! Rounding in four ways: neighbours around the number, the nearest, signs, order. -/
namespace Go.Proofs
open Go Go.Eng
theorem pz_nz (a : Int) : pz a ≠ -9223372036854775808 := by
  unfold pz
  split
  · decide
  · assumption
theorem pz_wf {a : Int} (ia : I64 a) (na : isNaN a = false) : I64 (pz a) ∧ isNaN (pz a) = false ∧ isFin (pz a) = isFin a ∧ fV (pz a) = fV a := by
  unfold pz
  split
  · rename_i h
    subst h
    exact ⟨by unfold I64; omega, by decide, by decide, by decide⟩
  · exact ⟨ia, na, rfl, rfl⟩
/-- What round.To tells. -/
def toR (w : Nat) (v : Int) (K : Nat) : Int := pz (dirV w v (-(K : Int)))
theorem toR_wf (w : Nat) (v : Int) (K : Nat) : I64 (toR w v K) ∧ isNaN (toR w v K) = false ∧ rk (toR w v K) = rk (dirV w v (-(K : Int))) ∧ isFin (toR w v K) = isFin (dirV w v (-(K : Int))) ∧ fV (toR w v K) = fV (dirV w v (-(K : Int))) := by
  obtain ⟨a, b, c, d⟩ := pz_wf (dirV_I64 w v (-(K : Int))) (dirV_nan w v (-(K : Int)))
  exact ⟨a, b, rk_pz _, c, d⟩
theorem dirP_3 (m : Nat) (e : Int) (neg : Bool) : dirP 3 neg m e = min (flo m e) (INF - 1) := by
  have hI : 0 < INF := by decide
  unfold dirP idxW awayW topW
  generalize INF = J at *
  simp only [Bool.toNat_false, Nat.add_zero, Bool.false_eq_true, if_false]
  split <;> omega
theorem dirP_0 (m : Nat) (e : Int) (neg : Bool) : dirP 0 neg m e = min (flo m e + (incN m e).toNat) INF := by
  rw [← rung_dir, rung_side]
theorem side3 {f o i J : Nat} (hJ : 0 < J) (hi : i ≤ o) (ho : o ≤ 1) (h : o = 1 ∨ J ≤ f) : min (f + o) J = min f (J - 1) + 1 ∧ (min (f + i) J = min f (J - 1) ∨ min (f + i) J = min (f + o) J) := by omega
/-- Of a number that is no float: down and up are neighbours, the nearest is one of them, to 0 the one that is nearer to 0. -/
theorem dir_inx {v e : Int} (h : inxV v e = true) : v ≠ 0 ∧ rk (dirV 2 v e) = rk (dirV 1 v e) + 1 ∧ (dirV 0 v e = dirV 1 v e ∨ dirV 0 v e = dirV 2 v e) ∧ dirV 3 v e = (if v < 0 then dirV 2 v e else dirV 1 v e) := by
  unfold inxV at h
  by_cases h0 : v = 0
  · rw [if_pos h0] at h; cases h
  · rw [if_neg h0] at h
    refine ⟨h0, ?_⟩
    obtain ⟨a1, a2⟩ := dirP_tow v.natAbs e
    obtain ⟨b1, b2⟩ := dirP_awy v.natAbs e
    have c0 := dirP_0 v.natAbs e
    have c3 := dirP_3 v.natAbs e
    have hin : incN v.natAbs e = true → odd v.natAbs e = true := incN_odd
    unfold inxN at h
    have hh : (odd v.natAbs e).toNat = 1 ∨ INF ≤ flo v.natAbs e := by
      cases ho : odd v.natAbs e
      · rw [ho, Bool.false_or] at h; exact .inr (of_decide_eq_true h)
      · exact .inl rfl
    have ti : (incN v.natAbs e).toNat ≤ (odd v.natAbs e).toNat ∧ (odd v.natAbs e).toNat ≤ 1 := by
      cases hn : incN v.natAbs e
      · cases odd v.natAbs e <;> decide
      · rw [hin hn]; decide
    obtain ⟨s1, s2⟩ := side3 (J := INF) (by decide) ti.1 ti.2 hh
    rw [rk_dirV, rk_dirV, if_neg h0, if_neg h0]
    unfold dirV
    rw [if_neg h0, if_neg h0, if_neg h0, if_neg h0]
    by_cases hn : v < 0
    · rw [decide_eq_true hn, if_pos hn, if_pos hn, if_pos hn, a2, b1, c0, c3, s1]
      refine ⟨by omega, ?_, rfl⟩
      rcases s2 with k | k
      · right; rw [k]
      · left; rw [k, s1]
    · rw [decide_eq_false hn, if_neg hn, if_neg hn, if_neg hn, a1, b2, c0, c3, s1]
      refine ⟨by omega, ?_, rfl⟩
      rcases s2 with k | k
      · left; rw [k]
      · right; rw [k, s1]
/-- A number that is a float is it, in every way. -/
theorem dir_exact {v : Int} {K : Nat} (hK : 1074 ≤ K) (h : inxV v (-(K : Int)) = false) : isFin (dirV 1 v (-(K : Int))) = true ∧ fV (dirV 1 v (-(K : Int))) * ((2 ^ (K - 1074) : Nat) : Int) = v ∧ ∀ w, dirV w v (-(K : Int)) = dirV 1 v (-(K : Int)) := by
  have hI := inf_lit
  by_cases h0 : v = 0
  · subst h0
    refine ⟨by rw [dirV_zero]; decide, by rw [dirV_zero, show fV 0 = 0 by decide, Int.zero_mul], fun w => by rw [dirV_zero, dirV_zero]⟩
  · unfold inxV at h
    rw [if_neg h0] at h
    unfold inxN at h
    obtain ⟨ho, hf⟩ := Bool.or_eq_false_iff.1 h
    have hf := of_decide_eq_false hf
    have hd : ∀ w ng, dirP w ng v.natAbs (-(K : Int)) = flo v.natAbs (-(K : Int)) := fun w ng => by
      have ha : awayW w ng v.natAbs (-(K : Int)) = false := by
        unfold awayW
        have hi : incN v.natAbs (-(K : Int)) = false := by
          cases hn : incN v.natAbs (-(K : Int))
          · rfl
          · rw [incN_odd hn] at ho; cases ho
        rw [hi, ho]
        split <;> simp
      unfold dirP idxW
      rw [ha, Bool.toNat_false, Nat.add_zero, if_pos (by omega)]
    obtain ⟨_, _, h3⟩ := flo_val hK (m := v.natAbs) (by omega)
    rw [ho] at h3
    have h4 : magK (flo v.natAbs (-(K : Int))) * 2 ^ (K - 1074) = v.natAbs := by
      have := of_decide_eq_false h3.symm
      omega
    have hall : ∀ w, dirV w v (-(K : Int)) = pat (decide (v < 0)) (flo v.natAbs (-(K : Int))) := fun w => by
      unfold dirV
      rw [if_neg h0, hd]
    rw [hall 1]
    refine ⟨pat_fin (by omega), ?_, fun w => hall w⟩
    rw [fV_mag (by omega)]
    by_cases hv : v < 0
    · rw [decide_eq_true hv, if_pos rfl, Int.neg_mul, ← Int.natCast_mul, h4]; omega
    · rw [decide_eq_false hv, if_neg Bool.false_ne_true, ← Int.natCast_mul, h4]; omega
/-- Where a float has a number's value it is no other number. -/
theorem inx_ne {v b : Int} {K : Nat} (hK : 1074 ≤ K) (h : inxV v (-(K : Int)) = true) (ib : I64 b) (fb : isFin b = true) : fV b * ((2 ^ (K - 1074) : Nat) : Int) ≠ v := fun e => by
  have h1 := tight_yes (.inl rfl) hK ib fb e
  have h2 := tight_yes (.inr rfl) hK ib fb e
  have := (dir_inx h).2.1
  omega
end Go.Proofs
