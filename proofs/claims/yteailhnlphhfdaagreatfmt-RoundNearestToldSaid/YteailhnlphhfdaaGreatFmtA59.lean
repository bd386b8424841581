import Derived.Test.YteailhnlphhfdaaGreatFmtA57
import Derived.Test.YteailhnlphhfdaaGreatFmtA40
import Derived.Test.YteailhnlphhfdaaGreatFmtA39
/- Here stand lemmas: rounding in the four ways: neighbours, the nearest, signs, order. -/
set_option linter.unusedVariables false
set_option linter.unusedVariables false
/-! The nearest of the two floats beside a number. -/
namespace Go.Eng
open Go
/-- A number goes to the rung above just where that one is nearer, or as near and even. -/
theorem near_val {m K : Nat} (hK : 1074 ≤ K) (hm : m ≠ 0) : incN m (-(K : Int)) = decide (magK (flo m (-(K : Int)) + 1) * 2 ^ (K - 1074) - m < m - magK (flo m (-(K : Int))) * 2 ^ (K - 1074) ∨
    (magK (flo m (-(K : Int)) + 1) * 2 ^ (K - 1074) - m = m - magK (flo m (-(K : Int))) * 2 ^ (K - 1074) ∧ flo m (-(K : Int)) % 2 = 1)) := by
  obtain ⟨b1, b2⟩ := cut_bd (-(K : Int)) hm
  have hl := lastP_ge m (-(K : Int))
  have hX : cutX m (-(K : Int)) = m := by unfold cutX; rw [show (-(K : Int) - lastP m (-(K : Int))).toNat = 0 by omega, Nat.pow_zero, Nat.mul_one]
  have hD : cutD m (-(K : Int)) = (lastP m (-(K : Int)) + 1074).toNat + (K - 1074) := by unfold cutD; omega
  have p : 0 < 2 ^ cutD m (-(K : Int)) := Nat.pow_pos (by decide)
  have q1 : cutX m (-(K : Int)) / 2 ^ cutD m (-(K : Int)) < 9007199254740992 := by
    rw [Nat.div_lt_iff_lt_mul p, show (9007199254740992 : Nat) = 2 ^ 53 by decide, ← Nat.pow_add]; exact b1
  have q2 : (lastP m (-(K : Int)) + 1074).toNat = 0 ∨ 4503599627370496 ≤ cutX m (-(K : Int)) / 2 ^ cutD m (-(K : Int)) := by
    by_cases h : lastP m (-(K : Int)) = -1074
    · left; omega
    · right
      rw [Nat.le_div_iff_mul_le p, show (4503599627370496 : Nat) = 2 ^ 52 by decide, ← Nat.pow_add]; exact b2 h
  have e1 : magK (flo m (-(K : Int))) = cutX m (-(K : Int)) / 2 ^ cutD m (-(K : Int)) * 2 ^ (lastP m (-(K : Int)) + 1074).toNat := magK_form (by omega) q2
  have e2 : magK (flo m (-(K : Int)) + 1) = (cutX m (-(K : Int)) / 2 ^ cutD m (-(K : Int)) + 1) * 2 ^ (lastP m (-(K : Int)) + 1074).toNat := by
    unfold flo; rw [Nat.add_assoc]; exact magK_form (by omega) (by omega)
  have ef : flo m (-(K : Int)) % 2 = cutX m (-(K : Int)) / 2 ^ cutD m (-(K : Int)) % 2 := by unfold flo; omega
  rw [e1, e2, Nat.mul_assoc, Nat.mul_assoc, ← Nat.pow_add, ← hD, ef]
  unfold incN
  rw [hX] at *
  have d1 := Nat.div_add_mod m (2 ^ cutD m (-(K : Int)))
  have d2 := Nat.mod_lt m p
  clear b1 b2 hD q1 q2 e1 e2 ef
  generalize 2 ^ cutD m (-(K : Int)) = D at *
  rw [Nat.add_mul, Nat.one_mul, decide_eq_decide]
  rw [Nat.mul_comm] at d1
  generalize m / D * D = u at *
  generalize m % D = r at *
  generalize m / D = q at *
  omega
/-- The nearest is one of both beside the number. -/
theorem rung_side (m : Nat) (e : Int) : rung m e = min (flo m e + (incN m e).toNat) INF := rung_idx m e false
end Go.Eng
set_option linter.unusedVariables false
namespace Go.Eng
open Go
/-- Down, up and nearest, of a number between two finite floats. -/
theorem dir_beside {m : Nat} {e : Int} (ho : odd m e = true) (hf : flo m e + 1 < INF) (neg : Bool) :
    dirP 1 neg m e = (if neg then flo m e + 1 else flo m e) ∧ dirP 2 neg m e = (if neg then flo m e else flo m e + 1) ∧ dirP 0 neg m e = flo m e + (incN m e).toNat := by
  have h1 : (incN m e).toNat ≤ 1 := by cases incN m e <;> decide
  refine ⟨?_, ?_, ?_⟩
  · unfold dirP idxW awayW
    cases neg <;> simp [ho] <;> omega
  · unfold dirP idxW awayW
    cases neg <;> simp [ho] <;> omega
  · rw [← rung_dir, rung_side]; omega
/-- The nearest float, of a number between two finite ones. -/
theorem nearest_law {v : Int} {K : Nat} (hK : 1074 ≤ K) (h0 : v ≠ 0) (ho : odd v.natAbs (-(K : Int)) = true) (hf : flo v.natAbs (-(K : Int)) + 1 < INF) (f m lo hi : Nat) (ef : f = flo v.natAbs (-(K : Int))) (em : m = v.natAbs)
    (el : lo = magK f * 2 ^ (K - 1074)) (eh : hi = magK (f + 1) * 2 ^ (K - 1074)) :
    dirV 1 v (-(K : Int)) = pat (decide (v < 0)) (if v < 0 then f + 1 else f) ∧ dirV 2 v (-(K : Int)) = pat (decide (v < 0)) (if v < 0 then f else f + 1) ∧
      dirV 0 v (-(K : Int)) = pat (decide (v < 0)) (if hi - m < m - lo ∨ (hi - m = m - lo ∧ f % 2 = 1) then f + 1 else f) ∧ lo ≤ m ∧ m < hi := by
  obtain ⟨d1, d2, d3⟩ := dir_beside ho hf (decide (v < 0))
  obtain ⟨g1, g2, _⟩ := flo_val hK (m := v.natAbs) (by omega)
  have nv := near_val hK (m := v.natAbs) (by omega)
  subst ef em
  rw [← el] at g1 nv
  rw [← eh] at g2 nv
  unfold dirV
  rw [if_neg h0, if_neg h0, if_neg h0, d1, d2, d3, nv]
  refine ⟨?_, ?_, ?_, g1, g2⟩
  · by_cases c : v < 0
    · rw [decide_eq_true c, if_pos rfl, if_pos c]
    · rw [decide_eq_false c, if_neg (by decide), if_neg c]
  · by_cases c : v < 0
    · rw [decide_eq_true c, if_pos rfl, if_pos c]
    · rw [decide_eq_false c, if_neg (by decide), if_neg c]
  · congr 1
    split
    · rename_i c; rw [decide_eq_true c, Bool.toNat_true]
    · rename_i c; rw [decide_eq_false c, Bool.toNat_false, Nat.add_zero]
end Go.Eng
set_option linter.unusedVariables false
/-! Rounding in four ways: neighbours around the number, the nearest, signs, order. -/
namespace Go.Proofs
open Go Go.Eng
theorem pz_wf {a : Int} (ia : I64 a) (na : isNaN a = false) : I64 (pz a) ∧ isNaN (pz a) = false ∧ isFin (pz a) = isFin a ∧ fV (pz a) = fV a := by
  unfold pz
  split
  · rename_i h
    subst h
    exact ⟨by unfold I64; omega, by decide, by decide, by decide⟩
  · exact ⟨ia, na, rfl, rfl⟩
/-- What round.To tells. -/
def toR (w : Nat) (v : Int) (K : Nat) : Int := pz (dirV w v (-(K : Int)))
theorem toR_wf (w : Nat) (v : Int) (K : Nat) : I64 (toR w v K) ∧ isNaN (toR w v K) = false ∧ rk (toR w v K) = rk (dirV w v (-(K : Int))) ∧ isFin (toR w v K) = isFin (dirV w v (-(K : Int))) ∧ fV (toR w v K) = fV (dirV w v (-(K : Int))) := by
  obtain ⟨a, b, c, d⟩ := pz_wf (dirV_I64 w v (-(K : Int))) (dirV_nan w v (-(K : Int)))
  exact ⟨a, b, rk_pz _, c, d⟩
theorem dirP_3 (m : Nat) (e : Int) (neg : Bool) : dirP 3 neg m e = min (flo m e) (INF - 1) := by
  have hI : 0 < INF := by decide
  unfold dirP idxW awayW topW
  generalize INF = J at *
  simp only [Bool.toNat_false, Nat.add_zero, Bool.false_eq_true, if_false]
  split <;> omega
theorem dirP_0 (m : Nat) (e : Int) (neg : Bool) : dirP 0 neg m e = min (flo m e + (incN m e).toNat) INF := by
  rw [← rung_dir, rung_side]
theorem side3 {f o i J : Nat} (hJ : 0 < J) (hi : i ≤ o) (ho : o ≤ 1) (h : o = 1 ∨ J ≤ f) : min (f + o) J = min f (J - 1) + 1 ∧ (min (f + i) J = min f (J - 1) ∨ min (f + i) J = min (f + o) J) := by omega
theorem min_lt' {a J : Nat} (h : min a J < J) : a < J := by omega
/-- Of a number that is no float: down and up are neighbours, the nearest is one of them, to 0 the one that is nearer to 0. -/
theorem dir_inx {v e : Int} (h : inxV v e = true) : v ≠ 0 ∧ rk (dirV 2 v e) = rk (dirV 1 v e) + 1 ∧ (dirV 0 v e = dirV 1 v e ∨ dirV 0 v e = dirV 2 v e) ∧ dirV 3 v e = (if v < 0 then dirV 2 v e else dirV 1 v e) := by
  unfold inxV at h
  by_cases h0 : v = 0
  · rw [if_pos h0] at h; cases h
  · rw [if_neg h0] at h
    refine ⟨h0, ?_⟩
    obtain ⟨a1, a2⟩ := dirP_tow v.natAbs e
    obtain ⟨b1, b2⟩ := dirP_awy v.natAbs e
    have c0 := dirP_0 v.natAbs e
    have c3 := dirP_3 v.natAbs e
    have hin : incN v.natAbs e = true → odd v.natAbs e = true := incN_odd
    unfold inxN at h
    have hh : (odd v.natAbs e).toNat = 1 ∨ INF ≤ flo v.natAbs e := by
      cases ho : odd v.natAbs e
      · rw [ho, Bool.false_or] at h; exact .inr (of_decide_eq_true h)
      · exact .inl rfl
    have ti : (incN v.natAbs e).toNat ≤ (odd v.natAbs e).toNat ∧ (odd v.natAbs e).toNat ≤ 1 := by
      cases hn : incN v.natAbs e
      · cases odd v.natAbs e <;> decide
      · rw [hin hn]; decide
    obtain ⟨s1, s2⟩ := side3 (J := INF) (by decide) ti.1 ti.2 hh
    rw [rk_dirV, rk_dirV, if_neg h0, if_neg h0]
    unfold dirV
    rw [if_neg h0, if_neg h0, if_neg h0, if_neg h0]
    by_cases hn : v < 0
    · rw [decide_eq_true hn, if_pos hn, if_pos hn, if_pos hn, a2, b1, c0, c3, s1]
      refine ⟨by omega, ?_, rfl⟩
      rcases s2 with k | k
      · right; rw [k]
      · left; rw [k, s1]
    · rw [decide_eq_false hn, if_neg hn, if_neg hn, if_neg hn, a1, b2, c0, c3, s1]
      refine ⟨by omega, ?_, rfl⟩
      rcases s2 with k | k
      · left; rw [k]
      · right; rw [k, s1]
theorem pat_par (s : Bool) (k : Nat) : pat s k % 2 = ((k % 2 : Nat) : Int) := by
  unfold pat
  cases s
  · simp only [Bool.false_eq_true, if_false]; omega
  · simp only [if_true]; omega
theorem pz_par (a : Int) : pz a % 2 = a % 2 := by
  unfold pz
  split
  · rename_i h; subst h; decide
  · rfl
/-- No float is nearer than the nearest; of two as near it is the even one. -/
theorem nearest_R {v : Int} {K : Nat} (hK : 1074 ≤ K) (h : inxV v (-(K : Int)) = true) (f1 : isFin (toR 1 v K) = true) (f2 : isFin (toR 2 v K) = true) :
    let low := v - fV (toR 1 v K) * ((2 ^ (K - 1074) : Nat) : Int)
    let high := fV (toR 2 v K) * ((2 ^ (K - 1074) : Nat) : Int) - v
    (low < high → toR 0 v K = toR 1 v K) ∧ (high < low → toR 0 v K = toR 2 v K) ∧ (low = high → toR 0 v K % 2 = 0) := by
  have hI := inf_lit
  obtain ⟨h0, _⟩ := dir_inx h
  rw [(toR_wf 1 v K).2.2.2.1] at f1
  rw [(toR_wf 2 v K).2.2.2.1] at f2
  rw [(toR_wf 1 v K).2.2.2.2, (toR_wf 2 v K).2.2.2.2]
  unfold inxV at h
  rw [if_neg h0] at h
  unfold inxN at h
  obtain ⟨a1, a2⟩ := dirP_tow v.natAbs (-(K : Int))
  obtain ⟨b1, b2⟩ := dirP_awy v.natAbs (-(K : Int))
  have hb : flo v.natAbs (-(K : Int)) + (odd v.natAbs (-(K : Int))).toNat < INF := by
    unfold dirV at f1 f2
    rw [if_neg h0] at f1 f2
    by_cases hn : v < 0
    · rw [decide_eq_true hn] at f1
      have := fin_pat (by have := dirP_le 1 true v.natAbs (-(K : Int)); omega) f1
      rw [b1, ← hI] at this
      exact min_lt' this
    · rw [decide_eq_false hn] at f2
      have := fin_pat (by have := dirP_le 2 false v.natAbs (-(K : Int)); omega) f2
      rw [b2, ← hI] at this
      exact min_lt' this
  have ho : odd v.natAbs (-(K : Int)) = true := by
    cases ho : odd v.natAbs (-(K : Int))
    · rw [ho, Bool.false_or] at h
      have := of_decide_eq_true h
      exact absurd (Nat.lt_of_le_of_lt (Nat.le_add_right _ _) hb) (Nat.not_lt.2 this)
    · rfl
  have hf : flo v.natAbs (-(K : Int)) + 1 < INF := by
    rw [ho] at hb
    exact hb
  obtain ⟨d1, d2, d3, g1, g2⟩ := nearest_law hK h0 ho hf _ _ _ _ rfl rfl rfl rfl
  generalize flo v.natAbs (-(K : Int)) = f at *
  unfold toR
  rw [d1, d2, d3]
  have hf1 : f < INF := Nat.lt_of_succ_lt hf
  have e1 : ∀ k s, k < INF → fV (pat s k) * ((2 ^ (K - 1074) : Nat) : Int) = if s then -((magK k * 2 ^ (K - 1074) : Nat) : Int) else ((magK k * 2 ^ (K - 1074) : Nat) : Int) := fun k s hk => by
    rw [fV_mag (hI ▸ hk)]
    cases s
    · simp only [Bool.false_eq_true, if_false]; rw [Int.natCast_mul]
    · simp only [if_true]; rw [Int.natCast_mul, Int.neg_mul]
  by_cases hn : v < 0
  · rw [decide_eq_true hn, if_pos hn, if_pos hn, e1 _ _ hf, e1 _ _ hf1, if_pos rfl, if_pos rfl]
    clear d1 d2 d3 e1 hf hf1 hb f1 f2 a1 a2 b1 b2 hI h
    generalize magK f * 2 ^ (K - 1074) = lo at *
    generalize magK (f + 1) * 2 ^ (K - 1074) = hi at *
    refine ⟨fun hl => ?_, fun hl => ?_, fun hl => ?_⟩
    · rw [if_pos (by omega)]
    · rw [if_neg (by omega)]
    · rw [pz_par, pat_par]
      split <;> omega
  · rw [decide_eq_false hn, if_neg hn, if_neg hn, e1 _ _ hf, e1 _ _ hf1, if_neg (by decide), if_neg (by decide)]
    clear d1 d2 d3 e1 hf hf1 hb f1 f2 a1 a2 b1 b2 hI h
    generalize magK f * 2 ^ (K - 1074) = lo at *
    generalize magK (f + 1) * 2 ^ (K - 1074) = hi at *
    refine ⟨fun hl => ?_, fun hl => ?_, fun hl => ?_⟩
    · rw [if_neg (by omega)]
    · rw [if_pos (by omega)]
    · rw [pz_par, pat_par]
      split <;> omega
end Go.Proofs
