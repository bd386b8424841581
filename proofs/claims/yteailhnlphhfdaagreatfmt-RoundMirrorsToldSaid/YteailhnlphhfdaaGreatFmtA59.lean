import Derived.Test.YteailhnlphhfdaaGreatFmtA57
import Derived.Test.YteailhnlphhfdaaGreatFmtA40
import Derived.Test.YteailhnlphhfdaaGreatFmtA39
/- Here stand lemmas: rounding in the four ways: neighbours, the nearest, signs, order. -/
set_option linter.unusedVariables false
set_option linter.unusedVariables false
/-! The nearest of the two floats beside a number. -/
namespace Go.Eng
open Go
/-- A number goes to the rung above just where that one is nearer, or as near and even. -/
theorem near_val {m K : Nat} (hK : 1074 ≤ K) (hm : m ≠ 0) : incN m (-(K : Int)) = decide (magK (flo m (-(K : Int)) + 1) * 2 ^ (K - 1074) - m < m - magK (flo m (-(K : Int))) * 2 ^ (K - 1074) ∨
    (magK (flo m (-(K : Int)) + 1) * 2 ^ (K - 1074) - m = m - magK (flo m (-(K : Int))) * 2 ^ (K - 1074) ∧ flo m (-(K : Int)) % 2 = 1)) := by
  obtain ⟨b1, b2⟩ := cut_bd (-(K : Int)) hm
  have hl := lastP_ge m (-(K : Int))
  have hX : cutX m (-(K : Int)) = m := by unfold cutX; rw [show (-(K : Int) - lastP m (-(K : Int))).toNat = 0 by omega, Nat.pow_zero, Nat.mul_one]
  have hD : cutD m (-(K : Int)) = (lastP m (-(K : Int)) + 1074).toNat + (K - 1074) := by unfold cutD; omega
  have p : 0 < 2 ^ cutD m (-(K : Int)) := Nat.pow_pos (by decide)
  have q1 : cutX m (-(K : Int)) / 2 ^ cutD m (-(K : Int)) < 9007199254740992 := by
    rw [Nat.div_lt_iff_lt_mul p, show (9007199254740992 : Nat) = 2 ^ 53 by decide, ← Nat.pow_add]; exact b1
  have q2 : (lastP m (-(K : Int)) + 1074).toNat = 0 ∨ 4503599627370496 ≤ cutX m (-(K : Int)) / 2 ^ cutD m (-(K : Int)) := by
    by_cases h : lastP m (-(K : Int)) = -1074
    · left; omega
    · right
      rw [Nat.le_div_iff_mul_le p, show (4503599627370496 : Nat) = 2 ^ 52 by decide, ← Nat.pow_add]; exact b2 h
  have e1 : magK (flo m (-(K : Int))) = cutX m (-(K : Int)) / 2 ^ cutD m (-(K : Int)) * 2 ^ (lastP m (-(K : Int)) + 1074).toNat := magK_form (by omega) q2
  have e2 : magK (flo m (-(K : Int)) + 1) = (cutX m (-(K : Int)) / 2 ^ cutD m (-(K : Int)) + 1) * 2 ^ (lastP m (-(K : Int)) + 1074).toNat := by
    unfold flo; rw [Nat.add_assoc]; exact magK_form (by omega) (by omega)
  have ef : flo m (-(K : Int)) % 2 = cutX m (-(K : Int)) / 2 ^ cutD m (-(K : Int)) % 2 := by unfold flo; omega
  rw [e1, e2, Nat.mul_assoc, Nat.mul_assoc, ← Nat.pow_add, ← hD, ef]
  unfold incN
  rw [hX] at *
  have d1 := Nat.div_add_mod m (2 ^ cutD m (-(K : Int)))
  have d2 := Nat.mod_lt m p
  clear b1 b2 hD q1 q2 e1 e2 ef
  generalize 2 ^ cutD m (-(K : Int)) = D at *
  rw [Nat.add_mul, Nat.one_mul, decide_eq_decide]
  rw [Nat.mul_comm] at d1
  generalize m / D * D = u at *
  generalize m % D = r at *
  generalize m / D = q at *
  omega
/-- The nearest is one of both beside the number. -/
theorem rung_side (m : Nat) (e : Int) : rung m e = min (flo m e + (incN m e).toNat) INF := rung_idx m e false
end Go.Eng
set_option linter.unusedVariables false
/-! Rounding in four ways: neighbours around the number, the nearest, signs, order. -/
namespace Go.Proofs
open Go Go.Eng
theorem pz_wf {a : Int} (ia : I64 a) (na : isNaN a = false) : I64 (pz a) ∧ isNaN (pz a) = false ∧ isFin (pz a) = isFin a ∧ fV (pz a) = fV a := by
  unfold pz
  split
  · rename_i h
    subst h
    exact ⟨by unfold I64; omega, by decide, by decide, by decide⟩
  · exact ⟨ia, na, rfl, rfl⟩
/-- What round.To tells. -/
def toR (w : Nat) (v : Int) (K : Nat) : Int := pz (dirV w v (-(K : Int)))
theorem toR_wf (w : Nat) (v : Int) (K : Nat) : I64 (toR w v K) ∧ isNaN (toR w v K) = false ∧ rk (toR w v K) = rk (dirV w v (-(K : Int))) ∧ isFin (toR w v K) = isFin (dirV w v (-(K : Int))) ∧ fV (toR w v K) = fV (dirV w v (-(K : Int))) := by
  obtain ⟨a, b, c, d⟩ := pz_wf (dirV_I64 w v (-(K : Int))) (dirV_nan w v (-(K : Int)))
  exact ⟨a, b, rk_pz _, c, d⟩
theorem dirP_3 (m : Nat) (e : Int) (neg : Bool) : dirP 3 neg m e = min (flo m e) (INF - 1) := by
  have hI : 0 < INF := by decide
  unfold dirP idxW awayW topW
  generalize INF = J at *
  simp only [Bool.toNat_false, Nat.add_zero, Bool.false_eq_true, if_false]
  split <;> omega
theorem dirP_0 (m : Nat) (e : Int) (neg : Bool) : dirP 0 neg m e = min (flo m e + (incN m e).toNat) INF := by
  rw [← rung_dir, rung_side]
/-- The other way, with the other sign. -/
def bkW : Nat → Nat
  | 0 => 0
  | 1 => 2
  | 2 => 1
  | w => w
theorem inxV_neg (v e : Int) : inxV (-v) e = inxV v e := by
  unfold inxV
  by_cases h : v = 0
  · subst h; rfl
  · rw [if_neg h, if_neg (by omega), Int.natAbs_neg]
theorem dirP_neg {w : Nat} (hw : w < 4) (ng : Bool) (m : Nat) (e : Int) : dirP (bkW w) (!ng) m e = dirP w ng m e := by
  have : w = 0 ∨ w = 1 ∨ w = 2 ∨ w = 3 := by omega
  rcases this with rfl | rfl | rfl | rfl
  · rfl
  · show dirP 2 (!ng) m e = dirP 1 ng m e
    unfold dirP idxW awayW topW
    cases ng <;> rfl
  · show dirP 1 (!ng) m e = dirP 2 ng m e
    rfl
  · rfl
theorem dirV_neg {w : Nat} (hw : w < 4) (v e : Int) : rk (dirV (bkW w) (-v) e) = -rk (dirV w v e) := by
  rw [rk_dirV, rk_dirV]
  by_cases h : v = 0
  · subst h; rfl
  · rw [if_neg h, if_neg (by omega), Int.natAbs_neg]
    have h1 := dirP_neg hw true v.natAbs e
    have h2 := dirP_neg hw false v.natAbs e
    rw [Bool.not_true] at h1
    rw [Bool.not_false] at h2
    by_cases hn : v < 0
    · rw [if_pos hn, if_neg (by omega), h1]; omega
    · rw [if_neg hn, if_pos (by omega), h2]
/-- The nearest float keeps the order. -/
theorem near_mono {m n K : Nat} (hK : 1074 ≤ K) (h : m ≤ n) (hm : m ≠ 0) (ng : Bool) : dirP 0 ng m (-(K : Int)) ≤ dirP 0 ng n (-(K : Int)) := by
  rw [dirP_0, dirP_0]
  have h1 := (flo_mono (-(K : Int)) h hm).1
  have t1 : ∀ b : Bool, b.toNat ≤ 1 := fun b => by cases b <;> decide
  rcases Nat.lt_or_ge (flo m (-(K : Int))) (flo n (-(K : Int))) with hl | hg
  · have := t1 (incN m (-(K : Int)))
    omega
  · have he : flo m (-(K : Int)) = flo n (-(K : Int)) := by omega
    have hi : (incN m (-(K : Int))).toNat ≤ (incN n (-(K : Int))).toNat := by
      have a := near_val hK hm
      have b := near_val hK (m := n) (by omega)
      obtain ⟨c1, c2, _⟩ := flo_val hK hm
      obtain ⟨d1, d2, _⟩ := flo_val hK (m := n) (by omega)
      rw [he] at a c1 c2
      rw [a, b]
      generalize magK (flo n (-(K : Int)) + 1) * 2 ^ (K - 1074) = hi at *
      generalize magK (flo n (-(K : Int))) * 2 ^ (K - 1074) = lo at *
      generalize flo n (-(K : Int)) % 2 = par at *
      by_cases hc : hi - m < m - lo ∨ (hi - m = m - lo ∧ par = 1)
      · rw [decide_eq_true hc, decide_eq_true (show hi - n < n - lo ∨ (hi - n = n - lo ∧ par = 1) by omega)]
        exact Nat.le_refl _
      · rw [decide_eq_false hc]; exact Nat.zero_le _
    omega
theorem dirP_mono4 {w m n K : Nat} (hw : w < 4) (hK : 1074 ≤ K) (h : m ≤ n) (hm : m ≠ 0) (ng : Bool) : dirP w ng m (-(K : Int)) ≤ dirP w ng n (-(K : Int)) := by
  have : w = 0 ∨ w = 1 ∨ w = 2 ∨ w = 3 := by omega
  rcases this with rfl | rfl | rfl | rfl
  · exact near_mono hK h hm ng
  · exact dirP_mono ng _ (.inl rfl) h hm
  · exact dirP_mono ng _ (.inr rfl) h hm
  · rw [dirP_3, dirP_3]
    have := (flo_mono (-(K : Int)) h hm).1
    omega
/-- Rounding keeps the order, in every way. -/
theorem toR_mono {w K : Nat} {v v' : Int} (hw : w < 4) (hK : 1074 ≤ K) (h : v ≤ v') : rk (toR w v K) ≤ rk (toR w v' K) := by
  rw [(toR_wf w v K).2.2.1, (toR_wf w v' K).2.2.1, rk_dirV, rk_dirV]
  by_cases h0 : v = 0
  · rw [if_pos h0]
    by_cases h1 : v' = 0
    · rw [if_pos h1]; omega
    · rw [if_neg h1, if_neg (by omega)]; omega
  · rw [if_neg h0]
    by_cases h1 : v < 0
    · rw [if_pos h1]
      by_cases h2 : v' = 0
      · rw [if_pos h2]; omega
      · rw [if_neg h2]
        by_cases h3 : v' < 0
        · rw [if_pos h3]
          have := dirP_mono4 hw hK (show v'.natAbs ≤ v.natAbs by omega) (by omega) true
          omega
        · rw [if_neg h3]; omega
    · rw [if_neg h1, if_neg (by omega), if_neg (by omega)]
      have := dirP_mono4 hw hK (show v.natAbs ≤ v'.natAbs by omega) (by omega) false
      omega
theorem toR_neg {w K : Nat} {v : Int} (hw : w < 4) : rk (negP (toR w v K)) = rk (toR (bkW w) (-v) K) := by
  obtain ⟨a, b, c, _⟩ := toR_wf w v K
  rw [(rk_neg a b).1, c, (toR_wf (bkW w) (-v) K).2.2.1, dirV_neg hw]
end Go.Proofs
