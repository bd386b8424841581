import Derived.Test.YtoclhdcpjlcdiaaGreatFmtA38
import Derived.Test.YtoclhdcpjlcdiaaGreatFmtA57
/- Here stand lemmas: span: further contracts; rounding keeps the order. -/
set_option linter.unusedVariables false
set_option linter.unusedVariables false
namespace Go.Eng
open Go
theorem ge_ord {x y : Int} : ((some (compareOfLessAndEq x y) == some Ordering.gt) || (some (compareOfLessAndEq x y) == some Ordering.eq)) = decide (y ≤ x) := by
  unfold compareOfLessAndEq
  by_cases h : x < y
  · rw [if_pos h, decide_eq_false (by omega)]; rfl
  · rw [if_neg h]
    by_cases h2 : x = y
    · rw [if_pos h2, decide_eq_true (by omega)]; rfl
    · rw [if_neg h2, decide_eq_true (by omega)]; rfl
theorem order_0 {a : Int} (ha : I64 a) (na : isNaN a = false) : FloatKind.f64.format.order (wd a) 0 = some (compareOfLessAndEq (rk a) 0) := by
  have := order_rk ha (b := 0) (by unfold I64; omega) na (by decide)
  rw [show wd 0 = 0 from rfl, show rk 0 = 0 from rfl] at this
  exact this
end Go.Eng
namespace Go.Proofs
open Go Go.Eng
variable {B : World} {R : Ending → Heap → Prop} {h : Heap}
end Go.Proofs
set_option linter.unusedVariables false
namespace Go.Eng
open Go
theorem cn_nz {a : Int} (ha : I64 a) (hn : isNaN a = false) : cnP a ≠ -9223372036854775808 := by
  obtain ⟨s, k, hk, rfl⟩ := as_pat ha hn
  have hz : isNaN 0 = false ∧ isInf 0 = false ∧ fW 0 = 0 ∧ decide ((0 : Int) < 0) = false := ⟨by decide, by decide, by decide, by decide⟩
  unfold cnP addP plusP
  rw [hn, hz.1, hz.2.1, hz.2.2.1, hz.2.2.2]
  by_cases h : k = 9218868437227405312
  · subst h
    have hi : isInf (pat s 9218868437227405312) = true := by cases s <;> decide +kernel
    rw [hi, pat_neg s (by omega)]
    simp only [Bool.or_self, Bool.and_false, Bool.false_and, Bool.false_eq_true, if_false, if_true]
    cases s <;> decide
  · have hf : isFin (pat s k) = true := pat_fin (by omega)
    have hi : isInf (pat s k) = false := (fin_not hf).2
    have hw : fW (pat s k) = if s then -(magK k : Int) else (magK k : Int) := by unfold fW; rw [if_pos hf, fV_mag (by omega)]
    rw [hi, hw, pat_neg s (by omega), Int.add_zero]
    simp only [Bool.or_self, Bool.and_false, Bool.false_and, Bool.false_eq_true, if_false]
    have hab : (if s then -(magK k : Int) else (magK k : Int)).natAbs = magK k := by cases s <;> simp
    rw [hab, rung_mag hk]
    by_cases h0 : k = 0
    · subst h0
      rw [magK_zero]
      cases s <;> decide
    · unfold pat
      split <;> omega
/-- An interval that was told: ends that are no NaNs, canonical, in order. -/
structure TolS (lo hi : Int) : Prop where
  il : I64 lo
  ih : I64 hi
  nl : isNaN lo = false
  nh : isNaN hi = false
  zl : lo ≠ -9223372036854775808
  zh : hi ≠ -9223372036854775808
  v : vS lo hi = true
theorem TolS.mk' {x y : Int} (ix : I64 x) (iy : I64 y) (nx : isNaN x = false) (ny : isNaN y = false) (h1 : rk x ≤ rk y) (h2 : rk x < 9218868437227405312) (h3 : -9218868437227405312 < rk y) : TolS (cnP x) (cnP y) := by
  obtain ⟨a1, a2, a3⟩ := cn_rk ix nx
  obtain ⟨b1, b2, b3⟩ := cn_rk iy ny
  refine ⟨a3, b3, a2, b2, cn_nz ix nx, cn_nz iy ny, ?_⟩
  unfold vS
  rw [a2, b2, a1, b1, decide_eq_true h1, decide_eq_true h2, decide_eq_true h3]; rfl
end Go.Eng
namespace Go.Proofs
open Go Go.Eng
variable {B : World} {R : Ending → Heap → Prop} {h : Heap}
end Go.Proofs
set_option linter.unusedVariables false
/-! Rounding is monotone. -/
namespace Go.Eng
open Go
/-- The rung below, and the rung above. -/
theorem flo_mono {m n : Nat} (e : Int) (h : m ≤ n) (hm : m ≠ 0) : flo m e ≤ flo n e ∧ flo m e + (odd m e).toNat ≤ flo n e + (odd n e).toNat := by
  have hn : n ≠ 0 := by omega
  have hl := lastP_mono e h hm
  obtain ⟨b1, _⟩ := cut_bd e hm
  obtain ⟨c1, c2⟩ := cut_bd e hn
  have p1 : 0 < 2 ^ cutD m e := Nat.pow_pos (by decide)
  have p2 : 0 < 2 ^ cutD n e := Nat.pow_pos (by decide)
  have odd1 : ∀ k : Nat, (odd k e).toNat ≤ 1 := fun k => by cases odd k e <;> decide
  by_cases heq : lastP m e = lastP n e
  · have hX : cutX m e ≤ cutX n e := by unfold cutX; rw [heq]; exact Nat.mul_le_mul_right _ h
    have hD : cutD m e = cutD n e := by unfold cutD; rw [heq]
    have hq : cutX m e / 2 ^ cutD m e ≤ cutX n e / 2 ^ cutD n e := by rw [hD]; exact Nat.div_le_div_right hX
    refine ⟨by unfold flo; rw [heq]; omega, ?_⟩
    by_cases hqe : cutX m e / 2 ^ cutD m e = cutX n e / 2 ^ cutD n e
    · have ho : (odd m e).toNat ≤ (odd n e).toNat := by
        unfold odd
        by_cases h0 : cutX n e % 2 ^ cutD n e = 0
        · have d1 := Nat.div_add_mod (cutX m e) (2 ^ cutD m e)
          have d2 := Nat.div_add_mod (cutX n e) (2 ^ cutD n e)
          rw [hD] at d1 hqe
          rw [hqe] at d1
          have : cutX m e % 2 ^ cutD m e = 0 := by rw [hD]; omega
          rw [this, h0]; decide
        · rw [decide_eq_true h0]
          cases decide (cutX m e % 2 ^ cutD m e ≠ 0) <;> decide
      unfold flo; rw [heq, hqe]; omega
    · have := odd1 m
      unfold flo; rw [heq]; omega
  · have hn2 : lastP n e ≠ -1074 := by
      have := lastP_ge m e; omega
    have q1 : cutX m e / 2 ^ cutD m e < 9007199254740992 := by
      rw [Nat.div_lt_iff_lt_mul p1, show (9007199254740992 : Nat) = 2 ^ 53 by decide, ← Nat.pow_add]; exact b1
    have q2 : 4503599627370496 ≤ cutX n e / 2 ^ cutD n e := by
      rw [Nat.le_div_iff_mul_le p2, show (4503599627370496 : Nat) = 2 ^ 52 by decide, ← Nat.pow_add]; exact c2 hn2
    have g1 := lastP_ge m e
    have hz : (lastP m e + 1074).toNat + 1 ≤ (lastP n e + 1074).toNat := by omega
    have o1 := odd1 m
    unfold flo
    generalize (lastP m e + 1074).toNat = x at *
    generalize (lastP n e + 1074).toNat = y at *
    generalize cutX m e / 2 ^ cutD m e = q at *
    generalize cutX n e / 2 ^ cutD n e = r at *
    constructor <;> omega
end Go.Eng
set_option linter.unusedVariables false
namespace Go.Eng
open Go
theorem dirP_mono {w m n : Nat} (neg : Bool) (e : Int) (hw : w = 1 ∨ w = 2) (h : m ≤ n) (hm : m ≠ 0) : dirP w neg m e ≤ dirP w neg n e := by
  obtain ⟨h1, h2⟩ := flo_mono e h hm
  have hi : idxW w neg m e ≤ idxW w neg n e := by
    unfold idxW awayW
    rcases hw with rfl | rfl
    · cases neg
      · simpa using h1
      · simpa using h2
    · cases neg
      · simpa using h2
      · simpa using h1
  unfold dirP
  have hI : 0 < INF := by decide
  generalize INF = J at *
  generalize idxW w neg m e = x at *
  generalize idxW w neg n e = y at *
  cases topW w neg
  · simp only [Bool.false_eq_true, if_false]
    split <;> split <;> omega
  · simp only [if_true]
    split <;> split <;> omega
theorem inf_lt63 : INF < 9223372036854775808 := by decide
theorem rk_dirV (w : Nat) (v e : Int) : rk (dirV w v e) = if v = 0 then 0 else if v < 0 then -(dirP w true v.natAbs e : Int) else (dirP w false v.natAbs e : Int) := by
  unfold dirV
  by_cases h0 : v = 0
  · rw [if_pos h0, if_pos h0]; decide
  · rw [if_neg h0, if_neg h0]
    have hb : ∀ b, dirP w b v.natAbs e < 9223372036854775808 := fun b => Nat.lt_of_le_of_lt (dirP_le w b _ e) inf_lt63
    by_cases h1 : v < 0
    · rw [decide_eq_true h1, rk_pat (hb true), if_pos h1, if_pos rfl]
    · rw [decide_eq_false h1, rk_pat (hb false), if_neg h1, if_neg Bool.false_ne_true]
/-- Rounding down, and up, keeps the order. -/
theorem dirV_mono {w : Nat} {v v' : Int} (e : Int) (hw : w = 1 ∨ w = 2) (h : v ≤ v') : rk (dirV w v e) ≤ rk (dirV w v' e) := by
  rw [rk_dirV, rk_dirV]
  by_cases h0 : v = 0
  · rw [if_pos h0]
    by_cases h1 : v' = 0
    · rw [if_pos h1]; omega
    · rw [if_neg h1, if_neg (by omega)]; omega
  · rw [if_neg h0]
    by_cases h1 : v < 0
    · rw [if_pos h1]
      by_cases h2 : v' = 0
      · rw [if_pos h2]; omega
      · rw [if_neg h2]
        by_cases h3 : v' < 0
        · rw [if_pos h3]
          have := dirP_mono true e hw (show v'.natAbs ≤ v.natAbs by omega) (by omega)
          omega
        · rw [if_neg h3]; omega
    · rw [if_neg h1, if_neg (by omega), if_neg (by omega)]
      have := dirP_mono false e hw (show v.natAbs ≤ v'.natAbs by omega) (by omega)
      omega
end Go.Eng
