import Derived.Test.YtoclhdcpjlcdiaaGreatFmtA32
import Derived.Test.YtoclhdcpjlcdiaaGreatFmtA03
/- Here stand lemmas: the order of floats, and the validity of intervals. -/
set_option linter.unusedVariables false
set_option linter.unusedVariables false
/-! The order of floats is that of their ranks. -/
namespace Go.Eng
open Go
/-- A rank's magnitude, in units of 2^-1074. -/
def magK (k : Nat) : Nat := if k / 4503599627370496 = 0 then k % 4503599627370496 else (4503599627370496 + k % 4503599627370496) * 2 ^ (k / 4503599627370496 - 1)
theorem magK_step (k : Nat) : magK k < magK (k + 1) := by
  unfold magK
  by_cases h : k % 4503599627370496 + 1 < 4503599627370496
  · rw [show (k + 1) / 4503599627370496 = k / 4503599627370496 by omega, show (k + 1) % 4503599627370496 = k % 4503599627370496 + 1 by omega]
    split
    · omega
    · exact Nat.mul_lt_mul_of_pos_right (by omega) (Nat.pow_pos (by decide))
  · have e1 : (k + 1) / 4503599627370496 = k / 4503599627370496 + 1 := by omega
    have e2 : (k + 1) % 4503599627370496 = 0 := by omega
    have e3 : k % 4503599627370496 = 4503599627370495 := by omega
    rw [e1, e2, e3, if_neg (show ¬ k / 4503599627370496 + 1 = 0 by omega)]
    by_cases h0 : k / 4503599627370496 = 0
    · rw [if_pos h0, h0]; decide
    · rw [if_neg h0]
      obtain ⟨E, hE⟩ : ∃ E, k / 4503599627370496 = E + 1 := ⟨k / 4503599627370496 - 1, by omega⟩
      rw [hE, show E + 1 - 1 = E by omega, show E + 1 + 1 - 1 = E + 1 by omega, Nat.pow_succ]
      have : 0 < 2 ^ E := Nat.pow_pos (by decide)
      generalize 2 ^ E = p at *
      omega
theorem magK_lt {k j : Nat} (h : k < j) : magK k < magK j := by
  obtain ⟨d, rfl⟩ : ∃ d, j = k + 1 + d := ⟨j - (k + 1), by omega⟩
  clear h
  induction d with
  | zero => exact magK_step k
  | succ d ih => exact Nat.lt_trans ih (magK_step (k + 1 + d))
theorem magK_zero : magK 0 = 0 := rfl
theorem fV_mag {ng : Bool} {k : Nat} (hk : k < 9218868437227405312) : fV (pat ng k) = if ng then -(magK k : Int) else (magK k : Int) := by
  unfold fV
  rw [pat_neg ng (by omega)]
  have e : fM (pat ng k) * 2 ^ (fX (pat ng k) + 1074).toNat = magK k := by
    unfold fM fX magK
    rw [pat_fE ng (by omega), pat_fT ng (by omega)]
    by_cases h : k / 4503599627370496 = 0
    · rw [if_pos h, if_pos h, if_pos h]
      show _ * 2 ^ 0 = _
      rw [Nat.pow_zero, Nat.mul_one]
    · rw [if_neg h, if_neg h, if_neg h, show ((k / 4503599627370496 : Nat) : Int) - 1075 + 1074 = ((k / 4503599627370496 - 1 : Nat) : Int) by omega, Int.toNat_natCast]
  unfold Ieee.signed
  rw [Nat.shiftLeft_eq, e]
/-- A pattern's rank. -/
def rk (a : Int) : Int := if a < 0 then -(a + 9223372036854775808) else a
theorem rk_pat {ng : Bool} {k : Nat} (hk : k < 9223372036854775808) : rk (pat ng k) = if ng then -(k : Int) else (k : Int) := by
  unfold rk pat
  cases ng
  · simp only [Bool.false_eq_true, if_false]; rw [if_neg (by omega)]
  · simp only [if_true]; rw [if_pos (by omega)]; omega
/-- What is no NaN is a sign and a rank. -/
theorem as_pat {a : Int} (ha : I64 a) (hn : isNaN a = false) : ∃ ng k, k ≤ 9218868437227405312 ∧ a = pat ng k := by
  unfold I64 at ha
  unfold isNaN fE fT at hn
  refine ⟨decide (a < 0), (if a < 0 then a + 9223372036854775808 else a).toNat, ?_, ?_⟩
  · rw [Bool.and_eq_false_iff, decide_eq_false_iff_not, Bool.not_eq_false', decide_eq_true_eq] at hn
    split <;> omega
  · unfold pat
    by_cases h : a < 0
    · simp only [decide_eq_true h, if_true, if_pos h]; omega
    · simp only [decide_eq_false h, Bool.false_eq_true, if_false, if_neg h]; omega
theorem cmp_iff {a b c d : Int} (h1 : a < b ↔ c < d) (h2 : a = b ↔ c = d) : compareOfLessAndEq a b = compareOfLessAndEq c d := by
  unfold compareOfLessAndEq
  by_cases x : a < b
  · rw [if_pos x, if_pos (h1.1 x)]
  · rw [if_neg x, if_neg fun y => x (h1.2 y)]
    by_cases z : a = b
    · rw [if_pos z, if_pos (h2.1 z)]
    · rw [if_neg z, if_neg fun y => z (h2.2 y)]
theorem mag_sgn {ng mg : Bool} {k j : Nat} : ((if ng then -(magK k : Int) else (magK k : Int)) < (if mg then -(magK j : Int) else (magK j : Int)) ↔ (if ng then -(k : Int) else (k : Int)) < (if mg then -(j : Int) else (j : Int))) ∧
    ((if ng then -(magK k : Int) else (magK k : Int)) = (if mg then -(magK j : Int) else (magK j : Int)) ↔ (if ng then -(k : Int) else (k : Int)) = (if mg then -(j : Int) else (j : Int))) := by
  have h1 := @magK_lt k j
  have h2 := @magK_lt j k
  have h3 := @magK_lt 0 k
  have h4 := @magK_lt 0 j
  have h5 : k = j → magK k = magK j := fun e => by rw [e]
  rw [magK_zero] at h3 h4
  have h6 : k = 0 → magK k = 0 := fun e => by rw [e, magK_zero]
  have h7 : j = 0 → magK j = 0 := fun e => by rw [e, magK_zero]
  generalize magK k = x at *
  generalize magK j = y at *
  cases ng <;> cases mg <;> simp only [Bool.false_eq_true, if_false, if_true] <;> omega
theorem fV_rk {a b : Int} (ha : I64 a) (hb : I64 b) (fa : isFin a = true) (fb : isFin b = true) : (fV a < fV b ↔ rk a < rk b) ∧ (fV a = fV b ↔ rk a = rk b) := by
  have na : isNaN a = false := (fin_not fa).1
  have nb : isNaN b = false := (fin_not fb).1
  obtain ⟨s, k, hk, rfl⟩ := as_pat ha na
  obtain ⟨t, j, hj, rfl⟩ := as_pat hb nb
  have lk : k < 9218868437227405312 := by
    unfold isFin at fa
    rw [pat_fE s (by omega), decide_eq_true_eq] at fa
    omega
  have lj : j < 9218868437227405312 := by
    unfold isFin at fb
    rw [pat_fE t (by omega), decide_eq_true_eq] at fb
    omega
  rw [fV_mag lk, fV_mag lj, rk_pat (by omega), rk_pat (by omega)]
  exact mag_sgn
theorem order_rk {a b : Int} (ha : I64 a) (hb : I64 b) (na : isNaN a = false) (nb : isNaN b = false) : FloatKind.f64.format.order (wd a) (wd b) = some (compareOfLessAndEq (rk a) (rk b)) := by
  have e0 : ∀ x y, FloatKind.f64.format.order x y = (Ieee.double.read x).order (Ieee.double.read y) := fun _ _ => rfl
  obtain ⟨s, k, hk, ea⟩ := as_pat ha na
  obtain ⟨t, j, hj, eb⟩ := as_pat hb nb
  by_cases h1 : k = 9218868437227405312
  · subst h1
    rw [ea, eb, rk_pat (by omega), rk_pat (by omega), wd_pat (by omega), wd_pat (by omega), e0, rd_inf]
    by_cases h2 : j = 9218868437227405312
    · subst h2
      rw [rd_inf]
      cases s <;> cases t <;> decide
    · rw [rd_num (by omega)]
      show some (if s then Ordering.lt else .gt) = _
      unfold compareOfLessAndEq
      cases s <;> cases t <;> simp only [Bool.false_eq_true, if_false, if_true]
      · rw [if_neg (by omega), if_neg (by omega)]
      · rw [if_neg (by omega), if_neg (by omega)]
      · rw [if_pos (by omega)]
      · rw [if_pos (by omega)]
  · by_cases h2 : j = 9218868437227405312
    · subst h2
      rw [ea, eb, rk_pat (by omega), rk_pat (by omega), wd_pat (by omega), wd_pat (by omega), e0, rd_inf, rd_num (by omega)]
      show some (if t then Ordering.gt else .lt) = _
      unfold compareOfLessAndEq
      cases s <;> cases t <;> simp only [Bool.false_eq_true, if_false, if_true]
      · rw [if_pos (by omega)]
      · rw [if_neg (by omega), if_neg (by omega)]
      · rw [if_pos (by omega)]
      · rw [if_neg (by omega), if_neg (by omega)]
    · have fa : isFin a = true := by rw [ea]; exact pat_fin (by omega)
      have fb : isFin b = true := by rw [eb]; exact pat_fin (by omega)
      rw [Go.Proofs.order_full ha hb fa fb]
      obtain ⟨h3, h4⟩ := fV_rk ha hb fa fb
      rw [cmp_iff h3 h4]
end Go.Eng
set_option linter.unusedVariables false
namespace Go.Eng
open Go
theorem rn_exa (m d : Nat) : rn (m * 2 ^ d) d = m := by
  have := rn_scale m 0 d
  rw [Nat.zero_add, rn_zero] at this
  exact this
/-- A float's own rung. -/
theorem rung_mag {k : Nat} (hk : k ≤ 9218868437227405312) : rung (magK k) (-1074) = k := by
  by_cases h0 : k / 4503599627370496 = 0
  · have hm : magK k = k := by unfold magK; rw [if_pos h0]; omega
    rw [hm]
    by_cases hz : k = 0
    · subst hz; exact rung_zero
    have hl : k.log2 ≤ 51 := by
      have := (Nat.log2_lt (k := 52) hz).2 (by have e : (2 : Nat) ^ 52 = 4503599627370496 := by decide
                                               rw [e]; omega)
      omega
    have hL : lastP k (-1074) = -1074 := by unfold lastP; omega
    unfold rung kpt
    rw [hL]
    show min (0 * 4503599627370496 + rn (k * 2 ^ 0) 0) 9218868437227405312 = k
    rw [Nat.pow_zero, Nat.mul_one, rn_zero]
    omega
  · have hm : magK k = (4503599627370496 + k % 4503599627370496) * 2 ^ (k / 4503599627370496 - 1) := by unfold magK; rw [if_neg h0]
    have hl : (magK k).log2 = 52 + (k / 4503599627370496 - 1) := by
      rw [hm, log2_scale _ (by omega)]
      congr 1
      have e : (2 : Nat) ^ 52 = 4503599627370496 := by decide
      have e3 : (2 : Nat) ^ 53 = 9007199254740992 := by decide
      exact (Nat.log2_eq_iff (by omega)).2 ⟨by rw [e]; omega, by rw [e3]; omega⟩
    have hL : lastP (magK k) (-1074) = -1074 + ((k / 4503599627370496 - 1 : Nat) : Int) := by unfold lastP; rw [hl]; omega
    unfold rung kpt
    rw [hL, show (-1074 + ((k / 4503599627370496 - 1 : Nat) : Int) + 1074).toNat = k / 4503599627370496 - 1 by omega, show (-1074 - (-1074 + ((k / 4503599627370496 - 1 : Nat) : Int))).toNat = 0 by omega, show (-1074 + ((k / 4503599627370496 - 1 : Nat) : Int) - -1074).toNat = k / 4503599627370496 - 1 by omega, Nat.pow_zero, Nat.mul_one, hm, rn_exa]
    omega
/-- bits.Canon: the pattern of what is no NaN. -/
def cnP (a : Int) : Int := addP a 0
theorem cn_rk {a : Int} (ha : I64 a) (hn : isNaN a = false) : rk (cnP a) = rk a ∧ isNaN (cnP a) = false ∧ I64 (cnP a) := by
  obtain ⟨s, k, hk, rfl⟩ := as_pat ha hn
  have hz : isNaN 0 = false ∧ isInf 0 = false ∧ fW 0 = 0 ∧ decide ((0 : Int) < 0) = false := ⟨by decide, by decide, by decide, by decide⟩
  unfold cnP addP plusP
  rw [hn, hz.1, hz.2.1, hz.2.2.1, hz.2.2.2]
  by_cases h : k = 9218868437227405312
  · subst h
    have hi : isInf (pat s 9218868437227405312) = true := by cases s <;> decide +kernel
    rw [hi, pat_neg s (by omega)]
    simp only [Bool.or_self, Bool.and_false, Bool.false_and, Bool.false_eq_true, if_false, if_true]
    exact ⟨trivial, hn, ha⟩
  · have hf : isFin (pat s k) = true := pat_fin (by omega)
    have hi : isInf (pat s k) = false := (fin_not hf).2
    have hw : fW (pat s k) = if s then -(magK k : Int) else (magK k : Int) := by unfold fW; rw [if_pos hf, fV_mag (by omega)]
    rw [hi, hw, pat_neg s (by omega), Int.add_zero]
    simp only [Bool.or_self, Bool.and_false, Bool.false_and, Bool.false_eq_true, if_false]
    have hab : (if s then -(magK k : Int) else (magK k : Int)).natAbs = magK k := by cases s <;> simp
    rw [hab, rung_mag hk]
    by_cases h0 : magK k = 0
    · have hk0 : k = 0 := by
        rcases Nat.eq_zero_or_pos k with h1 | h1
        · exact h1
        · have := magK_lt h1; rw [magK_zero] at this; omega
      subst hk0
      refine ⟨?_, pat_nan (by omega), pat_I64 (by omega)⟩
      rw [rk_pat (by omega), rk_pat (by omega)]
      cases s <;> (split <;> rfl)
    · have e : (if (if s then -(magK k : Int) else (magK k : Int)) = 0 then false else decide ((if s then -(magK k : Int) else (magK k : Int)) < 0)) = s := by
        cases s
        · simp only [Bool.false_eq_true, if_false]; rw [if_neg (by omega), decide_eq_false (by omega)]
        · simp only [if_true]; rw [if_neg (by omega), decide_eq_true (by omega)]
      rw [e]
      exact ⟨rfl, hn, ha⟩
/-- span.Valid. -/
def vS (a b : Int) : Bool := !isNaN a && !isNaN b && decide (rk a ≤ rk b) && decide (rk a < 9218868437227405312) && decide (-9218868437227405312 < rk b)
theorem le_ord {x y : Int} : ((some (compareOfLessAndEq x y) == some Ordering.lt) || (some (compareOfLessAndEq x y) == some Ordering.eq)) = decide (x ≤ y) := by
  unfold compareOfLessAndEq
  by_cases h : x < y
  · rw [if_pos h, decide_eq_true (by omega)]; rfl
  · rw [if_neg h]
    by_cases h2 : x = y
    · rw [if_pos h2, decide_eq_true (by omega)]; rfl
    · rw [if_neg h2, decide_eq_false (by omega)]; rfl
theorem lt_ord {x y : Int} : (some (compareOfLessAndEq x y) == some Ordering.lt) = decide (x < y) := by
  unfold compareOfLessAndEq
  by_cases h : x < y
  · rw [if_pos h, decide_eq_true h]; rfl
  · rw [if_neg h, decide_eq_false h]
    split <;> rfl
end Go.Eng
namespace Go.Proofs
open Go Go.Eng
variable {B : World} {R : Ending → Heap → Prop} {h : Heap}
end Go.Proofs
