import Derived.Test.YtjiinenefbjfcaaGreatFmtA33
import Derived.Test.YtjiinenefbjfcaaGreatFmtA56
import Derived.Test.YtjiinenefbjfcaaGreatFmtA32
import Derived.Test.YtjiinenefbjfcaaGreatFmtA25
import Derived.Test.YtjiinenefbjfcaaGreatFmtA55
import Derived.Test.YtjiinenefbjfcaaGreatFmtA46
import Derived.Test.YtjiinenefbjfcaaGreatFmtA54
/- Here stand lemmas: the nearest float of a sum, of a product; the walk of EftPremise. -/
set_option linter.unusedVariables false
set_option linter.unusedVariables false
/-! The rung below, as a value. -/
namespace Go.Eng
open Go
theorem cut_bd {m : Nat} (e : Int) (hm : m ≠ 0) : cutX m e < 2 ^ (53 + cutD m e) ∧ (lastP m e ≠ -1074 → 2 ^ (52 + cutD m e) ≤ cutX m e) := by
  have h := (Nat.log2_eq_iff hm).1 rfl
  unfold cutX cutD
  have hL : lastP m e = max (e + m.log2 - 52) (-1074) := rfl
  generalize lastP m e = L at *
  by_cases hc : L ≤ e
  · rw [show (L - e).toNat = 0 by omega]
    obtain ⟨j, hj⟩ : ∃ j : Nat, (e - L).toNat = j ∧ m.log2 + j ≤ 52 := ⟨_, rfl, by omega⟩
    rw [hj.1]
    refine ⟨?_, fun hne => ?_⟩
    · have a1 : m * 2 ^ j < 2 ^ (m.log2 + 1) * 2 ^ j := Nat.mul_lt_mul_of_pos_right h.2 (Nat.pow_pos (by decide))
      rw [← Nat.pow_add] at a1
      exact Nat.lt_of_lt_of_le a1 (Nat.pow_le_pow_right (by decide) (by omega))
    · have a2 : 2 ^ m.log2 * 2 ^ j ≤ m * 2 ^ j := Nat.mul_le_mul_right _ h.1
      rw [← Nat.pow_add, show m.log2 + j = 52 + 0 by omega] at a2
      exact a2
  · rw [show (e - L).toNat = 0 by omega, Nat.pow_zero, Nat.mul_one]
    refine ⟨Nat.lt_of_lt_of_le h.2 (Nat.pow_le_pow_right (by decide) (by omega)), fun hne => ?_⟩
    exact Nat.le_trans (Nat.pow_le_pow_right (by decide) (by omega)) h.1
theorem magK_form {L q : Nat} (h1 : q ≤ 9007199254740992) (h2 : L = 0 ∨ 4503599627370496 ≤ q) : magK (L * 4503599627370496 + q) = q * 2 ^ L := by
  unfold magK
  by_cases hq : q < 4503599627370496
  · have hL : L = 0 := by omega
    subst hL
    rw [show (0 * 4503599627370496 + q) / 4503599627370496 = 0 by omega, if_pos rfl, Nat.pow_zero]
    omega
  · by_cases hq2 : q = 9007199254740992
    · subst hq2
      rw [show (L * 4503599627370496 + 9007199254740992) / 4503599627370496 = L + 2 by omega, show (L * 4503599627370496 + 9007199254740992) % 4503599627370496 = 0 by omega, if_neg (by omega), show L + 2 - 1 = L + 1 by omega, Nat.pow_succ]
      generalize 2 ^ L = p
      omega
    · rw [show (L * 4503599627370496 + q) / 4503599627370496 = L + 1 by omega, show (L * 4503599627370496 + q) % 4503599627370496 = q - 4503599627370496 by omega, if_neg (by omega), show L + 1 - 1 = L by omega, show 4503599627370496 + (q - 4503599627370496) = q by omega]
theorem flo_val {m K : Nat} (hK : 1074 ≤ K) (hm : m ≠ 0) : magK (flo m (-(K : Int))) * 2 ^ (K - 1074) ≤ m ∧ m < magK (flo m (-(K : Int)) + 1) * 2 ^ (K - 1074) ∧ odd m (-(K : Int)) = decide (magK (flo m (-(K : Int))) * 2 ^ (K - 1074) ≠ m) := by
  obtain ⟨b1, b2⟩ := cut_bd (-(K : Int)) hm
  have hl := lastP_ge m (-(K : Int))
  have hX : cutX m (-(K : Int)) = m := by unfold cutX; rw [show (-(K : Int) - lastP m (-(K : Int))).toNat = 0 by omega, Nat.pow_zero, Nat.mul_one]
  have hD : cutD m (-(K : Int)) = (lastP m (-(K : Int)) + 1074).toNat + (K - 1074) := by unfold cutD; omega
  have p : 0 < 2 ^ cutD m (-(K : Int)) := Nat.pow_pos (by decide)
  have q1 : cutX m (-(K : Int)) / 2 ^ cutD m (-(K : Int)) < 9007199254740992 := by
    rw [Nat.div_lt_iff_lt_mul p, show (9007199254740992 : Nat) = 2 ^ 53 by decide, ← Nat.pow_add]; exact b1
  have q2 : (lastP m (-(K : Int)) + 1074).toNat = 0 ∨ 4503599627370496 ≤ cutX m (-(K : Int)) / 2 ^ cutD m (-(K : Int)) := by
    by_cases h : lastP m (-(K : Int)) = -1074
    · left; omega
    · right
      rw [Nat.le_div_iff_mul_le p, show (4503599627370496 : Nat) = 2 ^ 52 by decide, ← Nat.pow_add]; exact b2 h
  have e1 : magK (flo m (-(K : Int))) = cutX m (-(K : Int)) / 2 ^ cutD m (-(K : Int)) * 2 ^ (lastP m (-(K : Int)) + 1074).toNat := magK_form (by omega) q2
  have e2 : magK (flo m (-(K : Int)) + 1) = (cutX m (-(K : Int)) / 2 ^ cutD m (-(K : Int)) + 1) * 2 ^ (lastP m (-(K : Int)) + 1074).toNat := by
    unfold flo; rw [Nat.add_assoc]; exact magK_form (by omega) (by omega)
  rw [e1, e2, Nat.mul_assoc, Nat.mul_assoc, ← Nat.pow_add, ← hD]
  unfold odd
  rw [hX]
  generalize 2 ^ cutD m (-(K : Int)) = d at *
  have dm := Nat.div_add_mod m d
  have ml := Nat.mod_lt m p
  rw [Nat.add_mul, Nat.one_mul, Nat.mul_comm (m / d) d]
  refine ⟨by omega, by omega, ?_⟩
  rw [decide_eq_decide]; omega
end Go.Eng
set_option linter.unusedVariables false
namespace Go.Eng
open Go
theorem rk_pz (x : Int) : rk (Go.Proofs.pz x) = rk x := by
  unfold Go.Proofs.pz
  split
  · rename_i h; subst h; decide
  · rfl
theorem rung63 (m : Nat) (e : Int) : rung m e < 9223372036854775808 := by have := rung_lt m e; omega
theorem rk_dir0 (v e : Int) : rk (dirV 0 v e) = if v = 0 then 0 else if v < 0 then -(rung v.natAbs e : Int) else (rung v.natAbs e : Int) := by
  unfold dirV
  by_cases h : v = 0
  · rw [if_pos h, if_pos h]; rfl
  · rw [if_neg h, if_neg h, ← rung_dir, rk_pat (rung63 _ _)]
    by_cases hn : v < 0
    · rw [decide_eq_true hn, if_pos rfl, if_pos hn]
    · rw [decide_eq_false hn, if_neg (by decide), if_neg hn]
theorem dir0_wf (v e : Int) : I64 (Go.Proofs.pz (dirV 0 v e)) ∧ isNaN (Go.Proofs.pz (dirV 0 v e)) = false := by
  have h0 : I64 0 ∧ isNaN 0 = false := ⟨by unfold I64; omega, by decide⟩
  unfold Go.Proofs.pz
  split
  · exact h0
  · unfold dirV
    split
    · exact h0
    · rw [← rung_dir]
      exact ⟨pat_I64 (rung63 _ _), pat_nan (rung_lt _ _)⟩
theorem near_add {a b : Int} (fa : isFin a = true) (fb : isFin b = true) : rk (addP a b) = rk (Go.Proofs.pz (dirV 0 (fV a + fV b) (-1074))) := by
  obtain ⟨a1, a2⟩ := fin_not fa
  obtain ⟨b1, b2⟩ := fin_not fb
  have e : addP a b = pat (if fV a + fV b = 0 then decide (a < 0) && decide (b < 0) else decide (fV a + fV b < 0)) (rung (fV a + fV b).natAbs (-1074)) := by
    unfold addP plusP fW
    rw [a1, a2, b1, b2, fa, fb]; rfl
  rw [e, rk_pat (rung63 _ _), rk_pz, rk_dir0]
  by_cases h : fV a + fV b = 0
  · rw [if_pos h, if_pos h, h, show (0 : Int).natAbs = 0 from rfl, rung_zero]
    cases (decide (a < 0) && decide (b < 0)) <;> rfl
  · rw [if_neg h, if_neg h]
    by_cases hn : fV a + fV b < 0
    · rw [decide_eq_true hn, if_pos rfl, if_pos hn]
    · rw [decide_eq_false hn, if_neg (by decide), if_neg hn]
theorem mul_pat {a b : Int} (fa : isFin a = true) (fb : isFin b = true) : mulP a b = pat (decide (a < 0) ^^ decide (b < 0)) (rung (fV a * fV b).natAbs (-2148)) := by
  obtain ⟨a1, a2⟩ := fin_not fa
  obtain ⟨b1, b2⟩ := fin_not fb
  unfold mulP timesP zr fW
  rw [a1, a2, b1, b2, fa, fb]; rfl
theorem near_mul {a b : Int} (fa : isFin a = true) (fb : isFin b = true) : rk (mulP a b) = rk (Go.Proofs.pz (dirV 0 (fV a * fV b) (-2148))) := by
  rw [mul_pat fa fb, rk_pat (rung63 _ _), rk_pz, rk_dir0]
  by_cases h : fV a * fV b = 0
  · rw [if_pos h, h, show (0 : Int).natAbs = 0 from rfl, rung_zero2]
    cases (decide (a < 0) ^^ decide (b < 0)) <;> rfl
  · rw [if_neg h]
    have ha0 : fV a ≠ 0 := fun e => h (by rw [e, Int.zero_mul])
    have hb0 : fV b ≠ 0 := fun e => h (by rw [e, Int.mul_zero])
    have sa : decide (fV a < 0) = decide (a < 0) := Go.Proofs.signed_neg fun k => ha0 (fV_zero.2 k)
    have sb : decide (fV b < 0) = decide (b < 0) := Go.Proofs.signed_neg fun k => hb0 (fV_zero.2 k)
    rw [← sa, ← sb]
    by_cases ca : fV a < 0 <;> by_cases cb : fV b < 0
    · have h1 : 0 < fV a * fV b := Int.mul_pos_of_neg_of_neg ca cb
      rw [if_neg (show ¬ fV a * fV b < 0 by omega)]; simp [ca, cb]
    · have h1 : fV a * fV b < 0 := Int.mul_neg_of_neg_of_pos ca (by omega)
      rw [if_pos h1]; simp [ca, cb]
    · have h1 : fV a * fV b < 0 := Int.mul_neg_of_pos_of_neg (by omega) cb
      rw [if_pos h1]; simp [ca, cb]
    · have h1 : 0 < fV a * fV b := Int.mul_pos (by omega) (by omega)
      rw [if_neg (show ¬ fV a * fV b < 0 by omega)]; simp [ca, cb]
theorem rung_flo (m : Nat) (e : Int) : rung m e ≤ flo m e + 1 ∧ (rung m e < 9218868437227405312 → flo m e ≤ rung m e) := by
  have h := rung_idx m e false
  unfold idxW at h
  have h1 : (awayW 0 false m e).toNat ≤ 1 := by cases awayW 0 false m e <;> decide
  have h2 : INF = 9218868437227405312 := rfl
  omega
theorem magK_le {k j : Nat} (h : magK k < magK j) : k < j := by
  apply Nat.lt_of_not_le
  intro g
  rcases Nat.lt_or_eq_of_le g with g | g
  · have := magK_lt g; omega
  · rw [g] at h; omega
theorem magK_mono {k j : Nat} (h : k ≤ j) : magK k ≤ magK j := by
  rcases Nat.lt_or_eq_of_le h with g | g
  · exact Nat.le_of_lt (magK_lt g)
  · rw [g]; exact Nat.le_refl _
end Go.Eng
namespace Go.Eng
open Go
theorem magK_a : magK 243194379878006783 = 9007199254740991 * 2 ^ 52 := by decide +kernel
theorem magK_b : magK (2046 * 4503599627370496) = 4503599627370496 * 2 ^ 2045 := by decide +kernel
/-- A product that comes out as 2^-969 or more is a whole number of least units. -/
theorem band_low {n p : Nat} (hp : p = 1073) (hn : n ≠ 0) (h : n ≤ 9007199254740991 * 9007199254740991 * 2 ^ p) : magK (rung n (-2148)) < 2 ^ 105 := by
  obtain ⟨f1, f2, _⟩ := flo_val (K := 2148) (by decide) hn
  have h0 : 0 < 2 ^ p := Nat.pow_pos (by decide)
  rw [show 2148 - 1074 = p + 1 by omega, Nat.pow_succ] at f1
  clear f2
  generalize 2 ^ p = P at *
  have e52 : (2 : Nat) ^ 52 = 4503599627370496 := by decide
  have e105 : (2 : Nat) ^ 105 = 40564819207303340847894502572032 := by decide
  have hk : flo n (-2148) < 243194379878006783 := by
    apply magK_le
    rw [magK_a, e52]
    apply Nat.lt_of_mul_lt_mul_right (a := P * 2)
    rw [show (-((2148 : Nat) : Int)) = -2148 from rfl] at f1
    omega
  have h1 := magK_mono (Nat.le_trans (rung_flo n (-2148)).1 (show flo n (-2148) + 1 ≤ 243194379878006783 by omega))
  rw [magK_a, e52] at h1
  rw [e105]
  omega
/-- A product that comes out below 2^1023 is not much greater. -/
theorem band_high {v K : Nat} (hK : K = 2045) (hf : rung v (-1074) < 9218868437227405312) (h : magK (rung v (-1074)) < 4503599627370496 * 2 ^ K) : v ≤ 5 * 2 ^ (50 + K) := by
  apply Nat.le_of_not_lt
  intro hv
  have e50 : 2 ^ (50 + K) = 1125899906842624 * 2 ^ K := by rw [Nat.pow_add]
  have hp : 0 < 2 ^ K := Nat.pow_pos (by decide)
  obtain ⟨_, f2, _⟩ := flo_val (m := v) (K := 1074) (by decide) (by omega)
  rw [show 1074 - 1074 = 0 from rfl, Nat.pow_zero, Nat.mul_one, show (-((1074 : Nat) : Int)) = -1074 from rfl] at f2
  have hb := magK_b
  rw [← hK] at hb
  have h1 : 2046 * 4503599627370496 < flo v (-1074) + 1 := magK_le (by rw [hb]; omega)
  have h2 := magK_mono (Nat.le_trans (show 2046 * 4503599627370496 ≤ flo v (-1074) by omega) ((rung_flo v (-1074)).2 hf))
  rw [hb] at h2
  omega
end Go.Eng
namespace Go.Proofs
open Go Go.Eng
theorem fV_patA {ng : Bool} {k : Nat} (hk : k ≤ 9218868437227405312) (hf : isFin (pat ng k) = true) : k < 9218868437227405312 ∧ (fV (pat ng k)).natAbs = magK k := by
  have h1 : k < 9218868437227405312 := by
    rcases Nat.lt_or_eq_of_le hk with g | g
    · exact g
    · subst g; cases ng <;> exact absurd hf (by decide)
  refine ⟨h1, ?_⟩
  rw [fV_mag h1]
  cases ng
  · rw [if_neg (by decide), Int.natAbs_natCast]
  · rw [if_pos rfl, Int.natAbs_neg, Int.natAbs_natCast]
theorem T_small {a : Int} (h : fM a < 4503599627370496) : (fX a + 1074).toNat = 0 := by
  unfold fM at h; unfold fX
  split at h
  · rename_i g; rw [if_pos g]; rfl
  · omega
/-- TwoProd is exact wherever its premise holds. -/
theorem prod_top {a b : Int} (fa : isFin a = true) (fb : isFin b = true) {K : Nat} (hK : K = 2045) (ba : (fV a).natAbs < 2 ^ (25 + K)) (bb : (fV b).natAbs < 2 ^ (25 + K)) (hm : isFin (mulP a b) = true)
    (h1 : 2 ^ 105 ≤ (fV (mulP a b)).natAbs) (h2 : (fV (mulP a b)).natAbs < 4503599627370496 * 2 ^ K) : prdOk a b = true := by
  have hA : (fV a).natAbs = fM a * 2 ^ (fX a + 1074).toNat := by unfold fV; rw [signed_abs]
  have hB : (fV b).natAbs = fM b * 2 ^ (fX b + 1074).toNat := by unfold fV; rw [signed_abs]
  have lA := fM_lt a
  have lB := fM_lt b
  rw [mul_pat fa fb] at hm h1 h2
  obtain ⟨k1, k2⟩ := fV_patA (rung_lt _ _) hm
  rw [k2] at h1 h2
  have hn : (fV a * fV b).natAbs ≠ 0 := by
    intro e
    rw [e, rung_zero2] at h1
    exact absurd h1 (by decide)
  have ea : fM a ≠ 0 := by
    intro e
    rw [Int.natAbs_mul, hA, e, Nat.zero_mul, Nat.zero_mul] at hn; exact hn rfl
  have eb : fM b ≠ 0 := by
    intro e
    rw [Int.natAbs_mul, hB, e, Nat.zero_mul, Nat.mul_zero] at hn; exact hn rfl
  have hT : 1074 ≤ (fX a + 1074).toNat + (fX b + 1074).toNat := by
    apply Nat.le_of_not_lt
    intro g
    obtain ⟨p, hp⟩ : ∃ p, p = 1073 := ⟨_, rfl⟩
    have hle : (fV a * fV b).natAbs ≤ 9007199254740991 * 9007199254740991 * 2 ^ p := by
      rw [Int.natAbs_mul, hA, hB]
      have e3 : fM a * 2 ^ (fX a + 1074).toNat * (fM b * 2 ^ (fX b + 1074).toNat) = fM a * fM b * 2 ^ ((fX a + 1074).toNat + (fX b + 1074).toNat) := by rw [Nat.pow_add]; ac_rfl
      rw [e3]
      exact Nat.mul_le_mul (Nat.mul_le_mul (by omega) (by omega)) (Nat.pow_le_pow_right (by decide) (by omega))
    exact absurd (band_low hp hn hle) (Nat.not_lt.2 h1)
  obtain ⟨s, ma1, ma2, ma3⟩ := norm53 ea lA
  obtain ⟨s', mb1, mb2, mb3⟩ := norm53 eb lB
  obtain ⟨W, hW⟩ : ∃ W, W = 1074 := ⟨_, rfl⟩
  obtain ⟨d, hd⟩ : ∃ d, (fX a + 1074).toNat + (fX b + 1074).toNat = d + W := ⟨(fX a + 1074).toNat + (fX b + 1074).toNat - 1074, by omega⟩
  have hs0 : s = 0 ∨ (fX a + 1074).toNat = 0 := by
    rcases Nat.lt_or_ge (fM a) 4503599627370496 with g | g
    · exact .inr (T_small g)
    · exact .inl (ma3 g)
  have hs1 : s' = 0 ∨ (fX b + 1074).toNat = 0 := by
    rcases Nat.lt_or_ge (fM b) 4503599627370496 with g | g
    · exact .inr (T_small g)
    · exact .inl (mb3 g)
  have hD := (Dv.of_abs hA).mul (Dv.of_abs hB)
  rw [hd] at hD
  obtain ⟨V, hV, _⟩ := hD.split
  have hV0 : V.natAbs ≠ 0 := by
    intro e
    rw [abs_scale hV, e, Nat.zero_mul] at hn; exact hn rfl
  have er : rung (fV a * fV b).natAbs (-2148) = rung V.natAbs (-1074) := by
    rw [abs_scale hV, rung_scale W (-2148) hV0, hW]; rfl
  rw [er] at k1 h2
  have bV := band_high hK k1 h2
  exact (prod_any fa fb ma1 ma2 mb1 mb2 hW hd hs0 hs1 (by omega) ba bb hV bV).2.2
theorem spl_zero {a : Int} (fa : isFin a = true) (h : fV a = 0) : isFin (splH a) = true ∧ isFin (splL a) = true ∧ fV (splH a) = 0 ∧ fV (splL a) = 0 := by
  have r0 : rndI 0 = 0 := rnd_exact Fl.zero
  obtain ⟨c1, c2⟩ := mulFAC_fV (K := 0) fa (by decide) (by rw [h]; decide)
  rw [h, Int.mul_zero, r0] at c2
  obtain ⟨d1, d2⟩ := subP_fV (K := 0) c1 fa (by decide) (by rw [c2, h]; decide)
  rw [c2, h, Int.sub_zero, r0] at d2
  obtain ⟨g1, g2⟩ := subP_fV (K := 0) c1 d1 (by decide) (by rw [c2, d2]; decide)
  rw [c2, d2, Int.sub_zero, r0] at g2
  have eH : fV (splH a) = 0 := g2
  obtain ⟨k1, k2⟩ := subP_fV (K := 0) fa (show isFin (splH a) = true from g1) (by decide) (by rw [h, eH]; decide)
  rw [h, eH, Int.sub_zero, r0] at k2
  exact ⟨g1, k1, eH, k2⟩
/-- TwoProd of a nought. -/
theorem prod_zero {a b : Int} (fa : isFin a = true) (fb : isFin b = true) {K : Nat} (hK : K ≤ 2045) (ba : (fV a).natAbs < 2 ^ (25 + K)) (bb : (fV b).natAbs < 2 ^ (25 + K)) (h : fV a = 0 ∨ fV b = 0) : prdOk a b = true := by
  have r0 : rndI 0 = 0 := rnd_exact Fl.zero
  obtain ⟨W, hW⟩ : ∃ W, W = 1074 := ⟨_, rfl⟩
  have z : ∀ {x y : Int}, isFin x = true → isFin y = true → (fV x = 0 ∨ fV y = 0) → isFin (mulP x y) = true ∧ fV (mulP x y) = 0 := by
    intro x y fx fy hz
    have := mulP_fV (V := 0) (K := 0) fx fy (by decide) hW (by rcases hz with e | e <;> rw [e] <;> simp) (by decide)
    rw [r0] at this; exact this
  have s : ∀ {x y : Int}, isFin x = true → isFin y = true → fV x = 0 → fV y = 0 → isFin (subP x y) = true ∧ fV (subP x y) = 0 := by
    intro x y fx fy ex ey
    have := subP_fV (K := 0) fx fy (by decide) (by rw [ex, ey]; decide)
    rw [ex, ey, Int.sub_zero, r0] at this; exact this
  obtain ⟨sa1, sa2, _⟩ := split_law fa hK ba
  obtain ⟨sb1, sb2, _⟩ := split_law fb hK bb
  have hh : (fV (splH a) = 0 ∧ fV (splL a) = 0) ∨ (fV (splH b) = 0 ∧ fV (splL b) = 0) := by
    rcases h with h | h
    · exact .inl (spl_zero fa h).2.2
    · exact .inr (spl_zero fb h).2.2
  obtain ⟨m1, v1⟩ := z fa fb h
  obtain ⟨m2, v2⟩ := z sa1 sb1 (by rcases hh with g | g; exact .inl g.1; exact .inr g.1)
  obtain ⟨m3, v3⟩ := z sa2 sb1 (by rcases hh with g | g; exact .inl g.2; exact .inr g.1)
  obtain ⟨m4, v4⟩ := z sa1 sb2 (by rcases hh with g | g; exact .inl g.1; exact .inr g.2)
  obtain ⟨m5, v5⟩ := z sa2 sb2 (by rcases hh with g | g; exact .inl g.2; exact .inr g.2)
  obtain ⟨t1, w1⟩ := s m1 m2 v1 v2
  obtain ⟨t2, w2⟩ := s t1 m3 w1 v3
  obtain ⟨t3, w3⟩ := s t2 m4 w2 v4
  obtain ⟨t4, w4⟩ := s m5 t3 v5 w3
  have e1 : fV (prdH a b) = 0 := v1
  have e2 : fV (prdL a b) = 0 := w4
  exact just_of fa fb m1 t4 hW (V := 0) (by rcases h with e | e <;> rw [e] <;> simp) (by rw [e1, e2]; rfl)
end Go.Proofs
set_option linter.unusedVariables false
namespace Go.Proofs
open Go Go.Eng
variable {B : World} {R : Ending → Heap → Prop} {h : Heap}
theorem fin_neg {y : Int} (hy : I64 y) (fy : isFin y = true) : isFin (negP y) = true ∧ fV (negP y) = -fV y := by
  have hnan := (fin_not fy).1
  have e : negP y = if y < 0 then y + 9223372036854775808 else y - 9223372036854775808 := by unfold negP; rw [hnan]; rfl
  unfold I64 at hy
  have hE : fE (negP y) = fE y := by rw [e]; unfold fE; split <;> omega
  have hT : fT (negP y) = fT y := by rw [e]; unfold fT; split <;> omega
  have hs : decide (negP y < 0) = !decide (y < 0) := by
    rw [e]
    by_cases h : y < 0
    · rw [if_pos h, decide_eq_true h, decide_eq_false (by omega)]; rfl
    · rw [if_neg h, decide_eq_false h, decide_eq_true (by omega)]; rfl
  refine ⟨by unfold isFin at fy ⊢; rw [hE]; exact fy, ?_⟩
  have hM : fM (negP y) = fM y := by unfold fM; rw [hE, hT]
  have hX : fX (negP y) = fX y := by unfold fX; rw [hE]
  unfold fV
  rw [hs, hM, hX, signed_opp]
/-- A power of 2 as a pattern, and what bits.Join asks of it. -/
def PwK (P : Nat) (e : Int) : Prop := -1022 ≤ e ∧ e ≤ 1023 ∧ wd (pwP e) = P ∧ isFin (P : Int) = true ∧ fM (P : Int) = 2 ^ 52 ∧ fX (P : Int) = e - 52 ∧ WI P (P : Int) ∧ isInf (sg P) = false ∧ (FloatKind.f64.format.order P 0 == some .eq) = false ∧ pwP e = (P : Int)
theorem pw_a : PwK 9214364837600034816 1023 := ⟨by decide, by decide, by decide, by decide +kernel, by decide +kernel, by decide +kernel, ⟨by decide, by decide +kernel⟩, by decide +kernel, by decide +kernel, by decide⟩
theorem pw_b : PwK 9092767647661031424 996 := ⟨by decide, by decide, by decide, by decide +kernel, by decide +kernel, by decide +kernel, ⟨by decide, by decide +kernel⟩, by decide +kernel, by decide +kernel, by decide⟩
theorem pw_c : PwK 243194379878006784 (-969) := ⟨by decide, by decide, by decide, by decide +kernel, by decide +kernel, by decide +kernel, ⟨by decide, by decide +kernel⟩, by decide +kernel, by decide +kernel, by decide⟩
theorem PwK.val {P : Nat} {e : Int} (W : PwK P e) : I64 (P : Int) ∧ fV (P : Int) = ((2 ^ (e + 1074).toNat : Nat) : Int) := by
  obtain ⟨a1, a2, _, _, _, _, _, _, _, a3⟩ := W
  obtain ⟨b1, b2, b3⟩ := pwP_law (e := e) (by omega) a2
  rw [a3] at b1 b3
  exact ⟨b1, b3⟩
/-- bits.Join of a power of 2. -/
theorem K73q {P : Nat} {e : Int} (W : PwK P e) (H : R (.returned (.tuple #[.int .i64 (P : Int), .bool true])) h) : Ent Tryz.prog B 19 #[.bool false, .int .i64 (1 : Int), .int .i64 e] R h := by
  obtain ⟨he1, he2, hP, p1, p2, p3, p5, hi, ho, _⟩ := W
  have hc : (if (3000 : Int) < (if (-3000 : Int) > e then (-3000 : Int) else e) then (3000 : Int) else (if (-3000 : Int) > e then (-3000 : Int) else e)) = e := by rw [if_neg (show ¬ (-3000 : Int) > e by omega), if_neg (by omega)]
  have hd : decide (e + ((0 : Nat) : Int) = e - 52 + ((52 : Nat) : Int)) = true := decide_eq_true (by omega)
  refine F73_ok _ _ _ ⟨fun e => absurd e (by decide), fun _ => F135_ok _ ⟨_, rfl, ?_⟩⟩
  rw [hc, one_one]
  refine K93q (k := 0) (x := e) (by decide) (by omega) (by omega) ?_
  rw [show ((0 : Nat) : Int) + e = e by omega, hP]
  refine ⟨_, rfl, F136_ok _ _ _ (K118 p5.1 ⟨_, rfl, ?_⟩)⟩
  rw [hi]
  refine ⟨fun e => (by cases e), fun _ => ?_⟩
  rw [ho]
  refine ⟨fun e => absurd e (by decide), fun _ => ⟨fun e => absurd e (by decide), fun _ => F135_ok _ ⟨_, rfl, ?_⟩⟩⟩
  rw [hc]
  refine K181 (k := 0) (e := e) (by decide) (by omega) (by omega) ⟨_, _, rfl, K56 p5 ⟨_, rfl, K63 p1 ⟨_, _, _, _, rfl, ?_⟩⟩⟩
  rw [p2, p3]
  refine K181 (k := 52) (e := e - 52) (by decide) (by omega) (by omega) ⟨_, _, rfl, ?_⟩
  rw [hd]
  exact ⟨fun _ => ⟨_, rfl, fun e => (by cases e), fun _ => ⟨fun e => (by cases e), fun _ => K56 p5 ⟨_, rfl, H⟩⟩⟩, fun e => absurd e (by decide)⟩
/-- plumblaw6.size. -/
theorem K26q {a e : Int} {P : Nat} (W : PwK P e) (ha : I64 a) (H : R (.returned (.bool (isFin a && decide (((fV a).natAbs : Int) < fV (P : Int))))) h) : Ent Tryz.prog B 5 #[.int .i64 a, .int .i64 e] R h := by
  have iP := W.val.1
  have p1 := W.2.2.2.1
  refine F26_ok _ _ (K73q W ⟨_, _, rfl, fun _ => K17 ⟨_, rfl, ?_⟩, fun e => (by cases e)⟩)
  rw [cls_fin]
  cases fa : isFin a
  · rw [fa] at H; exact ⟨fun e => (by cases e), fun _ => H⟩
  · rw [fa] at H
    obtain ⟨q1, q2⟩ := abs_fV ha
    rw [← q2] at H
    exact ⟨fun _ => K33 ha fa ⟨_, rfl, K32 (abs_I64 ha) iP (q1.trans fa) p1 ⟨_, rfl, H⟩⟩, fun e => (by cases e)⟩
/-- bits.Same, of what is the same. -/
theorem K1031e {a b : Int} (ia : I64 a) (ib : I64 b) (na : isNaN a = false) (nb : isNaN b = false) (e : rk a = rk b) (H : R (.returned (.bool true)) h) : Ent Tryz.prog B 12 #[.int .i64 a, .int .i64 b] R h := by
  refine F1031_ok _ _ (K54 ⟨_, rfl, K54 ⟨_, rfl, ?_⟩⟩)
  have hc : (some (compareOfLessAndEq (rk b) (rk b)) == some Ordering.eq) = true := by unfold compareOfLessAndEq; simp
  rw [order_rk ia ib na nb, e, hc]
  exact H
theorem cls0 {b : Int} (h : cls b = 0) : fV b = 0 := by
  unfold cls at h
  apply fV_zero.2
  unfold fM
  split at h
  · omega
  split at h
  · omega
  split at h
  · omega
  split at h
  · omega
  rw [if_pos (by omega)]; omega
theorem spl_ok {a : Int} (fa : isFin a = true) {K : Nat} (hK : K ≤ 2045) (hb : (fV a).natAbs < 2 ^ (25 + K)) : splOk a = true := by
  obtain ⟨s1, s2, s3, _⟩ := split_law fa hK hb
  unfold splOk justP
  rw [fa, s1, s2, s3, show 1074 - 1074 = 0 from rfl, Nat.pow_zero, show ((1 : Nat) : Int) = 1 from rfl, Int.mul_one, decide_eq_true rfl]; rfl
theorem size_of {a e : Int} {P : Nat} (W : PwK P e) (h : (isFin a && decide (((fV a).natAbs : Int) < fV (P : Int))) = true) : isFin a = true ∧ (fV a).natAbs < 2 ^ (e + 1074).toNat := by
  obtain ⟨h1, h2⟩ := Bool.and_eq_true_iff.1 h
  have := of_decide_eq_true h2
  rw [W.val.2] at this
  exact ⟨h1, by omega⟩
theorem mul_nn {a b : Int} (fa : isFin a = true) (fb : isFin b = true) : isNaN (mulP a b) = false := by
  rw [mul_pat fa fb]; exact pat_nan (rung_lt _ _)
/-- plumblaw6.EftPremise, the products. -/
theorem prem_prod {a b : Int} {r1 r2 : Nat} {n1 n2 : Bool} {p1 p2 : Option Addr} {l1 c1 l2 c2 : Nat} {e1 e2 : Int} (ht : TabH h) (ia : I64 a) (ib : I64 b) (fa : isFin a = true) (fb : isFin b = true)
    (O1 : Own h r1 #[.bool n1, .slice p1 l1 c1, .int .i64 e1]) (O2 : Own h r2 #[.bool n2, .slice p2 l2 c2, .int .i64 e2]) (M1 : NumS 1074 h n1 p1 l1 e1 (fV a)) (M2 : NumS 1074 h n2 p2 l2 e2 (fV b))
    (H : ∀ h', Ext h h' → R (.returned (.bool true)) h') : F1008_j13 B R a b (some ⟨r1, 0, none⟩) (some ⟨r2, 0, none⟩) false h := by
  have v1 := fV_bl fa
  have v2 := fV_bl fb
  obtain ⟨K, hK⟩ : ∃ K, K = 2045 := ⟨_, rfl⟩
  refine ⟨fun e => (by cases e), fun _ => K26q pw_b ia ⟨_, rfl, ?_⟩⟩
  cases sa : (isFin a && decide (((fV a).natAbs : Int) < fV ((9092767647661031424 : Nat) : Int)))
  · exact ⟨fun _ => ⟨fun _ => H h Fr.rfl', fun e => (by cases e)⟩, fun e => (by cases e)⟩
  refine ⟨fun e => (by cases e), fun _ => K26q pw_b ib ⟨_, rfl, ?_⟩⟩
  cases sb : (isFin b && decide (((fV b).natAbs : Int) < fV ((9092767647661031424 : Nat) : Int)))
  · exact ⟨fun _ => H h Fr.rfl', fun e => (by cases e)⟩
  have ba := (size_of pw_b sa).2
  have bb := (size_of pw_b sb).2
  rw [show ((996 : Int) + 1074).toNat = 25 + K by omega] at ba bb
  refine ⟨fun e => (by cases e), fun _ => K27 ht ia fun h1 f1 => ⟨_, _, _, rfl, ?_⟩⟩
  rw [spl_ok fa (by omega) ba]
  replace O1 := O1.ext f1
  replace O2 := O2.ext f1
  refine ⟨r1, 0, rfl, _, O1.cell _, _, _, _, O1.cell _, _, O1.cell _, r2, 0, rfl, _, O2.cell _, _, _, _, O2.cell _, _, O2.cell _, ?_⟩
  refine K23 (ht.ext f1) (M1.ext f1) (M2.ext f1) (by decide) (by omega) (by omega) (fV_small a) fun n3 p3 l3 c3 e3 h2 f2 _ N3 => ⟨_, _, _, _, _, _, rfl, lay3 fun r3 h3 f3 _ O3 => ?_⟩
  have F3 := Ext.trans f1 (Ext.trans f2 f3)
  refine ⟨r3, 0, rfl, _, O3.cell _, _, _, _, O3.cell _, _, O3.cell _, K1030 (N3.ext f3) (w := 0) (by decide) (by decide) fun h4 f4 => ⟨_, _, _, rfl, ?_⟩⟩
  have F4 := Ext.trans F3 f4
  refine K19 (ht.ext F4) ia ib fun h5 f5 => ⟨_, _, _, rfl, K73q pw_c ⟨_, _, rfl, ?_⟩⟩
  have F5 := Ext.trans F4 f5
  have O3' := (O3.ext f4).ext f5
  have iz := N3.zero_iff
  obtain ⟨d1, d2⟩ := dir0_wf (fV a * fV b) (-2148)
  refine ⟨fun e => (by cases e), fun _ => K1031e (mulP_I64 a b) d1 (mul_nn fa fb) d2 (near_mul fa fb) ⟨_, rfl, ⟨fun e => (by cases e), fun _ => ⟨r3, 0, rfl, r3, 0 + 1, rfl, _, _, _, O3'.cell _, ?_, ?_⟩⟩⟩⟩
  · intro e
    rw [iz, decide_eq_true_eq] at e
    rw [prod_zero fa fb (show K ≤ 2045 by omega) ba bb (Int.mul_eq_zero.1 e)]
    exact ⟨fun e => (by cases e), fun _ => H h5 F5⟩
  · intro _
    refine K26q pw_a (mulP_I64 a b) ⟨_, rfl, ⟨fun e => ?_, fun _ => ⟨fun _ => H h5 F5, fun e => (by cases e)⟩⟩⟩
    obtain ⟨fm, bm⟩ := size_of pw_a e
    have q1 := (abs_fV (mulP_I64 a b)).1
    have q2 : fV (absP (prdH a b)) = (((fV (mulP a b)).natAbs : Nat) : Int) := (abs_fV (mulP_I64 a b)).2
    refine K33 (mulP_I64 a b) fm ⟨_, rfl, K32 (abs_I64 (mulP_I64 a b)) pw_c.val.1 (q1.trans fm) pw_c.2.2.2.1 ⟨_, rfl, ?_⟩⟩
    rw [q2, pw_c.val.2]
    cases hl : decide ((((fV (mulP a b)).natAbs : Nat) : Int) < ((2 ^ ((-969 : Int) + 1074).toNat : Nat) : Int))
    · have hl' := of_decide_eq_false hl
      rw [show ((-969 : Int) + 1074).toNat = 105 from rfl] at hl'
      rw [show ((1023 : Int) + 1074).toNat = 52 + K by omega, Nat.pow_add] at bm
      rw [prod_top fa fb hK ba bb fm (by generalize 2 ^ 105 = Q at *; omega) bm]
      exact ⟨fun e => (by cases e), fun _ => H h5 F5⟩
    · exact ⟨fun _ => H h5 F5, fun e => (by cases e)⟩
/-- plumblaw6.EftPremise. -/
theorem K1008 {a b : Int} (ht : TabH h) (ia : I64 a) (ib : I64 b) (H : ∀ h', Ext h h' → R (.returned (.bool true)) h') : Ent Tryz.prog B 3 #[.int .i64 a, .int .i64 b] R h := by
  refine F1008_ok _ _ (K15 ht fun h1 f1 => ⟨_, rfl, fun e => (by cases e), fun _ => K26q pw_a ia ⟨_, rfl, ?_⟩⟩)
  cases sa : (isFin a && decide (((fV a).natAbs : Int) < fV ((9214364837600034816 : Nat) : Int)))
  · exact ⟨fun _ => ⟨fun _ => H h1 f1, fun e => (by cases e)⟩, fun e => (by cases e)⟩
  refine ⟨fun e => (by cases e), fun _ => K26q pw_a ib ⟨_, rfl, ?_⟩⟩
  cases sb : (isFin b && decide (((fV b).natAbs : Int) < fV ((9214364837600034816 : Nat) : Int)))
  · exact ⟨fun _ => H h1 f1, fun e => (by cases e)⟩
  obtain ⟨K, hK⟩ : ∃ K, K = 2045 := ⟨_, rfl⟩
  obtain ⟨fa, ba⟩ := size_of pw_a sa
  obtain ⟨fb, bb⟩ := size_of pw_a sb
  rw [show ((1023 : Int) + 1074).toNat = 52 + K by omega, Nat.pow_add] at ba bb
  have ua := top_fl (K := K) (by omega) ba
  have ub := top_fl (K := K) (by omega) bb
  obtain ⟨g1, g2⟩ := fin_neg ib fb
  obtain ⟨s1, s2, s3⟩ := two_top fa fb (show K ≤ 2045 by omega) ua ub
  obtain ⟨_, _, d3⟩ := two_top fa g1 (show K ≤ 2045 by omega) ua (by rw [g2, Int.natAbs_neg]; exact ub)
  have ft := fun hab => fast_top fa fb (show K ≤ 2045 by omega) ua ub hab
  have v1 := fV_bl fa
  have v2 := fV_bl fb
  refine ⟨fun e => (by cases e), fun _ => ?_⟩
  refine K21 (ht.ext f1) fa fun n1 p1 l1 c1 e1 h2 f2 _ N1 => ⟨_, _, _, _, _, _, rfl, lay3 fun r1 h3 f3 _ O1 => ?_⟩
  have F3 := Ext.trans f1 (Ext.trans f2 f3)
  refine K21 (ht.ext F3) fb fun n2 p2 l2 c2 e2 h4 f4 _ N2 => ⟨_, _, _, _, _, _, rfl, lay3 fun r2 h5 f5 _ O2 => ?_⟩
  have F5 := Ext.trans F3 (Ext.trans f4 f5)
  replace O1 := (O1.ext f4).ext f5
  have M1 := ((N1.ext f3).ext f4).ext f5
  have M2 := N2.ext f5
  refine ⟨r1, 0, rfl, _, O1.cell _, _, _, _, O1.cell _, _, O1.cell _, r2, 0, rfl, _, O2.cell _, _, _, _, O2.cell _, _, O2.cell _, ?_⟩
  refine K22 (ht.ext F5) M1 M2 (by decide) (by omega) (by omega) fun n3 p3 l3 c3 e3 h6 f6 _ N3 => ⟨_, _, _, _, _, _, rfl, lay3 fun r3 h7 f7 _ O3 => ?_⟩
  have G7 := Ext.trans f6 f7
  refine ⟨r3, 0, rfl, _, O3.cell _, _, _, _, O3.cell _, _, O3.cell _, K1030 (N3.ext f7) (w := 0) (by decide) (by decide) fun h8 f8 => ⟨_, _, _, rfl, ?_⟩⟩
  have G8 := Ext.trans G7 f8
  refine K18 (ht.ext (Ext.trans F5 G8)) ia ib fun h9 f9 => ⟨_, _, _, rfl, ?_⟩
  have G9 := Ext.trans G8 f9
  refine K70 (ht.ext (Ext.trans F5 G9)) ia ib fun h10 f10 => ⟨_, _, _, rfl, ?_⟩
  have G10 := Ext.trans G9 f10
  refine K20 (ht.ext (Ext.trans F5 G10)) ia ib fun h11 f11 => ⟨_, _, _, rfl, ?_⟩
  have G11 := Ext.trans G10 f11
  rw [s3, d3]
  obtain ⟨x1, x2⟩ := dir0_wf (fV a + fV b) (-1074)
  have i1 : I64 (sumH a b) := addP_I64 a b
  have nn := (fin_not s1).1
  have tail : ∀ q : Bool, (cls a = 0 → q = true) → F1008_j134 B R a b (some ⟨r1, 0, none⟩) (some ⟨r2, 0, none⟩) q false h11 := by
    intro q hq
    have T := prem_prod (R := R) (B := B) (ht.ext (Ext.trans F5 G11)) ia ib fa fb (O1.ext G11) (O2.ext G11) (M1.ext G11) (M2.ext G11) fun h' f => H h' (Ext.trans (Ext.trans F5 G11) f)
    refine ⟨fun e => (by cases e), fun _ => K17 ⟨_, rfl, ⟨fun e => ?_, fun _ => T⟩⟩⟩
    rw [hq (of_decide_eq_true e)]
    exact T
  refine ⟨fun e => (by cases e), fun _ => ⟨fun e => (by cases e), fun _ => K1031e i1 x1 nn x2 (near_add fa fb) ⟨_, rfl, ⟨fun e => (by cases e), fun _ => K1031e i1 x1 nn x2 (near_add fa fb) ⟨_, rfl, ⟨fun e => (by cases e), fun _ => ?_⟩⟩⟩⟩⟩⟩
  obtain ⟨q1, q2⟩ := abs_fV ia
  obtain ⟨q3, q4⟩ := abs_fV ib
  refine K33 ia fa ⟨_, rfl, K33 ib fb ⟨_, rfl, K32 (abs_I64 ia) (abs_I64 ib) (q1.trans fa) (q3.trans fb) ⟨_, rfl, ?_⟩⟩⟩
  rw [q2, q4]
  have hz : cls a = 0 → sumOk (sumH a b) (fstL a b) a b = true := fun e => ft (.inr (cls0 e))
  cases hl : decide ((((fV a).natAbs : Nat) : Int) < (((fV b).natAbs : Nat) : Int))
  · have hl' := of_decide_eq_false hl
    have hq : sumOk (sumH a b) (fstL a b) a b = true := ft (.inl (by omega))
    rw [hq]
    exact ⟨fun _ => tail true fun _ => rfl, fun e => (by cases e)⟩
  · exact ⟨fun e => (by cases e), fun _ => tail _ hz⟩
end Go.Proofs
