import Derived.Test.YtkfafikejdhccaaGreatDoorA35
import Derived.Test.YtkfafikejdhccaaGreatDoorA26
import Derived.Test.YtkfafikejdhccaaGreatDoorA16
/- Here stand lemmas: Dekkers product is exact. -/
set_option linter.unusedVariables false
set_option linter.unusedVariables false
namespace Go.Eng
open Go
/-- Dekker's product of two of 53 bits, cut in halves. -/
theorem dek {d : Nat} {V HH LH HL LL : Int} (hV : V = HH + LH + HL + LL) (b1 : 20282409603651670423947251286016 * 2 ^ d ≤ V.natAbs) (b2 : V.natAbs < 81129638414606681695789005144064 * 2 ^ d)
    (d1 : Dv (54 + d) HH) (d2 : Dv (27 + d) LH) (d3 : Dv (27 + d) HL) (d4 : Dv d LL) (n2 : LH.natAbs ≤ 604462909807314587353088 * 2 ^ d) (n3 : HL.natAbs ≤ 604462909807314587353088 * 2 ^ d) (n4 : LL.natAbs ≤ 4503599627370496 * 2 ^ d) :
    rndI (rndI V - HH) = rndI V - HH ∧ rndI (rndI V - HH - LH) = rndI V - HH - LH ∧ rndI (rndI V - HH - LH - HL) = rndI V - HH - LH - HL ∧ rndI (LL - (rndI V - HH - LH - HL)) = V - rndI V ∧ (rndI V - V).natAbs ≤ 4503599627370496 * 2 ^ d := by
  have hD : 0 < 2 ^ d := Nat.pow_pos (by decide)
  have p27 : 2 ^ (27 + d) = 134217728 * 2 ^ d := by rw [Nat.pow_add]
  have p52 : 2 ^ (52 + d) = 4503599627370496 * 2 ^ d := by rw [Nat.pow_add]
  have p54 : 2 ^ (54 + d) = 18014398509481984 * 2 ^ d := by rw [Nat.pow_add]
  obtain ⟨e1, e2⟩ : Dv (52 + d) (rndI V) ∧ (rndI V - V).natAbs ≤ 4503599627370496 * 2 ^ d := by
    rcases rnd_cases V with e | ⟨j, j1, j2, j3, j4⟩
    · refine ⟨(rnd_fl V).big ?_, by rw [e, Int.sub_self]; exact Nat.zero_le _⟩
      rw [e, p52]; omega
    · have hj1 : j ≤ 52 + d := by
        apply Nat.le_of_not_lt
        intro k
        have h5 : 2 ^ (52 + d + 1) ≤ 2 ^ j := Nat.pow_le_pow_right (by decide) k
        rw [Nat.pow_succ, p52] at h5
        omega
      have hj2 : 52 + d ≤ j + 1 := by
        apply Nat.le_of_not_lt
        intro k
        have h5 : 2 ^ (j + 1 + 1) ≤ 2 ^ (52 + d) := Nat.pow_le_pow_right (by decide) (by omega)
        rw [Nat.pow_succ, Nat.pow_succ, p52] at h5
        omega
      refine ⟨j3.mono hj2, Nat.le_trans j4 ?_⟩
      rw [← p52]
      exact Nat.pow_le_pow_right (by decide) hj1
  generalize rndI V = p at *
  have t1 : Dv (52 + d) (p - HH) := e1.sub (d1.mono (by omega))
  have t2 : Dv (27 + d) (p - HH - LH) := (t1.mono (by omega)).sub d2
  have t3 : Dv (27 + d) (p - HH - LH - HL) := t2.sub d3
  have t4 : Dv d (LL - (p - HH - LH - HL)) := d4.sub (t3.mono (by omega))
  have r1 := rnd_exact (Fl.of t1 (by rw [p52]; generalize 2 ^ d = D at *; omega))
  have r2 := rnd_exact (Fl.of t2 (by rw [p27]; generalize 2 ^ d = D at *; omega))
  have r3 := rnd_exact (Fl.of (t3.mono (show d ≤ 27 + d by omega)) (by generalize 2 ^ d = D at *; omega))
  have r4 := rnd_exact (Fl.of t4 (by generalize 2 ^ d = D at *; omega))
  exact ⟨r1, r2, r3, by rw [r4]; omega, e2⟩
theorem velt_fine {X : Int} {m t : Nat} (h1 : 4503599627370496 ≤ m) (hm : m < 9007199254740992) (hX : X.natAbs = m * 2 ^ t) :
    ∃ h : Int, ∃ q l : Nat, q ≤ 67108864 ∧ l ≤ 67108864 ∧ h.natAbs = q * 2 ^ (27 + t) ∧ (X - h).natAbs = l * 2 ^ t ∧
      (rndI (134217729 * X) - X).natAbs ≤ 201326592 * X.natAbs ∧ (X - h).natAbs ≤ X.natAbs ∧ rndI (134217729 * X) - rndI (rndI (134217729 * X) - X) = h ∧ rndI h = h ∧ rndI (X - h) = X - h := by
  have e52 : (2 : Nat) ^ 52 = 4503599627370496 := by decide
  have e53 : (2 : Nat) ^ 53 = 9007199254740992 := by decide
  obtain ⟨h, q, l, q1, l1, a1, a2, a3, a4, a5, a6⟩ := velt_int (X := X) (M := m) (s := 0) (t := t) (by omega) (by omega) (by rw [hX, Nat.pow_zero, Nat.mul_one])
  rw [Nat.pow_zero, Nat.mul_one] at a1 a2
  refine ⟨h, q, l, by omega, by omega, a1, a2, a3, ?_, a4, a5, a6⟩
  rw [a2, hX]
  exact Nat.mul_le_mul_right _ (by omega)
end Go.Eng
namespace Go.Proofs
open Go Go.Eng
theorem split_fine {a : Int} (fa : isFin a = true) {K : Nat} (hK : K ≤ 2045) (hb : (fV a).natAbs < 2 ^ (25 + K)) (hm : 4503599627370496 ≤ fM a) :
    isFin (splH a) = true ∧ isFin (splL a) = true ∧ fV (splH a) + fV (splL a) = fV a ∧
      ∃ q l : Nat, q ≤ 67108864 ∧ l ≤ 67108864 ∧ (fV (splH a)).natAbs = q * 2 ^ (27 + (fX a + 1074).toNat) ∧ (fV (splL a)).natAbs = l * 2 ^ (fX a + 1074).toNat := by
  have hX : (fV a).natAbs = fM a * 2 ^ (fX a + 1074).toNat := by unfold fV; rw [signed_abs]
  obtain ⟨h, q, l, q1, l1, a1, a2, a3, a4, a5, a6, a7⟩ := velt_fine hm (fM_lt a) hX
  generalize hx : (fV a).natAbs = x at *
  have e26 : 2 ^ (51 + K) = 67108864 * 2 ^ (25 + K) := by rw [show 51 + K = 26 + (25 + K) by omega, Nat.pow_add]
  obtain ⟨c1, c2⟩ := mulFAC_fV fa hK (by rw [hx]; omega)
  obtain ⟨d1, d2⟩ := subP_fV c1 fa hK (by rw [c2]; omega)
  have hh : fV (mulP FAC a) - fV (subP (mulP FAC a) a) = h := by rw [c2, d2, c2]; exact a5
  obtain ⟨g1, g2⟩ := subP_fV c1 d1 hK (by rw [hh]; omega)
  rw [hh, a6] at g2
  obtain ⟨k1, k2⟩ := subP_fV fa g1 hK (by rw [g2]; omega)
  rw [g2, a7] at k2
  have eH : fV (splH a) = h := g2
  have eL : fV (splL a) = fV a - h := k2
  exact ⟨g1, k1, by rw [eH, eL]; omega, q, l, q1, l1, by rw [eH]; exact a1, by rw [eL]; exact a2⟩
/-- A product's value, where it is a whole number. -/
theorem mulP_fV {a b V : Int} (fa : isFin a = true) (fb : isFin b = true) {K : Nat} (hK : K ≤ 2045) {W : Nat} (hW : W = 1074) (hV : fV a * fV b = V * ((2 ^ W : Nat) : Int)) (h : V.natAbs < 3 * 2 ^ (51 + K)) : isFin (mulP a b) = true ∧ fV (mulP a b) = rndI V := by
  obtain ⟨a1, a2⟩ := fin_not fa
  obtain ⟨b1, b2⟩ := fin_not fb
  have e : mulP a b = pat (decide (a < 0) ^^ decide (b < 0)) (rung (fV a * fV b).natAbs (-2148)) := by
    unfold mulP timesP zr fW
    rw [a1, a2, b1, b2, fa, fb]; rfl
  have hW0 : 0 < 2 ^ W := Nat.pow_pos (by decide)
  have key : rung (fV a * fV b).natAbs (-2148) = rung V.natAbs (-1074) := by
    rw [hV, Int.natAbs_mul, Int.natAbs_natCast]
    by_cases h0 : V.natAbs = 0
    · rw [h0, Nat.zero_mul, rung_zero2, rung_zero]
    · rw [rung_scale W (-2148) h0, hW]; rfl
  rw [e, key]
  obtain ⟨c1, c2⟩ := rung_fV (decide (a < 0) ^^ decide (b < 0)) hK h
  refine ⟨c1, ?_⟩
  rw [c2]
  by_cases h0 : V = 0
  · subst h0
    rw [show (0 : Int).natAbs = 0 from rfl, R53_zero]
    have : rndI 0 = 0 := rnd_exact Fl.zero
    rw [this]
    cases (decide (a < 0) ^^ decide (b < 0)) <;> rfl
  · have hne : fV a * fV b ≠ 0 := by
      rw [hV]; exact Int.mul_ne_zero h0 (by omega)
    have ha0 : fV a ≠ 0 := fun e => hne (by rw [e, Int.zero_mul])
    have hb0 : fV b ≠ 0 := fun e => hne (by rw [e, Int.mul_zero])
    have sa : decide (fV a < 0) = decide (a < 0) := signed_neg fun k => ha0 (fV_zero.2 k)
    have sb : decide (fV b < 0) = decide (b < 0) := signed_neg fun k => hb0 (fV_zero.2 k)
    have sv : (decide (a < 0) ^^ decide (b < 0)) = decide (V < 0) := by
      rw [← sa, ← sb]
      have hWi : (0 : Int) < ((2 ^ W : Nat) : Int) := by omega
      by_cases ca : fV a < 0 <;> by_cases cb : fV b < 0
      · have h1 : 0 < fV a * fV b := Int.mul_pos_of_neg_of_neg ca cb
        rw [hV] at h1
        have := Int.pos_of_mul_pos_left h1 hWi
        simp [ca, cb]; omega
      · have h1 : fV a * fV b < 0 := Int.mul_neg_of_neg_of_pos ca (by omega)
        rw [hV] at h1
        have : V < 0 := by
          apply Int.lt_of_not_ge
          intro k
          have := Int.mul_nonneg k (Int.le_of_lt hWi)
          omega
        simp [ca, cb, this]
      · have h1 : fV a * fV b < 0 := Int.mul_neg_of_pos_of_neg (by omega) cb
        rw [hV] at h1
        have : V < 0 := by
          apply Int.lt_of_not_ge
          intro k
          have := Int.mul_nonneg k (Int.le_of_lt hWi)
          omega
        simp [ca, cb, this]
      · have h1 : 0 < fV a * fV b := Int.mul_pos (by omega) (by omega)
        rw [hV] at h1
        have : 0 < V := by
          apply Int.lt_of_not_ge
          intro k
          have := Int.mul_nonpos_of_nonpos_of_nonneg k (Int.le_of_lt hWi)
          omega
        simp [ca, cb]; omega
    rw [sv]; rfl
end Go.Proofs
set_option linter.unusedVariables false
namespace Go.Eng
open Go
theorem Dv.mul {i j : Nat} {x y : Int} (a : Dv i x) (b : Dv j y) : Dv (i + j) (x * y) := by
  obtain ⟨z, rfl⟩ := a; obtain ⟨w, rfl⟩ := b
  exact ⟨z * w, by rw [Nat.pow_add, Int.natCast_mul]; ac_rfl⟩
theorem Dv.split {i W : Nat} {x : Int} (a : Dv (i + W) x) : ∃ z, x = z * ((2 ^ W : Nat) : Int) ∧ Dv i z := by
  obtain ⟨z, rfl⟩ := a
  exact ⟨z * ((2 ^ i : Nat) : Int), by rw [Nat.pow_add, Int.natCast_mul, Int.mul_assoc], ⟨z, rfl⟩⟩
theorem abs_scale {x z : Int} {W : Nat} (h : x = z * ((2 ^ W : Nat) : Int)) : x.natAbs = z.natAbs * 2 ^ W := by
  rw [h, Int.natAbs_mul, Int.natAbs_natCast]
end Go.Eng
namespace Go.Proofs
open Go Go.Eng
/-- One of the four products of the halves. -/
theorem part_law {x y : Int} {d W i j p q P : Nat} (hx : x.natAbs = p * 2 ^ i) (hy : y.natAbs = q * 2 ^ j) (hp : p ≤ 67108864) (hq : q ≤ 67108864) {c : Nat} (hij : i + j = c + d + W) :
    ∃ Z, x * y = Z * ((2 ^ W : Nat) : Int) ∧ Dv (c + d) Z ∧ Z.natAbs ≤ 4503599627370496 * 2 ^ (c + d) ∧ Fl Z := by
  have h := (Dv.of_abs hx).mul (Dv.of_abs hy)
  rw [hij] at h
  obtain ⟨Z, e1, e2⟩ := h.split
  have hn := abs_scale e1
  rw [Int.natAbs_mul, hx, hy] at hn
  have e3 : p * 2 ^ i * (q * 2 ^ j) = p * q * 2 ^ (c + d) * 2 ^ W := by
    rw [Nat.mul_assoc (p * q), ← Nat.pow_add, ← hij, Nat.pow_add]; ac_rfl
  rw [e3] at hn
  have hn := Nat.eq_of_mul_eq_mul_right (Nat.pow_pos (by decide)) hn
  have hpq : p * q ≤ 67108864 * 67108864 := Nat.mul_le_mul hp hq
  have hb : Z.natAbs ≤ 4503599627370496 * 2 ^ (c + d) := by rw [← hn]; exact Nat.mul_le_mul_right _ hpq
  exact ⟨Z, e1, e2, hb, Fl.of e2 (Nat.le_trans hb (Nat.mul_le_mul_right _ (by decide)))⟩
theorem prod_ops {P P2 P3 P4 P5 V HH LH HL LL : Int} {d K : Nat} (hK : K ≤ 2045) (m1 : isFin P = true) (m2 : isFin P2 = true) (m3 : isFin P3 = true) (m4 : isFin P4 = true) (m5 : isFin P5 = true)
    (m1v : fV P = rndI V) (m2v : fV P2 = HH) (m3v : fV P3 = LH) (m4v : fV P4 = HL) (m5v : fV P5 = LL)
    (r1 : rndI (rndI V - HH) = rndI V - HH) (r2 : rndI (rndI V - HH - LH) = rndI V - HH - LH) (r3 : rndI (rndI V - HH - LH - HL) = rndI V - HH - LH - HL) (r4 : rndI (LL - (rndI V - HH - LH - HL)) = V - rndI V) (r5 : (rndI V - V).natAbs ≤ 4503599627370496 * 2 ^ d)
    (hsum : V = HH + LH + HL + LL) (b1 : 20282409603651670423947251286016 * 2 ^ d ≤ V.natAbs) (bV : V.natAbs ≤ 2 ^ (44 + K)) (u3 : HH.natAbs ≤ 4503599627370496 * (18014398509481984 * 2 ^ d)) (v3 : LH.natAbs ≤ 4503599627370496 * (134217728 * 2 ^ d)) (w3 : HL.natAbs ≤ 4503599627370496 * (134217728 * 2 ^ d)) (x3 : LL.natAbs ≤ 4503599627370496 * 2 ^ d) :
    isFin (subP P5 (subP (subP (subP P P2) P3) P4)) = true ∧ fV (subP P5 (subP (subP (subP P P2) P3) P4)) = V - rndI V := by
  have e51 : 2 ^ (51 + K) = 128 * 2 ^ (44 + K) := by rw [show 51 + K = 7 + (44 + K) by omega, Nat.pow_add]
  have hD : 0 < 2 ^ d := Nat.pow_pos (by decide)
  subst m2v m3v m4v m5v
  generalize rndI V = p at *
  obtain ⟨s1, s1v⟩ := subP_fV m1 m2 hK (by rw [m1v, e51]; generalize 2 ^ d = D at *; generalize 2 ^ (44 + K) = Q at *; omega)
  rw [m1v, r1] at s1v
  obtain ⟨s2, s2v⟩ := subP_fV s1 m3 hK (by rw [s1v, e51]; generalize 2 ^ d = D at *; generalize 2 ^ (44 + K) = Q at *; omega)
  rw [s1v, r2] at s2v
  obtain ⟨s3, s3v⟩ := subP_fV s2 m4 hK (by rw [s2v, e51]; generalize 2 ^ d = D at *; generalize 2 ^ (44 + K) = Q at *; omega)
  rw [s2v, r3] at s3v
  obtain ⟨s4, s4v⟩ := subP_fV m5 s3 hK (by rw [s3v, e51]; generalize 2 ^ d = D at *; generalize 2 ^ (44 + K) = Q at *; omega)
  rw [s3v, r4] at s4v
  exact ⟨s4, s4v⟩
theorem just_of {a b h l V : Int} {W : Nat} (fa : isFin a = true) (fb : isFin b = true) (fh : isFin h = true) (fl : isFin l = true) (hW : W = 1074) (hV : fV a * fV b = V * ((2 ^ W : Nat) : Int)) (hs : fV h + fV l = V) : (isFin a && isFin b && justP 2148 h l (fV a * fV b)) = true := by
  have e : 2148 - 1074 = W := by omega
  unfold justP
  rw [e, fa, fb, fh, fl, hs, hV, decide_eq_true rfl]; rfl
theorem prod_law {a b V : Int} (fa : isFin a = true) (fb : isFin b = true) (ma : 4503599627370496 ≤ fM a) (mb : 4503599627370496 ≤ fM b) {W d : Nat} (hW : W = 1074) (hT : (fX a + 1074).toNat + (fX b + 1074).toNat = d + W) {K : Nat} (hK : K ≤ 2045)
    (ba : (fV a).natAbs < 2 ^ (25 + K)) (bb : (fV b).natAbs < 2 ^ (25 + K)) (hV : fV a * fV b = V * ((2 ^ W : Nat) : Int)) (bV : V.natAbs ≤ 2 ^ (44 + K)) :
    isFin (prdH a b) = true ∧ isFin (prdL a b) = true ∧ fV (prdH a b) = rndI V ∧ fV (prdL a b) = V - rndI V ∧ prdOk a b = true := by
  have hA : (fV a).natAbs = fM a * 2 ^ (fX a + 1074).toNat := by unfold fV; rw [signed_abs]
  have hB : (fV b).natAbs = fM b * 2 ^ (fX b + 1074).toNat := by unfold fV; rw [signed_abs]
  have lA := fM_lt a
  have lB := fM_lt b
  obtain ⟨sa1, sa2, sa3, q, l, q1, l1, sa4, sa5⟩ := split_fine fa hK ba ma
  obtain ⟨sb1, sb2, sb3, q', l', q2, l2, sb4, sb5⟩ := split_fine fb hK bb mb
  generalize (fX a + 1074).toNat = i at *
  generalize (fX b + 1074).toNat = j at *
  obtain ⟨HH, u1, u2, u3, u4⟩ := part_law (c := 54) (d := d) (W := W) (P := 0) sa4 sb4 q1 q2 (by omega)
  obtain ⟨LH, v1, v2, v3, v4⟩ := part_law (c := 27) (d := d) (W := W) (P := 0) sa5 sb4 l1 q2 (by omega)
  obtain ⟨HL, w1, w2, w3, w4⟩ := part_law (c := 27) (d := d) (W := W) (P := 0) sa4 sb5 q1 l2 (by omega)
  obtain ⟨LL, x1, x2, x3, x4⟩ := part_law (c := 0) (d := d) (W := W) (P := 0) sa5 sb5 l1 l2 (by omega)
  rw [Nat.zero_add] at x2 x3
  have hW0 : ((2 ^ W : Nat) : Int) ≠ 0 := by have : 0 < 2 ^ W := Nat.pow_pos (by decide); omega
  have hsum : V = HH + LH + HL + LL := by
    apply Int.eq_of_mul_eq_mul_right hW0
    rw [← hV, Int.add_mul, Int.add_mul, Int.add_mul, ← u1, ← v1, ← w1, ← x1, ← sa3, ← sb3, Int.add_mul, Int.mul_add, Int.mul_add]
    omega
  have hab := abs_scale hV
  rw [Int.natAbs_mul, hA, hB] at hab
  have e3 : fM a * 2 ^ i * (fM b * 2 ^ j) = fM a * fM b * 2 ^ d * 2 ^ W := by
    rw [Nat.mul_assoc (fM a * fM b), ← Nat.pow_add, ← hT, Nat.pow_add]; ac_rfl
  rw [e3] at hab
  have hab := Nat.eq_of_mul_eq_mul_right (Nat.pow_pos (by decide)) hab
  have g1 : 4503599627370496 * 4503599627370496 ≤ fM a * fM b := Nat.mul_le_mul ma mb
  have g2 : fM a * fM b < 9007199254740992 * 9007199254740992 := Nat.mul_lt_mul_of_lt_of_le lA (Nat.le_of_lt lB) (by decide)
  have b1 : 20282409603651670423947251286016 * 2 ^ d ≤ V.natAbs := by rw [← hab]; exact Nat.mul_le_mul_right _ g1
  have b2 : V.natAbs < 81129638414606681695789005144064 * 2 ^ d := by rw [← hab]; exact Nat.mul_lt_mul_of_pos_right g2 (Nat.pow_pos (by decide))
  have p27 : 2 ^ (27 + d) = 134217728 * 2 ^ d := by rw [Nat.pow_add]
  have p54 : 2 ^ (54 + d) = 18014398509481984 * 2 ^ d := by rw [Nat.pow_add]
  rw [p27] at v3 w3
  rw [p54] at u3
  obtain ⟨r1, r2, r3, r4, r5⟩ := dek hsum b1 b2 u2 v2 w2 x2 (by omega) (by omega) x3
  have e51 : 2 ^ (51 + K) = 128 * 2 ^ (44 + K) := by rw [show 51 + K = 7 + (44 + K) by omega, Nat.pow_add]
  obtain ⟨m1, m1v⟩ := mulP_fV fa fb hK hW hV (by omega)
  obtain ⟨m2, m2v⟩ := mulP_fV sa1 sb1 hK hW u1 (by rw [e51]; omega)
  obtain ⟨m3, m3v⟩ := mulP_fV sa2 sb1 hK hW v1 (by rw [e51]; omega)
  obtain ⟨m4, m4v⟩ := mulP_fV sa1 sb2 hK hW w1 (by rw [e51]; omega)
  obtain ⟨m5, m5v⟩ := mulP_fV sa2 sb2 hK hW x1 (by rw [e51]; omega)
  rw [rnd_exact u4] at m2v
  rw [rnd_exact v4] at m3v
  rw [rnd_exact w4] at m4v
  rw [rnd_exact x4] at m5v
  obtain ⟨s4, hv⟩ := prod_ops hK m1 m2 m3 m4 m5 m1v m2v m3v m4v m5v r1 r2 r3 r4 r5 hsum b1 bV u3 v3 w3 x3
  have h1 : fV (prdH a b) = rndI V := m1v
  have h2 : fV (prdL a b) = V - rndI V := hv
  exact ⟨m1, s4, h1, h2, just_of fa fb m1 s4 hW hV (show fV (prdH a b) + fV (prdL a b) = V by rw [h1, h2]; omega)⟩
end Go.Proofs
