import Derived.Test.YtgeanmigldaniaaGreatFmtA39
/- Here stand lemmas: sums and products of ends. -/
set_option linter.unusedVariables false
set_option linter.unusedVariables false
/-! What is told of a number lies on its side of it. -/
namespace Go.Eng
open Go
theorem magK_form {L q : Nat} (h1 : q ≤ 9007199254740992) (h2 : L = 0 ∨ 4503599627370496 ≤ q) : magK (L * 4503599627370496 + q) = q * 2 ^ L := by
  unfold magK
  by_cases hq : q < 4503599627370496
  · have hL : L = 0 := by omega
    subst hL
    rw [show (0 * 4503599627370496 + q) / 4503599627370496 = 0 by omega, if_pos rfl, Nat.pow_zero]
    omega
  · by_cases hq2 : q = 9007199254740992
    · subst hq2
      rw [show (L * 4503599627370496 + 9007199254740992) / 4503599627370496 = L + 2 by omega, show (L * 4503599627370496 + 9007199254740992) % 4503599627370496 = 0 by omega, if_neg (by omega), show L + 2 - 1 = L + 1 by omega, Nat.pow_succ]
      generalize 2 ^ L = p
      omega
    · rw [show (L * 4503599627370496 + q) / 4503599627370496 = L + 1 by omega, show (L * 4503599627370496 + q) % 4503599627370496 = q - 4503599627370496 by omega, if_neg (by omega), show L + 1 - 1 = L by omega, show 4503599627370496 + (q - 4503599627370496) = q by omega]
theorem flo_val {m K : Nat} (hK : 1074 ≤ K) (hm : m ≠ 0) : magK (flo m (-(K : Int))) * 2 ^ (K - 1074) ≤ m ∧ m < magK (flo m (-(K : Int)) + 1) * 2 ^ (K - 1074) ∧ odd m (-(K : Int)) = decide (magK (flo m (-(K : Int))) * 2 ^ (K - 1074) ≠ m) := by
  obtain ⟨b1, b2⟩ := cut_bd (-(K : Int)) hm
  have hl := lastP_ge m (-(K : Int))
  have hX : cutX m (-(K : Int)) = m := by unfold cutX; rw [show (-(K : Int) - lastP m (-(K : Int))).toNat = 0 by omega, Nat.pow_zero, Nat.mul_one]
  have hD : cutD m (-(K : Int)) = (lastP m (-(K : Int)) + 1074).toNat + (K - 1074) := by unfold cutD; omega
  have p : 0 < 2 ^ cutD m (-(K : Int)) := Nat.pow_pos (by decide)
  have q1 : cutX m (-(K : Int)) / 2 ^ cutD m (-(K : Int)) < 9007199254740992 := by
    rw [Nat.div_lt_iff_lt_mul p, show (9007199254740992 : Nat) = 2 ^ 53 by decide, ← Nat.pow_add]; exact b1
  have q2 : (lastP m (-(K : Int)) + 1074).toNat = 0 ∨ 4503599627370496 ≤ cutX m (-(K : Int)) / 2 ^ cutD m (-(K : Int)) := by
    by_cases h : lastP m (-(K : Int)) = -1074
    · left; omega
    · right
      rw [Nat.le_div_iff_mul_le p, show (4503599627370496 : Nat) = 2 ^ 52 by decide, ← Nat.pow_add]; exact b2 h
  have e1 : magK (flo m (-(K : Int))) = cutX m (-(K : Int)) / 2 ^ cutD m (-(K : Int)) * 2 ^ (lastP m (-(K : Int)) + 1074).toNat := magK_form (by omega) q2
  have e2 : magK (flo m (-(K : Int)) + 1) = (cutX m (-(K : Int)) / 2 ^ cutD m (-(K : Int)) + 1) * 2 ^ (lastP m (-(K : Int)) + 1074).toNat := by
    unfold flo; rw [Nat.add_assoc]; exact magK_form (by omega) (by omega)
  rw [e1, e2, Nat.mul_assoc, Nat.mul_assoc, ← Nat.pow_add, ← hD]
  unfold odd
  rw [hX]
  generalize 2 ^ cutD m (-(K : Int)) = d at *
  have dm := Nat.div_add_mod m d
  have ml := Nat.mod_lt m p
  rw [Nat.add_mul, Nat.one_mul, Nat.mul_comm (m / d) d]
  refine ⟨by omega, by omega, ?_⟩
  rw [decide_eq_decide]; omega
theorem dirP_tow (m : Nat) (e : Int) : dirP 1 false m e = min (flo m e) (INF - 1) ∧ dirP 2 true m e = min (flo m e) (INF - 1) := by
  have hI : 0 < INF := by decide
  unfold dirP idxW awayW topW
  generalize INF = J at *
  constructor <;> (simp only [Bool.false_and, Bool.not_true, Bool.toNat_false, Nat.add_zero, Bool.false_eq_true, if_false]; split <;> omega)
theorem dirP_awy (m : Nat) (e : Int) : dirP 1 true m e = min (flo m e + (odd m e).toNat) INF ∧ dirP 2 false m e = min (flo m e + (odd m e).toNat) INF := by
  have hI : 0 < INF := by decide
  unfold dirP idxW awayW topW
  generalize INF = J at *
  constructor <;> (simp only [Bool.true_and, Bool.not_false, if_true]; split <;> omega)
theorem fin_pat {s : Bool} {k : Nat} (hk : k ≤ 9218868437227405312) (h : isFin (pat s k) = true) : k < 9218868437227405312 := by
  unfold isFin at h
  rw [pat_fE s (by omega), decide_eq_true_eq] at h
  omega
theorem inf_lit : INF = 9218868437227405312 := rfl
/-- Down is not above up; down is not infinite above, up not below. -/
theorem dirV_12 (v e : Int) : rk (dirV 1 v e) ≤ rk (dirV 2 v e) ∧ rk (dirV 1 v e) < 9218868437227405312 ∧ -9218868437227405312 < rk (dirV 2 v e) := by
  have hI := inf_lit
  rw [rk_dirV, rk_dirV]
  by_cases h0 : v = 0
  · rw [if_pos h0, if_pos h0]; omega
  · rw [if_neg h0, if_neg h0]
    obtain ⟨a1, a2⟩ := dirP_tow v.natAbs e
    obtain ⟨b1, b2⟩ := dirP_awy v.natAbs e
    by_cases h1 : v < 0
    · rw [if_pos h1, if_pos h1, b1, a2]; omega
    · rw [if_neg h1, if_neg h1, a1, b2]; omega
theorem flo_self {k : Nat} (h0 : 0 < k) : flo (magK k) (-1074) = k ∧ odd (magK k) (-1074) = false := by
  have hm : magK k ≠ 0 := by have := magK_lt h0; omega
  obtain ⟨h1, h2, h3⟩ := flo_val (K := 1074) (Nat.le_refl _) hm
  have e : -(((1074 : Nat)) : Int) = -1074 := rfl
  rw [e] at h1 h2 h3
  rw [Nat.sub_self, Nat.pow_zero, Nat.mul_one] at h1 h2 h3
  have hk : flo (magK k) (-1074) = k := by
    rcases Nat.lt_trichotomy (flo (magK k) (-1074)) k with h | h | h
    · have : magK (flo (magK k) (-1074) + 1) ≤ magK k := by
        rcases Nat.lt_or_ge (flo (magK k) (-1074) + 1) k with h4 | h4
        · exact Nat.le_of_lt (magK_lt h4)
        · rw [show flo (magK k) (-1074) + 1 = k by omega]; exact Nat.le_refl _
      omega
    · exact h
    · have := magK_lt h; omega
  refine ⟨hk, ?_⟩
  rw [h3, hk]
  exact decide_eq_false fun x => x rfl
/-- A float's own value, rounded. -/
theorem rk_self {w : Nat} {a : Int} (hw : w = 1 ∨ w = 2) (ia : I64 a) (fa : isFin a = true) : rk (dirV w (fV a) (-1074)) = rk a := by
  have hI := inf_lit
  obtain ⟨s, k, hk, rfl⟩ := as_pat ia (fin_not fa).1
  have hk := fin_pat hk fa
  rw [rk_dirV, fV_mag hk, rk_pat (by omega)]
  by_cases h0 : k = 0
  · subst h0
    rw [magK_zero]
    cases s <;> rfl
  · have hm := magK_lt (show 0 < k by omega)
    rw [magK_zero] at hm
    obtain ⟨f1, f2⟩ := flo_self (show 0 < k by omega)
    obtain ⟨a1, a2⟩ := dirP_tow (magK k) (-1074)
    obtain ⟨b1, b2⟩ := dirP_awy (magK k) (-1074)
    rw [f1] at a1 a2
    rw [f1, f2, show false.toNat = 0 from rfl] at b1 b2
    cases s
    · simp only [Bool.false_eq_true, if_false]
      rw [if_neg (by omega), if_neg (by omega), Int.natAbs_natCast]
      rcases hw with rfl | rfl
      · rw [a1]; omega
      · rw [b2]; omega
    · simp only [if_true]
      rw [if_neg (by omega), if_pos (by omega), Int.natAbs_neg, Int.natAbs_natCast]
      rcases hw with rfl | rfl
      · rw [b1]; omega
      · rw [a2]; omega
end Go.Eng
set_option linter.unusedVariables false
/-! Products of ends keep the order. -/
namespace Go.Eng
open Go
theorem rk0_cls {a : Int} (ia : I64 a) (na : isNaN a = false) : cls a = 0 ↔ rk a = 0 := by
  obtain ⟨s, k, hk, rfl⟩ := as_pat ia na
  rw [cls_zero hk, rk_pat (by omega)]
  cases s <;> simp only [Bool.false_eq_true, if_false, if_true] <;> omega
theorem fin_rk {a : Int} (ia : I64 a) (fa : isFin a = true) : -9218868437227405312 < rk a ∧ rk a < 9218868437227405312 := by
  obtain ⟨s, k, hk, rfl⟩ := as_pat ia (fin_not fa).1
  have hk := fin_pat hk fa
  rw [rk_pat (by omega)]
  cases s <;> simp only [Bool.false_eq_true, if_false, if_true] <;> omega
theorem sgn_rk {a : Int} (ia : I64 a) (fa : isFin a = true) : (0 < fV a ↔ 0 < rk a) ∧ (fV a < 0 ↔ rk a < 0) ∧ (fV a = 0 ↔ rk a = 0) := by
  have i0 : I64 0 := by unfold I64; omega
  have f0 : isFin 0 = true := by decide
  obtain ⟨h1, h2⟩ := fV_rk ia i0 fa f0
  obtain ⟨h3, _⟩ := fV_rk i0 ia f0 fa
  rw [show fV 0 = 0 by decide, show rk 0 = 0 by decide] at h1 h2 h3
  exact ⟨h3, h1, h2⟩
theorem lt0_rk {a : Int} (ia : I64 a) (na : isNaN a = false) (h0 : rk a ≠ 0) : decide (a < 0) = decide (rk a < 0) := by
  obtain ⟨s, k, hk, rfl⟩ := as_pat ia na
  rw [pat_neg s (by omega)]
  rw [rk_pat (by omega)] at h0 ⊢
  cases s
  · simp only [Bool.false_eq_true, if_false] at h0 ⊢; rw [decide_eq_false (by omega)]
  · simp only [if_true] at h0 ⊢; rw [decide_eq_true (by omega)]
end Go.Eng
namespace Go.Proofs
open Go Go.Eng
theorem tim_zero {w x y : Int} (ix : I64 x) (iy : I64 y) (nx : isNaN x = false) (ny : isNaN y = false) (h : rk x = 0 ∨ rk y = 0) : rk (timW w x y) = 0 := by
  unfold timW
  rw [if_pos (h.imp (rk0_cls ix nx).2 (rk0_cls iy ny).2)]; rfl
theorem tim_fin {w x y : Int} (hw : w = 1 ∨ w = 2) (ix : I64 x) (iy : I64 y) (fx : isFin x = true) (fy : isFin y = true) : rk (timW w x y) = rk (dirV w.toNat (fV x * fV y) (-2148)) := by
  unfold timW
  split
  · rename_i h
    have : fV x * fV y = 0 := by
      rcases h with h | h
      · rw [(fV_cls0 ix fx).2 h, Int.zero_mul]
      · rw [(fV_cls0 iy fy).2 h, Int.mul_zero]
    rw [this, dirV_zero]
  · rename_i h
    unfold mulW
    rw [if_neg]
    rintro (h1 | h1 | h1)
    · omega
    · rw [fx, fy] at h1; cases h1
    · rcases Int.mul_eq_zero.1 h1 with h1 | h1
      · exact h (.inl ((fV_cls0 ix fx).1 h1))
      · exact h (.inr ((fV_cls0 iy fy).1 h1))
theorem zr_of {a : Int} (ia : I64 a) (na : isNaN a = false) (h : rk a ≠ 0) : zr (isNaN a) (isInf a) (fW a) = false := by
  unfold zr
  rcases fin_or na with ⟨f, i⟩ | ⟨f, i⟩
  · have : fW a ≠ 0 := by
      unfold fW; rw [if_pos f]
      exact fun e => h ((rk0_cls ia na).1 ((fV_cls0 ia f).1 e))
    rw [decide_eq_false this]; simp
  · rw [i]; simp
theorem tim_inf {w x y : Int} (ix : I64 x) (iy : I64 y) (nx : isNaN x = false) (ny : isNaN y = false) (h : isFin x = false ∨ isFin y = false) :
    (0 < rk x → 0 < rk y → rk (timW w x y) = 9218868437227405312) ∧ (rk x < 0 → rk y < 0 → rk (timW w x y) = 9218868437227405312) ∧
    (0 < rk x → rk y < 0 → rk (timW w x y) = -9218868437227405312) ∧ (rk x < 0 → 0 < rk y → rk (timW w x y) = -9218868437227405312) := by
  have key : rk x ≠ 0 → rk y ≠ 0 → timW w x y = pat (decide (rk x < 0) ^^ decide (rk y < 0)) 9218868437227405312 := fun hx hy => by
    unfold timW
    rw [if_neg (fun k => k.elim (fun k => hx ((rk0_cls ix nx).1 k)) fun k => hy ((rk0_cls iy ny).1 k))]
    unfold mulW
    have hb : (isFin x && isFin y) = false := by rcases h with h | h <;> rw [h] <;> simp
    rw [if_pos (.inr (.inl hb))]
    unfold mulP timesP
    rw [zr_of ix nx hx, zr_of iy ny hy, nx, ny, lt0_rk ix nx hx, lt0_rk iy ny hy]
    have hi : (isInf x || isInf y) = true := by
      rcases h with h | h
      · rcases fin_or nx with ⟨f, i⟩ | ⟨f, i⟩
        · rw [f] at h; cases h
        · rw [i]; rfl
      · rcases fin_or ny with ⟨f, i⟩ | ⟨f, i⟩
        · rw [f] at h; cases h
        · rw [i]; simp
    simp only [Bool.or_self, Bool.and_false, Bool.false_eq_true, if_false]
    rw [if_pos hi]
  refine ⟨fun h1 h2 => ?_, fun h1 h2 => ?_, fun h1 h2 => ?_, fun h1 h2 => ?_⟩ <;> rw [key (by omega) (by omega), rk_pat (by omega)]
  · rw [decide_eq_false (by omega : ¬ rk x < 0), decide_eq_false (by omega : ¬ rk y < 0)]; rfl
  · rw [decide_eq_true h1, decide_eq_true h2]; rfl
  · rw [decide_eq_false (by omega : ¬ rk x < 0), decide_eq_true h2]; rfl
  · rw [decide_eq_true h1, decide_eq_false (by omega : ¬ rk y < 0)]; rfl
theorem tim_bd {w x y : Int} (ix : I64 x) (iy : I64 y) (nx : isNaN x = false) (ny : isNaN y = false) : -9218868437227405312 ≤ rk (timW w x y) ∧ rk (timW w x y) ≤ 9218868437227405312 :=
  rk_bd (timW_I64 w x y) (tim_nan ix iy nx ny)
theorem toNat12 {w : Int} (hw : w = 1 ∨ w = 2) : w.toNat = 1 ∨ w.toNat = 2 := by omega
/-- A product of ends, in its second factor. -/
theorem tim_mono {w x y z : Int} (hw : w = 1 ∨ w = 2) (ix : I64 x) (iy : I64 y) (iz : I64 z) (nx : isNaN x = false) (ny : isNaN y = false) (nz : isNaN z = false) (h : rk y ≤ rk z) :
    (0 ≤ rk x → rk (timW w x y) ≤ rk (timW w x z)) ∧ (rk x ≤ 0 → rk (timW w x z) ≤ rk (timW w x y)) := by
  have b1 := @tim_bd w x y ix iy nx ny
  have b2 := @tim_bd w x z ix iz nx nz
  have z1 := @tim_zero w x y ix iy nx ny
  have z2 := @tim_zero w x z ix iz nx nz
  by_cases hf : isFin x = true ∧ isFin y = true ∧ isFin z = true
  · obtain ⟨fx, fy, fz⟩ := hf
    obtain ⟨s1, s2, s3⟩ := sgn_rk ix fx
    obtain ⟨v1, v2⟩ := fV_rk iy iz fy fz
    have hv : fV y ≤ fV z := by omega
    rw [tim_fin hw ix iy fx fy, tim_fin hw ix iz fx fz]
    exact ⟨fun h0 => dirV_mono _ (toNat12 hw) (Int.mul_le_mul_of_nonneg_left hv (by omega)), fun h0 => dirV_mono _ (toNat12 hw) (Int.mul_le_mul_of_nonpos_left (by omega) hv)⟩
  · have rz := rk_bd iz nz
    have ry := rk_bd iy ny
    cases fx : isFin x
    · have i1 := @tim_inf w x y ix iy nx ny (.inl fx)
      have i2 := @tim_inf w x z ix iz nx nz (.inl fx)
      generalize rk (timW w x y) = T at *
      generalize rk (timW w x z) = U at *
      omega
    · cases fy : isFin y
      · have i1 := @tim_inf w x y ix iy nx ny (.inr fy)
        have ky := @rk_inf y iy ny fy
        cases fz : isFin z
        · have i2 := @tim_inf w x z ix iz nx nz (.inr fz)
          generalize rk (timW w x y) = T at *
          generalize rk (timW w x z) = U at *
          omega
        · have lz := @fin_rk z iz fz
          generalize rk (timW w x y) = T at *
          generalize rk (timW w x z) = U at *
          omega
      · cases fz : isFin z
        · have i2 := @tim_inf w x z ix iz nx nz (.inr fz)
          have kz := @rk_inf z iz nz fz
          have ly := @fin_rk y iy fy
          generalize rk (timW w x y) = T at *
          generalize rk (timW w x z) = U at *
          omega
        · exact absurd ⟨fx, fy, fz⟩ hf
theorem tim_comm {w x y : Int} (hw : w = 1 ∨ w = 2) (ix : I64 x) (iy : I64 y) (nx : isNaN x = false) (ny : isNaN y = false) : rk (timW w x y) = rk (timW w y x) := by
  by_cases hf : isFin x = true ∧ isFin y = true
  · rw [tim_fin hw ix iy hf.1 hf.2, tim_fin hw iy ix hf.2 hf.1, Int.mul_comm]
  · have hf' : isFin x = false ∨ isFin y = false := by
      cases h : isFin x
      · exact .inl rfl
      · cases h2 : isFin y
        · exact .inr rfl
        · exact absurd ⟨h, h2⟩ hf
    have i1 := @tim_inf w x y ix iy nx ny hf'
    have i2 := @tim_inf w y x iy ix ny nx hf'.symm
    have z1 := @tim_zero w x y ix iy nx ny
    have z2 := @tim_zero w y x iy ix ny nx
    generalize rk (timW w x y) = T at *
    generalize rk (timW w y x) = U at *
    omega
theorem mid {r s t u : Int} (m : (0 ≤ r → s ≤ u) ∧ (r ≤ 0 → u ≤ s)) (n : (0 ≤ r → u ≤ t) ∧ (r ≤ 0 → t ≤ u)) : min s t ≤ u ∧ u ≤ max s t := by
  rcases Int.le_total 0 r with h | h
  · have := m.1 h; have := n.1 h; omega
  · have := m.2 h; have := n.2 h; omega
/-- A product lies between those of the corners. -/
theorem cor {w a b c d P Q : Int} (hw : w = 1 ∨ w = 2) (ia : I64 a) (ib : I64 b) (ic : I64 c) (id' : I64 d) (iP : I64 P) (iQ : I64 Q) (na : isNaN a = false) (nb : isNaN b = false) (nc : isNaN c = false) (nd : isNaN d = false) (nP : isNaN P = false) (nQ : isNaN Q = false)
    (h1 : rk a ≤ rk P) (h2 : rk P ≤ rk b) (h3 : rk c ≤ rk Q) (h4 : rk Q ≤ rk d) :
    loR (fun k => rk (timW w (ptX a b k) (ptY c d k))) 4 ≤ rk (timW w P Q) ∧ rk (timW w P Q) ≤ hiR (fun k => rk (timW w (ptX a b k) (ptY c d k))) 4 := by
  have c0 := @tim_comm w P Q hw iP iQ nP nQ
  have c1 := @tim_comm w a Q hw ia iQ na nQ
  have c2 := @tim_comm w b Q hw ib iQ nb nQ
  have m1 := @tim_mono w Q a P hw iQ ia iP nQ na nP h1
  have m2 := @tim_mono w Q P b hw iQ iP ib nQ nP nb h2
  have m3 := @tim_mono w a c Q hw ia ic iQ na nc nQ h3
  have m4 := @tim_mono w a Q d hw ia iQ id' na nQ nd h4
  have m5 := @tim_mono w b c Q hw ib ic iQ nb nc nQ h3
  have m6 := @tim_mono w b Q d hw ib iQ id' nb nQ nd h4
  have e1 : loR (fun k => rk (timW w (ptX a b k) (ptY c d k))) 4 = min (min (min (min 9218868437227405312 (rk (timW w a c))) (rk (timW w a d))) (rk (timW w b c))) (rk (timW w b d)) := rfl
  have e2 : hiR (fun k => rk (timW w (ptX a b k) (ptY c d k))) 4 = max (max (max (max (-9218868437227405312) (rk (timW w a c))) (rk (timW w a d))) (rk (timW w b c))) (rk (timW w b d)) := rfl
  rw [e1, e2]
  have hb : rk (timW w a c) ≤ 9218868437227405312 ∧ -9218868437227405312 ≤ rk (timW w a c) := ⟨(tim_bd ia ic na nc).2, (tim_bd ia ic na nc).1⟩
  have k2 := mid m3 m4
  have k4 := mid m5 m6
  have k0 := mid m1 m2
  clear m1 m2 m3 m4 m5 m6 e1 e2
  rw [c0]
  rw [← c1, ← c2] at k0
  clear c0 c1 c2
  generalize rk (timW w Q P) = t1 at *
  generalize rk (timW w a Q) = t2 at *
  generalize rk (timW w b Q) = t4 at *
  generalize rk (timW w a c) = t6 at *
  generalize rk (timW w a d) = t7 at *
  generalize rk (timW w b c) = t8 at *
  generalize rk (timW w b d) = t9 at *
  omega
end Go.Proofs
set_option linter.unusedVariables false
/-! Sums of ends keep the order. -/
namespace Go.Eng
open Go
theorem addP_inf {a c : Int} {s : Bool} (na : isNaN a = false) (nc : isNaN c = false) (ha : isInf a = true → decide (a < 0) = s) (hc : isInf c = true → decide (c < 0) = s) (h : isInf a = true ∨ isInf c = true) : addP a c = pat s 9218868437227405312 := by
  unfold addP plusP
  rw [na, nc]
  cases hia : isInf a
  · have hic : isInf c = true := by
      rcases h with h | h
      · rw [hia] at h; cases h
      · exact h
    rw [hic, hc hic]
    simp
  · rw [ha hia]
    cases hic : isInf c
    · simp
    · rw [hc hic]; simp
theorem fin_of_rk {a : Int} (ia : I64 a) (na : isNaN a = false) (h1 : -9218868437227405312 < rk a) (h2 : rk a < 9218868437227405312) : isFin a = true := by
  cases hf : isFin a
  · rcases rk_inf ia na hf with h | h <;> omega
  · rfl
end Go.Eng
namespace Go.Proofs
open Go Go.Eng
theorem rk_pz (a : Int) : rk (pz a) = rk a := by
  unfold pz
  by_cases h : a = -9223372036854775808
  · rw [if_pos h, h]; rfl
  · rw [if_neg h]
theorem nan_pz {a : Int} (na : isNaN a = false) : isNaN (pz a) = false := by
  unfold pz
  split
  · decide
  · exact na
theorem addW_inf {w a c : Int} (ia : I64 a) (ic : I64 c) (na : isNaN a = false) (nc : isNaN c = false) (h : isFin a = false ∨ isFin c = false) :
    (rk a < 9218868437227405312 → rk c < 9218868437227405312 → rk (addW w a c) = -9218868437227405312 ∧ isNaN (addW w a c) = false) ∧
    (-9218868437227405312 < rk a → -9218868437227405312 < rk c → rk (addW w a c) = 9218868437227405312 ∧ isNaN (addW w a c) = false) := by
  have hb : (isFin a && isFin c) = false := by rcases h with h | h <;> rw [h] <;> simp
  have e : addW w a c = addP a c := by
    unfold addW
    rw [if_neg (fun k => by rw [hb] at k; exact absurd k.1 (by decide)), if_pos (.inr (.inl hb))]
  have hi : isInf a = true ∨ isInf c = true := by
    rcases h with h | h
    · rcases fin_or na with ⟨f, i⟩ | ⟨f, i⟩
      · rw [f] at h; cases h
      · exact .inl i
    · rcases fin_or nc with ⟨f, i⟩ | ⟨f, i⟩
      · rw [f] at h; cases h
      · exact .inr i
  have ra : isInf a = true → rk a = 9218868437227405312 ∨ rk a = -9218868437227405312 := fun i => by
    rcases fin_or na with ⟨f, j⟩ | ⟨f, j⟩
    · rw [j] at i; cases i
    · exact rk_inf ia na f
  have rc : isInf c = true → rk c = 9218868437227405312 ∨ rk c = -9218868437227405312 := fun i => by
    rcases fin_or nc with ⟨f, j⟩ | ⟨f, j⟩
    · rw [j] at i; cases i
    · exact rk_inf ic nc f
  rw [e]
  refine ⟨fun h1 h2 => ?_, fun h1 h2 => ?_⟩
  · rw [addP_inf (s := true) na nc (fun i => by rw [lt0_rk ia na (by have := ra i; omega)]; exact decide_eq_true (by have := ra i; omega)) (fun i => by rw [lt0_rk ic nc (by have := rc i; omega)]; exact decide_eq_true (by have := rc i; omega)) hi]
    exact ⟨rfl, pat_nan (by omega)⟩
  · rw [addP_inf (s := false) na nc (fun i => by rw [lt0_rk ia na (by have := ra i; omega)]; exact decide_eq_false (by have := ra i; omega)) (fun i => by rw [lt0_rk ic nc (by have := rc i; omega)]; exact decide_eq_false (by have := rc i; omega)) hi]
    exact ⟨rfl, pat_nan (by omega)⟩
theorem addW_nn {w a c : Int} (fa : isFin a = true) (fc : isFin c = true) : isNaN (addW w a c) = false := by
  obtain ⟨a1, a2⟩ := fin_not fa
  obtain ⟨b1, b2⟩ := fin_not fc
  unfold addW
  split
  · decide
  · split
    · unfold addP plusP
      rw [a1, a2, b1, b2]
      simp only [Bool.or_self, Bool.and_false, Bool.false_and, Bool.false_eq_true, if_false]
      exact pat_nan'
    · exact dirV_nan _ _ _
theorem add_fin_mono {w a c x y : Int} (hw : w = 1 ∨ w = 2) (ia : I64 a) (ic : I64 c) (ix : I64 x) (iy : I64 y) (fa : isFin a = true) (fc : isFin c = true) (fx : isFin x = true) (fy : isFin y = true)
    (h1 : rk a ≤ rk x) (h2 : rk c ≤ rk y) : rk (addW w a c) ≤ rk (addW w x y) := by
  rw [addW_fin hw fa fc, addW_fin hw fx fy]
  obtain ⟨u1, u2⟩ := fV_rk ia ix fa fx
  obtain ⟨v1, v2⟩ := fV_rk ic iy fc fy
  exact dirV_mono _ (toNat12 hw) (by omega)
/-- The lower end of a sum. -/
theorem add_lo {a c x y : Int} (ia : I64 a) (ic : I64 c) (ix : I64 x) (iy : I64 y) (na : isNaN a = false) (nc : isNaN c = false) (fx : isFin x = true) (fy : isFin y = true) (h1 : rk a ≤ rk x) (h2 : rk c ≤ rk y) :
    isNaN (addW 1 a c) = false ∧ rk (addW 1 a c) ≤ rk (addW 1 x y) ∧ rk (addW 1 x y) < 9218868437227405312 := by
  have lx := fin_rk ix fx
  have ly := fin_rk iy fy
  have h3 : rk (addW 1 x y) < 9218868437227405312 := by
    rw [addW_fin (.inl rfl) fx fy]; exact (dirV_12 _ _).2.1
  by_cases hf : isFin a = true ∧ isFin c = true
  · exact ⟨addW_nn hf.1 hf.2, add_fin_mono (.inl rfl) ia ic ix iy hf.1 hf.2 fx fy h1 h2, h3⟩
  · have hf' : isFin a = false ∨ isFin c = false := by
      cases h : isFin a
      · exact .inl rfl
      · cases h2 : isFin c
        · exact .inr rfl
        · exact absurd ⟨h, h2⟩ hf
    obtain ⟨e1, e2⟩ := (addW_inf (w := 1) ia ic na nc hf').1 (by omega) (by omega)
    have := rk_bd (addW_I64 1 x y) (addW_nn fx fy)
    exact ⟨e2, by omega, h3⟩
/-- The upper end of a sum. -/
theorem add_hi {a c x y : Int} (ia : I64 a) (ic : I64 c) (ix : I64 x) (iy : I64 y) (na : isNaN a = false) (nc : isNaN c = false) (fx : isFin x = true) (fy : isFin y = true) (h1 : rk x ≤ rk a) (h2 : rk y ≤ rk c) :
    isNaN (addW 2 a c) = false ∧ rk (addW 2 x y) ≤ rk (addW 2 a c) ∧ -9218868437227405312 < rk (addW 2 x y) := by
  have lx := fin_rk ix fx
  have ly := fin_rk iy fy
  have h3 : -9218868437227405312 < rk (addW 2 x y) := by
    rw [addW_fin (.inr rfl) fx fy]; exact (dirV_12 _ _).2.2
  by_cases hf : isFin a = true ∧ isFin c = true
  · exact ⟨addW_nn hf.1 hf.2, add_fin_mono (.inr rfl) ix iy ia ic fx fy hf.1 hf.2 h1 h2, h3⟩
  · have hf' : isFin a = false ∨ isFin c = false := by
      cases h : isFin a
      · exact .inl rfl
      · cases h2 : isFin c
        · exact .inr rfl
        · exact absurd ⟨h, h2⟩ hf
    obtain ⟨e1, e2⟩ := (addW_inf (w := 2) ia ic na nc hf').2 (by omega) (by omega)
    have := rk_bd (addW_I64 2 x y) (addW_nn fx fy)
    exact ⟨e2, by omega, h3⟩
/-- Ends around finite ones: sums. -/
theorem add_tol {a b c d x y : Int} (ia : I64 a) (ib : I64 b) (ic : I64 c) (id' : I64 d) (ix : I64 x) (iy : I64 y) (na : isNaN a = false) (nb : isNaN b = false) (nc : isNaN c = false) (nd : isNaN d = false) (fx : isFin x = true) (fy : isFin y = true)
    (h1 : rk a ≤ rk x) (h2 : rk x ≤ rk b) (h3 : rk c ≤ rk y) (h4 : rk y ≤ rk d) :
    TolS (cnP (addW 1 a c)) (cnP (addW 2 b d)) ∧ rk (cnP (addW 1 a c)) ≤ rk (dirV 1 (fV x + fV y) (-1074)) ∧ rk (dirV 2 (fV x + fV y) (-1074)) ≤ rk (cnP (addW 2 b d)) := by
  obtain ⟨l1, l2, l3⟩ := add_lo ia ic ix iy na nc fx fy h1 h3
  obtain ⟨u1, u2, u3⟩ := add_hi ib id' ix iy nb nd fx fy h2 h4
  have e1 := addW_fin (w := 1) (.inl rfl) fx fy
  have e2 := addW_fin (w := 2) (.inr rfl) fx fy
  have m := dirV_12 (fV x + fV y) (-1074)
  rw [show (1 : Int).toNat = 1 from rfl] at e1
  rw [show (2 : Int).toNat = 2 from rfl] at e2
  have i1 := addW_I64 1 a c
  have i2 := addW_I64 2 b d
  refine ⟨TolS.mk' i1 i2 l1 u1 (by omega) (by omega) (by omega), ?_, ?_⟩
  · rw [(cn_rk i1 l1).1]; omega
  · rw [(cn_rk i2 u1).1]; omega
/-- Ends around finite ones: products. -/
theorem mul_tol {a b c d x y p q : Int} (ia : I64 a) (ib : I64 b) (ic : I64 c) (id' : I64 d) (ix : I64 x) (iy : I64 y) (na : isNaN a = false) (nb : isNaN b = false) (nc : isNaN c = false) (nd : isNaN d = false) (fx : isFin x = true) (fy : isFin y = true)
    (h1 : rk a ≤ rk x) (h2 : rk x ≤ rk b) (h3 : rk c ≤ rk y) (h4 : rk y ≤ rk d)
    (ip : I64 p) (iq : I64 q) (np : isNaN p = false) (nq : isNaN q = false) (rp : rk p = loR (fun k => rk (timW 1 (ptX a b k) (ptY c d k))) 4) (rq : rk q = hiR (fun k => rk (timW 2 (ptX a b k) (ptY c d k))) 4) :
    TolS (cnP p) (cnP q) ∧ rk (cnP p) ≤ rk (dirV 1 (fV x * fV y) (-2148)) ∧ rk (dirV 2 (fV x * fV y) (-2148)) ≤ rk (cnP q) := by
  have nx := (fin_not fx).1
  have ny := (fin_not fy).1
  obtain ⟨l, _⟩ := cor (w := 1) (.inl rfl) ia ib ic id' ix iy na nb nc nd nx ny h1 h2 h3 h4
  obtain ⟨_, u⟩ := cor (w := 2) (.inr rfl) ia ib ic id' ix iy na nb nc nd nx ny h1 h2 h3 h4
  have e1 := tim_fin (w := 1) (.inl rfl) ix iy fx fy
  have e2 := tim_fin (w := 2) (.inr rfl) ix iy fx fy
  have m := dirV_12 (fV x * fV y) (-2148)
  rw [show (1 : Int).toNat = 1 from rfl] at e1
  rw [show (2 : Int).toNat = 2 from rfl] at e2
  rw [← rp] at l
  rw [← rq] at u
  refine ⟨TolS.mk' ip iq np nq (by omega) (by omega) (by omega), ?_, ?_⟩
  · rw [(cn_rk ip np).1]; omega
  · rw [(cn_rk iq nq).1]; omega
/-- The square. -/
theorem sq_tol {a b x p q : Int} (ia : I64 a) (ib : I64 b) (ix : I64 x) (na : isNaN a = false) (nb : isNaN b = false) (fx : isFin x = true)
    (h1 : rk a ≤ rk x) (h2 : rk x ≤ rk b)
    (ip : I64 p) (iq : I64 q) (np : isNaN p = false) (nq : isNaN q = false) (rp : rk p = (if rk a ≤ 0 ∧ 0 ≤ rk b then 0 else min (rk (timW 1 a a)) (rk (timW 1 b b)))) (rq : rk q = max (rk (timW 2 a a)) (rk (timW 2 b b))) :
    TolS (cnP p) (cnP q) ∧ rk (cnP p) ≤ rk (dirV 1 (fV x * fV x) (-2148)) ∧ rk (dirV 2 (fV x * fV x) (-2148)) ≤ rk (cnP q) := by
  have nx := (fin_not fx).1
  have m := dirV_12 (fV x * fV x) (-2148)
  have h0 : 0 ≤ rk (dirV 1 (fV x * fV x) (-2148)) := by
    have := dirV_mono (w := 1) (-2148) (.inl rfl) (v := 0) (v' := fV x * fV x) (by
      rcases Int.le_total 0 (fV x) with h | h
      · exact Int.mul_nonneg h h
      · have := Int.mul_nonneg (Int.neg_nonneg_of_nonpos h) (Int.neg_nonneg_of_nonpos h); rw [Int.neg_mul_neg] at this; exact this)
    rw [dirV_zero] at this; exact this
  have e1 := tim_fin (w := 1) (.inl rfl) ix ix fx fx
  have e2 := tim_fin (w := 2) (.inr rfl) ix ix fx fx
  rw [show (1 : Int).toNat = 1 from rfl] at e1
  rw [show (2 : Int).toNat = 2 from rfl] at e2
  have c1 := fun w (hw : w = 1 ∨ w = 2) => @tim_comm w a x hw ia ix na nx
  have c2 := fun w (hw : w = 1 ∨ w = 2) => @tim_comm w b x hw ib ix nb nx
  have l : rk p ≤ rk (timW 1 x x) := by
    rw [rp]
    split
    · omega
    · rename_i hn
      rcases Int.lt_or_le 0 (rk a) with ha | ha
      · have q1 := (@tim_mono 1 a a x (.inl rfl) ia ia ix na na nx h1).1 (by omega)
        have q2 := (@tim_mono 1 x a x (.inl rfl) ix ia ix nx na nx h1).1 (by omega)
        have q3 := c1 1 (.inl rfl)
        clear rp rq m e1 e2 h0 c1 c2
        omega
      · have q1 := (@tim_mono 1 b x b (.inl rfl) ib ix ib nb nx nb h2).2 (by omega)
        have q2 := (@tim_mono 1 x x b (.inl rfl) ix ix ib nx nx nb h2).2 (by omega)
        have q3 := c2 1 (.inl rfl)
        clear rp rq m e1 e2 h0 c1 c2
        omega
  have u : rk (timW 2 x x) ≤ rk q := by
    rw [rq]
    rcases Int.le_total 0 (rk x) with hx | hx
    · have q1 := (@tim_mono 2 x x b (.inr rfl) ix ix ib nx nx nb h2).1 (by omega)
      have q2 := (@tim_mono 2 b x b (.inr rfl) ib ix ib nb nx nb h2).1 (by omega)
      have q3 := c2 2 (.inr rfl)
      clear rp rq m e1 e2 h0 c1 c2
      omega
    · have q1 := (@tim_mono 2 x a x (.inr rfl) ix ia ix nx na nx h1).2 (by omega)
      have q2 := (@tim_mono 2 a a x (.inr rfl) ia ia ix na na nx h1).2 (by omega)
      have q3 := c1 2 (.inr rfl)
      clear rp rq m e1 e2 h0 c1 c2
      omega
  clear rp rq c1 c2 h0
  refine ⟨TolS.mk' ip iq np nq (by omega) (by omega) (by omega), ?_, ?_⟩
  · rw [(cn_rk ip np).1]; omega
  · rw [(cn_rk iq nq).1]; omega
end Go.Proofs
set_option linter.unusedVariables false
/-! What is told of single floats; what an exact number lies in. -/
namespace Go.Eng
open Go
/-- What is told of a float: one that is no nought below 0. -/
structure PtS (A a : Int) : Prop where
  i : I64 A
  n : isNaN A = false
  z : A ≠ -9223372036854775808
  r : rk A = rk a
theorem PtS.fin {A a : Int} (P : PtS A a) (ia : I64 a) (fa : isFin a = true) : isFin A = true :=
  fin_of_rk P.i P.n (by rw [P.r]; exact (fin_rk ia fa).1) (by rw [P.r]; exact (fin_rk ia fa).2)
theorem PtS.val {A a : Int} (P : PtS A a) (ia : I64 a) (fa : isFin a = true) : fV A = fV a := (fV_rk P.i ia (P.fin ia fa) fa).2.2 P.r
theorem PtS.of {x a : Int} (ix : I64 x) (nx : isNaN x = false) (h : rk x = rk a) : PtS (cnP x) a := by
  obtain ⟨h1, h2, h3⟩ := cn_rk ix nx
  exact ⟨h3, h2, cn_nz ix nx, by rw [h1, h]⟩
theorem PtS.uniq {A C a : Int} (P : PtS A a) (Q : PtS C a) : A = C := rk_inj P.i Q.i P.z Q.z (by rw [P.r, Q.r])
end Go.Eng
namespace Go.Proofs
open Go Go.Eng
/-- Around of a float's own value. -/
theorem around_pt {w : Nat} {a : Int} (hw : w = 1 ∨ w = 2) (ia : I64 a) (fa : isFin a = true) : PtS (cnP (pz (dirV w (fV a) (-((1074 : Nat) : Int))))) a :=
  PtS.of (pz_I64 (dirV_I64 _ _ _)) (nan_pz (dirV_nan _ _ _)) (by rw [rk_pz]; exact rk_self hw ia fa)
theorem add_pt {w A C a c : Int} (hw : w = 1 ∨ w = 2) (P : PtS A a) (Q : PtS C c) (ia : I64 a) (ic : I64 c) (fa : isFin a = true) (fc : isFin c = true) : rk (cnP (addW w A C)) = rk (dirV w.toNat (fV a + fV c) (-1074)) := by
  rw [(cn_rk (addW_I64 w A C) (addW_nn (P.fin ia fa) (Q.fin ic fc))).1, addW_fin hw (P.fin ia fa) (Q.fin ic fc), P.val ia fa, Q.val ic fc]
theorem lo_same {t : Int} (h : t ≤ 9218868437227405312) : loR (fun _ => t) 4 = t := by
  show min (min (min (min 9218868437227405312 t) t) t) t = t
  omega
theorem hi_same {t : Int} (h : -9218868437227405312 ≤ t) : hiR (fun _ => t) 4 = t := by
  show max (max (max (max (-9218868437227405312) t) t) t) t = t
  omega
theorem pt_eq {A : Int} (k : Nat) : ptX A A k = A ∧ ptY A A k = A := by
  unfold ptX ptY
  constructor <;> split <;> rfl
theorem mul_pt {w A C a c p : Int} (hw : w = 1 ∨ w = 2) (P : PtS A a) (Q : PtS C c) (ia : I64 a) (ic : I64 c) (fa : isFin a = true) (fc : isFin c = true) (ip : I64 p) (np : isNaN p = false)
    (rp : rk p = loR (fun k => rk (timW w (ptX A A k) (ptY C C k))) 4 ∨ rk p = hiR (fun k => rk (timW w (ptX A A k) (ptY C C k))) 4) : rk (cnP p) = rk (dirV w.toNat (fV a * fV c) (-2148)) := by
  have e : (fun k => rk (timW w (ptX A A k) (ptY C C k))) = fun _ => rk (timW w A C) := by
    funext k; rw [(pt_eq k).1, (pt_eq k).2]
  have b := @tim_bd w A C P.i Q.i P.n Q.n
  rw [e, lo_same b.2, hi_same b.1, or_self] at rp
  rw [(cn_rk ip np).1, rp, tim_fin hw P.i Q.i (P.fin ia fa) (Q.fin ic fc), P.val ia fa, Q.val ic fc]
theorem sq_lo_pt {A a p : Int} (P : PtS A a) (ia : I64 a) (fa : isFin a = true) (ip : I64 p) (np : isNaN p = false)
    (rp : rk p = (if rk A ≤ 0 ∧ 0 ≤ rk A then 0 else min (rk (timW 1 A A)) (rk (timW 1 A A)))) : rk (cnP p) = rk (dirV 1 (fV a * fV a) (-2148)) := by
  rw [(cn_rk ip np).1, rp]
  have t := tim_fin (w := 1) (.inl rfl) P.i P.i (P.fin ia fa) (P.fin ia fa)
  rw [P.val ia fa, show (1 : Int).toNat = 1 from rfl] at t
  split
  · rename_i h
    rw [← t, tim_zero P.i P.i P.n P.n (.inl (by omega))]
  · rw [t]; omega
theorem sq_hi_pt {A a p : Int} (P : PtS A a) (ia : I64 a) (fa : isFin a = true) (ip : I64 p) (np : isNaN p = false)
    (rp : rk p = max (rk (timW 2 A A)) (rk (timW 2 A A))) : rk (cnP p) = rk (dirV 2 (fV a * fV a) (-2148)) := by
  rw [(cn_rk ip np).1, rp]
  have t := tim_fin (w := 2) (.inr rfl) P.i P.i (P.fin ia fa) (P.fin ia fa)
  rw [P.val ia fa, show (2 : Int).toNat = 2 from rfl] at t
  rw [t]; omega
end Go.Proofs
