import Derived.Test.YtpkdpdpobddnpaaGreatFmtA39
/- Here stand lemmas: sums and products of ends. -/
set_option linter.unusedVariables false
set_option linter.unusedVariables false
/-! What is told of a number lies on its side of it. -/
namespace Go.Eng
open Go
theorem magK_form {L q : Nat} (h1 : q <= 9007199254740992) (h2 : L = 0 \/ 4503599627370496 <= q) : magK (L * 4503599627370496 + q) = q * 2 ^ L := by
 unfold magK
 by_cases hq : q < 4503599627370496
 ·have hL : L = 0 := by omega
  subst hL
  rw [show (0 * 4503599627370496 + q) / 4503599627370496 = 0 by omega, if_pos rfl, Nat.pow_zero]
  omega
 ·by_cases hq2 : q = 9007199254740992
  ·subst hq2
   rw [show (L * 4503599627370496 + 9007199254740992) / 4503599627370496 = L + 2 by omega, show (L * 4503599627370496 + 9007199254740992) % 4503599627370496 = 0 by omega, if_neg (by omega), show L + 2 - 1 = L + 1 by omega, Nat.pow_succ]
   generalize 2 ^ L = p
   omega
  ·rw [show (L * 4503599627370496 + q) / 4503599627370496 = L + 1 by omega, show (L * 4503599627370496 + q) % 4503599627370496 = q - 4503599627370496 by omega, if_neg (by omega), show L + 1 - 1 = L by omega, show 4503599627370496 + (q - 4503599627370496) = q by omega]
theorem flo_val {m K : Nat} (hK : 1074 <= K) (hm : m ≠ 0) : magK (flo m (-(K : Int))) * 2 ^ (K - 1074) <= m /\ m < magK (flo m (-(K : Int)) + 1) * 2 ^ (K - 1074) /\ odd m (-(K : Int)) = decide (magK (flo m (-(K : Int))) * 2 ^ (K - 1074) ≠ m) := by
 obtain ⟨b1, b2⟩ := cut_bd (-(K : Int)) hm
 have hl := lastP_ge m (-(K : Int))
 have hX : cutX m (-(K : Int)) = m := by unfold cutX; rw [show (-(K : Int) - lastP m (-(K : Int))).toNat = 0 by omega, Nat.pow_zero, Nat.mul_one]
 have hD : cutD m (-(K : Int)) = (lastP m (-(K : Int)) + 1074).toNat + (K - 1074) := by unfold cutD; omega
 have p : 0 < 2 ^ cutD m (-(K : Int)) := Nat.pow_pos (by decide)
 have q1 : cutX m (-(K : Int)) / 2 ^ cutD m (-(K : Int)) < 9007199254740992 := by
  rw [Nat.div_lt_iff_lt_mul p, show (9007199254740992 : Nat) = 2 ^ 53 by decide, <- Nat.pow_add]; exact b1
 have q2 : (lastP m (-(K : Int)) + 1074).toNat = 0 \/ 4503599627370496 <= cutX m (-(K : Int)) / 2 ^ cutD m (-(K : Int)) := by
  by_cases h : lastP m (-(K : Int)) = -1074
  ·left; omega
  ·right
   rw [Nat.le_div_iff_mul_le p, show (4503599627370496 : Nat) = 2 ^ 52 by decide, <- Nat.pow_add]; exact b2 h
 have e1 : magK (flo m (-(K : Int))) = cutX m (-(K : Int)) / 2 ^ cutD m (-(K : Int)) * 2 ^ (lastP m (-(K : Int)) + 1074).toNat := magK_form (by omega) q2
 have e2 : magK (flo m (-(K : Int)) + 1) = (cutX m (-(K : Int)) / 2 ^ cutD m (-(K : Int)) + 1) * 2 ^ (lastP m (-(K : Int)) + 1074).toNat := by
  unfold flo; rw [Nat.add_assoc]; exact magK_form (by omega) (by omega)
 rw [e1, e2, Nat.mul_assoc, Nat.mul_assoc, <- Nat.pow_add, <- hD]
 unfold odd
 rw [hX]
 generalize 2 ^ cutD m (-(K : Int)) = d at *
 have dm := Nat.div_add_mod m d
 have ml := Nat.mod_lt m p
 rw [Nat.add_mul, Nat.one_mul, Nat.mul_comm (m / d) d]
 refine ⟨by omega, by omega, ?_⟩
 rw [decide_eq_decide]; omega
theorem dirP_tow (m : Nat) (e : Int) : dirP 1 false m e = min (flo m e) (INF - 1) /\ dirP 2 true m e = min (flo m e) (INF - 1) := by
 have hI : 0 < INF := by decide
 unfold dirP idxW awayW topW
 generalize INF = J at *
 constructor <;> (simp only [Bool.false_and, Bool.not_true, Bool.toNat_false, Nat.add_zero, Bool.false_eq_true, if_false]; split <;> omega)
theorem dirP_awy (m : Nat) (e : Int) : dirP 1 true m e = min (flo m e + (odd m e).toNat) INF /\ dirP 2 false m e = min (flo m e + (odd m e).toNat) INF := by
 have hI : 0 < INF := by decide
 unfold dirP idxW awayW topW
 generalize INF = J at *
 constructor <;> (simp only [Bool.true_and, Bool.not_false, if_true]; split <;> omega)
theorem fin_pat {s : Bool} {k : Nat} (hk : k <= 9218868437227405312) (h : isFin (pat s k) = true) : k < 9218868437227405312 := by
 unfold isFin at h
 rw [pat_fE s (by omega), decide_eq_true_eq] at h
 omega
theorem inf_lit : INF = 9218868437227405312 := rfl
theorem flo_self {k : Nat} (h0 : 0 < k) : flo (magK k) (-1074) = k /\ odd (magK k) (-1074) = false := by
 have hm : magK k ≠ 0 := by have := magK_lt h0; omega
 obtain ⟨h1, h2, h3⟩ := flo_val (K := 1074) (Nat.le_refl _) hm
 have e : -(((1074 : Nat)) : Int) = -1074 := rfl
 rw [e] at h1 h2 h3
 rw [Nat.sub_self, Nat.pow_zero, Nat.mul_one] at h1 h2 h3
 have hk : flo (magK k) (-1074) = k := by
  rcases Nat.lt_trichotomy (flo (magK k) (-1074)) k with h | h | h
  ·have : magK (flo (magK k) (-1074) + 1) <= magK k := by
    rcases Nat.lt_or_ge (flo (magK k) (-1074) + 1) k with h4 | h4
    ·exact Nat.le_of_lt (magK_lt h4)
    ·rw [show flo (magK k) (-1074) + 1 = k by omega]; exact Nat.le_refl _
   omega
  ·exact h
  ·have := magK_lt h; omega
 refine ⟨hk, ?_⟩
 rw [h3, hk]
 exact decide_eq_false fun x => x rfl
theorem rk_self {w : Nat} {a : Int} (hw : w = 1 \/ w = 2) (ia : I64 a) (fa : isFin a = true) : rk (dirV w (fV a) (-1074)) = rk a := by
 have hI := inf_lit
 obtain ⟨s, k, hk, rfl⟩ := as_pat ia (fin_not fa).1
 have hk := fin_pat hk fa
 rw [rk_dirV, fV_mag hk, rk_pat (by omega)]
 by_cases h0 : k = 0
 ·subst h0
  rw [magK_zero]
  cases s <;> rfl
 ·have hm := magK_lt (show 0 < k by omega)
  rw [magK_zero] at hm
  obtain ⟨f1, f2⟩ := flo_self (show 0 < k by omega)
  obtain ⟨a1, a2⟩ := dirP_tow (magK k) (-1074)
  obtain ⟨b1, b2⟩ := dirP_awy (magK k) (-1074)
  rw [f1] at a1 a2
  rw [f1, f2, show false.toNat = 0 from rfl] at b1 b2
  cases s
  ·simp only [Bool.false_eq_true, if_false]
   rw [if_neg (by omega), if_neg (by omega), Int.natAbs_natCast]
   rcases hw with rfl | rfl
   ·rw [a1]; omega
   ·rw [b2]; omega
  ·simp only [if_true]
   rw [if_neg (by omega), if_pos (by omega), Int.natAbs_neg, Int.natAbs_natCast]
   rcases hw with rfl | rfl
   ·rw [b1]; omega
   ·rw [a2]; omega
end Go.Eng
set_option linter.unusedVariables false
/-! Products of ends keep the order. -/
namespace Go.Eng
open Go
theorem rk0_cls {a : Int} (ia : I64 a) (na : isNaN a = false) : cls a = 0 ↔ rk a = 0 := by
 obtain ⟨s, k, hk, rfl⟩ := as_pat ia na
 rw [cls_zero hk, rk_pat (by omega)]
 cases s <;> simp only [Bool.false_eq_true, if_false, if_true] <;> omega
theorem fin_rk {a : Int} (ia : I64 a) (fa : isFin a = true) : -9218868437227405312 < rk a /\ rk a < 9218868437227405312 := by
 obtain ⟨s, k, hk, rfl⟩ := as_pat ia (fin_not fa).1
 have hk := fin_pat hk fa
 rw [rk_pat (by omega)]
 cases s <;> simp only [Bool.false_eq_true, if_false, if_true] <;> omega
theorem sgn_rk {a : Int} (ia : I64 a) (fa : isFin a = true) : (0 < fV a ↔ 0 < rk a) /\ (fV a < 0 ↔ rk a < 0) /\ (fV a = 0 ↔ rk a = 0) := by
 have i0 : I64 0 := by unfold I64; omega
 have f0 : isFin 0 = true := by decide
 obtain ⟨h1, h2⟩ := fV_rk ia i0 fa f0
 obtain ⟨h3, _⟩ := fV_rk i0 ia f0 fa
 rw [show fV 0 = 0 by decide, show rk 0 = 0 by decide] at h1 h2 h3
 exact ⟨h3, h1, h2⟩
theorem lt0_rk {a : Int} (ia : I64 a) (na : isNaN a = false) (h0 : rk a ≠ 0) : decide (a < 0) = decide (rk a < 0) := by
 obtain ⟨s, k, hk, rfl⟩ := as_pat ia na
 rw [pat_neg s (by omega)]
 rw [rk_pat (by omega)] at h0 ⊢
 cases s
 ·simp only [Bool.false_eq_true, if_false] at h0 ⊢; rw [decide_eq_false (by omega)]
 ·simp only [if_true] at h0 ⊢; rw [decide_eq_true (by omega)]
end Go.Eng
namespace Go.Proofs
open Go Go.Eng
theorem tim_zero {w x y : Int} (ix : I64 x) (iy : I64 y) (nx : isNaN x = false) (ny : isNaN y = false) (h : rk x = 0 \/ rk y = 0) : rk (timW w x y) = 0 := by
 unfold timW
 rw [if_pos (h.imp (rk0_cls ix nx).2 (rk0_cls iy ny).2)]; rfl
theorem tim_fin {w x y : Int} (hw : w = 1 \/ w = 2) (ix : I64 x) (iy : I64 y) (fx : isFin x = true) (fy : isFin y = true) : rk (timW w x y) = rk (dirV w.toNat (fV x * fV y) (-2148)) := by
 unfold timW
 split
 ·rename_i h
  have : fV x * fV y = 0 := by
   rcases h with h | h
   ·rw [(fV_cls0 ix fx).2 h, Int.zero_mul]
   ·rw [(fV_cls0 iy fy).2 h, Int.mul_zero]
  rw [this, dirV_zero]
 ·rename_i h
  unfold mulW
  rw [if_neg]
  rintro (h1 | h1 | h1)
  ·omega
  ·rw [fx, fy] at h1; cases h1
  ·rcases Int.mul_eq_zero.1 h1 with h1 | h1
   ·exact h (.inl ((fV_cls0 ix fx).1 h1))
   ·exact h (.inr ((fV_cls0 iy fy).1 h1))
theorem zr_of {a : Int} (ia : I64 a) (na : isNaN a = false) (h : rk a ≠ 0) : zr (isNaN a) (isInf a) (fW a) = false := by
 unfold zr
 rcases fin_or na with ⟨f, i⟩ | ⟨f, i⟩
 ·have : fW a ≠ 0 := by
   unfold fW; rw [if_pos f]
   exact fun e => h ((rk0_cls ia na).1 ((fV_cls0 ia f).1 e))
  rw [decide_eq_false this]; simp
 ·rw [i]; simp
theorem tim_inf {w x y : Int} (ix : I64 x) (iy : I64 y) (nx : isNaN x = false) (ny : isNaN y = false) (h : isFin x = false \/ isFin y = false) :
  (0 < rk x -> 0 < rk y -> rk (timW w x y) = 9218868437227405312) /\ (rk x < 0 -> rk y < 0 -> rk (timW w x y) = 9218868437227405312) /\
  (0 < rk x -> rk y < 0 -> rk (timW w x y) = -9218868437227405312) /\ (rk x < 0 -> 0 < rk y -> rk (timW w x y) = -9218868437227405312) := by
 have key : rk x ≠ 0 -> rk y ≠ 0 -> timW w x y = pat (decide (rk x < 0) ^^ decide (rk y < 0)) 9218868437227405312 := fun hx hy => by
  unfold timW
  rw [if_neg (fun k => k.elim (fun k => hx ((rk0_cls ix nx).1 k)) fun k => hy ((rk0_cls iy ny).1 k))]
  unfold mulW
  have hb : (isFin x && isFin y) = false := by rcases h with h | h <;> rw [h] <;> simp
  rw [if_pos (.inr (.inl hb))]
  unfold mulP timesP
  rw [zr_of ix nx hx, zr_of iy ny hy, nx, ny, lt0_rk ix nx hx, lt0_rk iy ny hy]
  have hi : (isInf x || isInf y) = true := by
   rcases h with h | h
   ·rcases fin_or nx with ⟨f, i⟩ | ⟨f, i⟩
    ·rw [f] at h; cases h
    ·rw [i]; rfl
   ·rcases fin_or ny with ⟨f, i⟩ | ⟨f, i⟩
    ·rw [f] at h; cases h
    ·rw [i]; simp
  simp only [Bool.or_self, Bool.and_false, Bool.false_eq_true, if_false]
  rw [if_pos hi]
 refine ⟨fun h1 h2 => ?_, fun h1 h2 => ?_, fun h1 h2 => ?_, fun h1 h2 => ?_⟩ <;> rw [key (by omega) (by omega), rk_pat (by omega)]
 ·rw [decide_eq_false (by omega : ¬ rk x < 0), decide_eq_false (by omega : ¬ rk y < 0)]; rfl
 ·rw [decide_eq_true h1, decide_eq_true h2]; rfl
 ·rw [decide_eq_false (by omega : ¬ rk x < 0), decide_eq_true h2]; rfl
 ·rw [decide_eq_true h1, decide_eq_false (by omega : ¬ rk y < 0)]; rfl
theorem mid {r s t u : Int} (m : (0 <= r -> s <= u) /\ (r <= 0 -> u <= s)) (n : (0 <= r -> u <= t) /\ (r <= 0 -> t <= u)) : min s t <= u /\ u <= max s t := by
 rcases Int.le_total 0 r with h | h
 ·have := m.1 h; have := n.1 h; omega
 ·have := m.2 h; have := n.2 h; omega
end Go.Proofs
set_option linter.unusedVariables false
/-! Sums of ends keep the order. -/
namespace Go.Eng
open Go
theorem addP_inf {a c : Int} {s : Bool} (na : isNaN a = false) (nc : isNaN c = false) (ha : isInf a = true -> decide (a < 0) = s) (hc : isInf c = true -> decide (c < 0) = s) (h : isInf a = true \/ isInf c = true) : addP a c = pat s 9218868437227405312 := by
 unfold addP plusP
 rw [na, nc]
 cases hia : isInf a
 ·have hic : isInf c = true := by
   rcases h with h | h
   ·rw [hia] at h; cases h
   ·exact h
  rw [hic, hc hic]
  simp
 ·rw [ha hia]
  cases hic : isInf c
  ·simp
  ·rw [hc hic]; simp
theorem fin_of_rk {a : Int} (ia : I64 a) (na : isNaN a = false) (h1 : -9218868437227405312 < rk a) (h2 : rk a < 9218868437227405312) : isFin a = true := by
 cases hf : isFin a
 ·rcases rk_inf ia na hf with h | h <;> omega
 ·rfl
end Go.Eng
namespace Go.Proofs
open Go Go.Eng
theorem rk_pz (a : Int) : rk (pz a) = rk a := by
 unfold pz
 by_cases h : a = -9223372036854775808
 ·rw [if_pos h, h]; rfl
 ·rw [if_neg h]
theorem nan_pz {a : Int} (na : isNaN a = false) : isNaN (pz a) = false := by
 unfold pz
 split
 ·decide
 ·exact na
theorem addW_inf {w a c : Int} (ia : I64 a) (ic : I64 c) (na : isNaN a = false) (nc : isNaN c = false) (h : isFin a = false \/ isFin c = false) :
  (rk a < 9218868437227405312 -> rk c < 9218868437227405312 -> rk (addW w a c) = -9218868437227405312 /\ isNaN (addW w a c) = false) /\
  (-9218868437227405312 < rk a -> -9218868437227405312 < rk c -> rk (addW w a c) = 9218868437227405312 /\ isNaN (addW w a c) = false) := by
 have hb : (isFin a && isFin c) = false := by rcases h with h | h <;> rw [h] <;> simp
 have e : addW w a c = addP a c := by
  unfold addW
  rw [if_neg (fun k => by rw [hb] at k; exact absurd k.1 (by decide)), if_pos (.inr (.inl hb))]
 have hi : isInf a = true \/ isInf c = true := by
  rcases h with h | h
  ·rcases fin_or na with ⟨f, i⟩ | ⟨f, i⟩
   ·rw [f] at h; cases h
   ·exact .inl i
  ·rcases fin_or nc with ⟨f, i⟩ | ⟨f, i⟩
   ·rw [f] at h; cases h
   ·exact .inr i
 have ra : isInf a = true -> rk a = 9218868437227405312 \/ rk a = -9218868437227405312 := fun i => by
  rcases fin_or na with ⟨f, j⟩ | ⟨f, j⟩
  ·rw [j] at i; cases i
  ·exact rk_inf ia na f
 have rc : isInf c = true -> rk c = 9218868437227405312 \/ rk c = -9218868437227405312 := fun i => by
  rcases fin_or nc with ⟨f, j⟩ | ⟨f, j⟩
  ·rw [j] at i; cases i
  ·exact rk_inf ic nc f
 rw [e]
 refine ⟨fun h1 h2 => ?_, fun h1 h2 => ?_⟩
 ·rw [addP_inf (s := true) na nc (fun i => by rw [lt0_rk ia na (by have := ra i; omega)]; exact decide_eq_true (by have := ra i; omega)) (fun i => by rw [lt0_rk ic nc (by have := rc i; omega)]; exact decide_eq_true (by have := rc i; omega)) hi]
  exact ⟨rfl, pat_nan (by omega)⟩
 ·rw [addP_inf (s := false) na nc (fun i => by rw [lt0_rk ia na (by have := ra i; omega)]; exact decide_eq_false (by have := ra i; omega)) (fun i => by rw [lt0_rk ic nc (by have := rc i; omega)]; exact decide_eq_false (by have := rc i; omega)) hi]
  exact ⟨rfl, pat_nan (by omega)⟩
theorem addW_nn {w a c : Int} (fa : isFin a = true) (fc : isFin c = true) : isNaN (addW w a c) = false := by
 obtain ⟨a1, a2⟩ := fin_not fa
 obtain ⟨b1, b2⟩ := fin_not fc
 unfold addW
 split
 ·decide
 ·split
  ·unfold addP plusP
   rw [a1, a2, b1, b2]
   simp only [Bool.or_self, Bool.and_false, Bool.false_and, Bool.false_eq_true, if_false]
   exact pat_nan'
  ·exact dirV_nan _ _ _
end Go.Proofs
