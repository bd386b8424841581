import Derived.Test.YtpnfpefcjeafbaaGreatFmtA37
import Derived.Test.YtpnfpefcjeafbaaGreatFmtA09
import Derived.Test.YtpnfpefcjeafbaaGreatFmtA26
import Derived.Test.YtpnfpefcjeafbaaGreatFmtA32
import Derived.WalkKit
import Derived.Test.YtpnfpefcjeafbaaGreatFmtA12
/- Here stand lemmas and contracts, in the order in which they are used. -/
set_option linter.unusedVariables false
set_option linter.unusedVariables false
/-! The order of floats is that of their ranks. -/
namespace Go.Eng
open Go
/-- A rank's magnitude, in units of 2^-1074. -/
def magK (k : Nat) : Nat := if k / 4503599627370496 = 0 then k % 4503599627370496 else (4503599627370496 + k % 4503599627370496) * 2 ^ (k / 4503599627370496 - 1)
theorem magK_step (k : Nat) : magK k < magK (k + 1) := by
  unfold magK
  by_cases h : k % 4503599627370496 + 1 < 4503599627370496
  · rw [show (k + 1) / 4503599627370496 = k / 4503599627370496 by omega, show (k + 1) % 4503599627370496 = k % 4503599627370496 + 1 by omega]
    split
    · omega
    · exact Nat.mul_lt_mul_of_pos_right (by omega) (Nat.pow_pos (by decide))
  · have e1 : (k + 1) / 4503599627370496 = k / 4503599627370496 + 1 := by omega
    have e2 : (k + 1) % 4503599627370496 = 0 := by omega
    have e3 : k % 4503599627370496 = 4503599627370495 := by omega
    rw [e1, e2, e3, if_neg (show ¬ k / 4503599627370496 + 1 = 0 by omega)]
    by_cases h0 : k / 4503599627370496 = 0
    · rw [if_pos h0, h0]; decide
    · rw [if_neg h0]
      obtain ⟨E, hE⟩ : ∃ E, k / 4503599627370496 = E + 1 := ⟨k / 4503599627370496 - 1, by omega⟩
      rw [hE, show E + 1 - 1 = E by omega, show E + 1 + 1 - 1 = E + 1 by omega, Nat.pow_succ]
      have : 0 < 2 ^ E := Nat.pow_pos (by decide)
      generalize 2 ^ E = p at *
      omega
theorem magK_lt {k j : Nat} (h : k < j) : magK k < magK j := by
  obtain ⟨d, rfl⟩ : ∃ d, j = k + 1 + d := ⟨j - (k + 1), by omega⟩
  clear h
  induction d with
  | zero => exact magK_step k
  | succ d ih => exact Nat.lt_trans ih (magK_step (k + 1 + d))
theorem magK_zero : magK 0 = 0 := rfl
theorem fV_mag {ng : Bool} {k : Nat} (hk : k < 9218868437227405312) : fV (pat ng k) = if ng then -(magK k : Int) else (magK k : Int) := by
  unfold fV
  rw [pat_neg ng (by omega)]
  have e : fM (pat ng k) * 2 ^ (fX (pat ng k) + 1074).toNat = magK k := by
    unfold fM fX magK
    rw [pat_fE ng (by omega), pat_fT ng (by omega)]
    by_cases h : k / 4503599627370496 = 0
    · rw [if_pos h, if_pos h, if_pos h]
      show _ * 2 ^ 0 = _
      rw [Nat.pow_zero, Nat.mul_one]
    · rw [if_neg h, if_neg h, if_neg h, show ((k / 4503599627370496 : Nat) : Int) - 1075 + 1074 = ((k / 4503599627370496 - 1 : Nat) : Int) by omega, Int.toNat_natCast]
  unfold Ieee.signed
  rw [Nat.shiftLeft_eq, e]
/-- A pattern's rank. -/
def rk (a : Int) : Int := if a < 0 then -(a + 9223372036854775808) else a
theorem rk_pat {ng : Bool} {k : Nat} (hk : k < 9223372036854775808) : rk (pat ng k) = if ng then -(k : Int) else (k : Int) := by
  unfold rk pat
  cases ng
  · simp only [Bool.false_eq_true, if_false]; rw [if_neg (by omega)]
  · simp only [if_true]; rw [if_pos (by omega)]; omega
/-- What is no NaN is a sign and a rank. -/
theorem as_pat {a : Int} (ha : I64 a) (hn : isNaN a = false) : ∃ ng k, k ≤ 9218868437227405312 ∧ a = pat ng k := by
  unfold I64 at ha
  unfold isNaN fE fT at hn
  refine ⟨decide (a < 0), (if a < 0 then a + 9223372036854775808 else a).toNat, ?_, ?_⟩
  · rw [Bool.and_eq_false_iff, decide_eq_false_iff_not, Bool.not_eq_false', decide_eq_true_eq] at hn
    split <;> omega
  · unfold pat
    by_cases h : a < 0
    · simp only [decide_eq_true h, if_true, if_pos h]; omega
    · simp only [decide_eq_false h, Bool.false_eq_true, if_false, if_neg h]; omega
theorem cmp_iff {a b c d : Int} (h1 : a < b ↔ c < d) (h2 : a = b ↔ c = d) : compareOfLessAndEq a b = compareOfLessAndEq c d := by
  unfold compareOfLessAndEq
  by_cases x : a < b
  · rw [if_pos x, if_pos (h1.1 x)]
  · rw [if_neg x, if_neg fun y => x (h1.2 y)]
    by_cases z : a = b
    · rw [if_pos z, if_pos (h2.1 z)]
    · rw [if_neg z, if_neg fun y => z (h2.2 y)]
theorem mag_sgn {ng mg : Bool} {k j : Nat} : ((if ng then -(magK k : Int) else (magK k : Int)) < (if mg then -(magK j : Int) else (magK j : Int)) ↔ (if ng then -(k : Int) else (k : Int)) < (if mg then -(j : Int) else (j : Int))) ∧
    ((if ng then -(magK k : Int) else (magK k : Int)) = (if mg then -(magK j : Int) else (magK j : Int)) ↔ (if ng then -(k : Int) else (k : Int)) = (if mg then -(j : Int) else (j : Int))) := by
  have h1 := @magK_lt k j
  have h2 := @magK_lt j k
  have h3 := @magK_lt 0 k
  have h4 := @magK_lt 0 j
  have h5 : k = j → magK k = magK j := fun e => by rw [e]
  rw [magK_zero] at h3 h4
  have h6 : k = 0 → magK k = 0 := fun e => by rw [e, magK_zero]
  have h7 : j = 0 → magK j = 0 := fun e => by rw [e, magK_zero]
  generalize magK k = x at *
  generalize magK j = y at *
  cases ng <;> cases mg <;> simp only [Bool.false_eq_true, if_false, if_true] <;> omega
theorem fV_rk {a b : Int} (ha : I64 a) (hb : I64 b) (fa : isFin a = true) (fb : isFin b = true) : (fV a < fV b ↔ rk a < rk b) ∧ (fV a = fV b ↔ rk a = rk b) := by
  have na : isNaN a = false := (fin_not fa).1
  have nb : isNaN b = false := (fin_not fb).1
  obtain ⟨s, k, hk, rfl⟩ := as_pat ha na
  obtain ⟨t, j, hj, rfl⟩ := as_pat hb nb
  have lk : k < 9218868437227405312 := by
    unfold isFin at fa
    rw [pat_fE s (by omega), decide_eq_true_eq] at fa
    omega
  have lj : j < 9218868437227405312 := by
    unfold isFin at fb
    rw [pat_fE t (by omega), decide_eq_true_eq] at fb
    omega
  rw [fV_mag lk, fV_mag lj, rk_pat (by omega), rk_pat (by omega)]
  exact mag_sgn
theorem order_rk {a b : Int} (ha : I64 a) (hb : I64 b) (na : isNaN a = false) (nb : isNaN b = false) : FloatKind.f64.format.order (wd a) (wd b) = some (compareOfLessAndEq (rk a) (rk b)) := by
  have e0 : ∀ x y, FloatKind.f64.format.order x y = (Ieee.double.read x).order (Ieee.double.read y) := fun _ _ => rfl
  obtain ⟨s, k, hk, ea⟩ := as_pat ha na
  obtain ⟨t, j, hj, eb⟩ := as_pat hb nb
  by_cases h1 : k = 9218868437227405312
  · subst h1
    rw [ea, eb, rk_pat (by omega), rk_pat (by omega), wd_pat (by omega), wd_pat (by omega), e0, rd_inf]
    by_cases h2 : j = 9218868437227405312
    · subst h2
      rw [rd_inf]
      cases s <;> cases t <;> decide
    · rw [rd_num (by omega)]
      show some (if s then Ordering.lt else .gt) = _
      unfold compareOfLessAndEq
      cases s <;> cases t <;> simp only [Bool.false_eq_true, if_false, if_true]
      · rw [if_neg (by omega), if_neg (by omega)]
      · rw [if_neg (by omega), if_neg (by omega)]
      · rw [if_pos (by omega)]
      · rw [if_pos (by omega)]
  · by_cases h2 : j = 9218868437227405312
    · subst h2
      rw [ea, eb, rk_pat (by omega), rk_pat (by omega), wd_pat (by omega), wd_pat (by omega), e0, rd_inf, rd_num (by omega)]
      show some (if t then Ordering.gt else .lt) = _
      unfold compareOfLessAndEq
      cases s <;> cases t <;> simp only [Bool.false_eq_true, if_false, if_true]
      · rw [if_pos (by omega)]
      · rw [if_neg (by omega), if_neg (by omega)]
      · rw [if_pos (by omega)]
      · rw [if_neg (by omega), if_neg (by omega)]
    · have fa : isFin a = true := by rw [ea]; exact pat_fin (by omega)
      have fb : isFin b = true := by rw [eb]; exact pat_fin (by omega)
      rw [Go.Proofs.order_full ha hb fa fb]
      obtain ⟨h3, h4⟩ := fV_rk ha hb fa fb
      rw [cmp_iff h3 h4]
end Go.Eng
set_option linter.unusedVariables false
namespace Go.Eng
open Go
theorem rn_exa (m d : Nat) : rn (m * 2 ^ d) d = m := by
  have := rn_scale m 0 d
  rw [Nat.zero_add, rn_zero] at this
  exact this
/-- A float's own rung. -/
theorem rung_mag {k : Nat} (hk : k ≤ 9218868437227405312) : rung (magK k) (-1074) = k := by
  by_cases h0 : k / 4503599627370496 = 0
  · have hm : magK k = k := by unfold magK; rw [if_pos h0]; omega
    rw [hm]
    by_cases hz : k = 0
    · subst hz; exact rung_zero
    have hl : k.log2 ≤ 51 := by
      have := (Nat.log2_lt (k := 52) hz).2 (by have e : (2 : Nat) ^ 52 = 4503599627370496 := by decide
                                               rw [e]; omega)
      omega
    have hL : lastP k (-1074) = -1074 := by unfold lastP; omega
    unfold rung kpt
    rw [hL]
    show min (0 * 4503599627370496 + rn (k * 2 ^ 0) 0) 9218868437227405312 = k
    rw [Nat.pow_zero, Nat.mul_one, rn_zero]
    omega
  · have hm : magK k = (4503599627370496 + k % 4503599627370496) * 2 ^ (k / 4503599627370496 - 1) := by unfold magK; rw [if_neg h0]
    have hl : (magK k).log2 = 52 + (k / 4503599627370496 - 1) := by
      rw [hm, log2_scale _ (by omega)]
      congr 1
      have e : (2 : Nat) ^ 52 = 4503599627370496 := by decide
      have e3 : (2 : Nat) ^ 53 = 9007199254740992 := by decide
      exact (Nat.log2_eq_iff (by omega)).2 ⟨by rw [e]; omega, by rw [e3]; omega⟩
    have hL : lastP (magK k) (-1074) = -1074 + ((k / 4503599627370496 - 1 : Nat) : Int) := by unfold lastP; rw [hl]; omega
    unfold rung kpt
    rw [hL, show (-1074 + ((k / 4503599627370496 - 1 : Nat) : Int) + 1074).toNat = k / 4503599627370496 - 1 by omega, show (-1074 - (-1074 + ((k / 4503599627370496 - 1 : Nat) : Int))).toNat = 0 by omega, show (-1074 + ((k / 4503599627370496 - 1 : Nat) : Int) - -1074).toNat = k / 4503599627370496 - 1 by omega, Nat.pow_zero, Nat.mul_one, hm, rn_exa]
    omega
/-- bits.Canon: the pattern of what is no NaN. -/
def cnP (a : Int) : Int := addP a 0
theorem cn_rk {a : Int} (ha : I64 a) (hn : isNaN a = false) : rk (cnP a) = rk a ∧ isNaN (cnP a) = false ∧ I64 (cnP a) := by
  obtain ⟨s, k, hk, rfl⟩ := as_pat ha hn
  have hz : isNaN 0 = false ∧ isInf 0 = false ∧ fW 0 = 0 ∧ decide ((0 : Int) < 0) = false := ⟨by decide, by decide, by decide, by decide⟩
  unfold cnP addP plusP
  rw [hn, hz.1, hz.2.1, hz.2.2.1, hz.2.2.2]
  by_cases h : k = 9218868437227405312
  · subst h
    have hi : isInf (pat s 9218868437227405312) = true := by cases s <;> decide +kernel
    rw [hi, pat_neg s (by omega)]
    simp only [Bool.or_self, Bool.and_false, Bool.false_and, Bool.false_eq_true, if_false, if_true]
    exact ⟨trivial, hn, ha⟩
  · have hf : isFin (pat s k) = true := pat_fin (by omega)
    have hi : isInf (pat s k) = false := (fin_not hf).2
    have hw : fW (pat s k) = if s then -(magK k : Int) else (magK k : Int) := by unfold fW; rw [if_pos hf, fV_mag (by omega)]
    rw [hi, hw, pat_neg s (by omega), Int.add_zero]
    simp only [Bool.or_self, Bool.and_false, Bool.false_and, Bool.false_eq_true, if_false]
    have hab : (if s then -(magK k : Int) else (magK k : Int)).natAbs = magK k := by cases s <;> simp
    rw [hab, rung_mag hk]
    by_cases h0 : magK k = 0
    · have hk0 : k = 0 := by
        rcases Nat.eq_zero_or_pos k with h1 | h1
        · exact h1
        · have := magK_lt h1; rw [magK_zero] at this; omega
      subst hk0
      refine ⟨?_, pat_nan (by omega), pat_I64 (by omega)⟩
      rw [rk_pat (by omega), rk_pat (by omega)]
      cases s <;> (split <;> rfl)
    · have e : (if (if s then -(magK k : Int) else (magK k : Int)) = 0 then false else decide ((if s then -(magK k : Int) else (magK k : Int)) < 0)) = s := by
        cases s
        · simp only [Bool.false_eq_true, if_false]; rw [if_neg (by omega), decide_eq_false (by omega)]
        · simp only [if_true]; rw [if_neg (by omega), decide_eq_true (by omega)]
      rw [e]
      exact ⟨rfl, hn, ha⟩
/-- span.Valid. -/
def vS (a b : Int) : Bool := !isNaN a && !isNaN b && decide (rk a ≤ rk b) && decide (rk a < 9218868437227405312) && decide (-9218868437227405312 < rk b)
theorem gt_ord {x y : Int} : (some (compareOfLessAndEq x y) == some Ordering.gt) = decide (y < x) := by
  unfold compareOfLessAndEq
  by_cases h : x < y
  · rw [if_pos h, decide_eq_false (by omega)]; rfl
  · rw [if_neg h]
    by_cases h2 : x = y
    · rw [if_pos h2, decide_eq_false (by omega)]; rfl
    · rw [if_neg h2, decide_eq_true (by omega)]; rfl
theorem lt_ord {x y : Int} : (some (compareOfLessAndEq x y) == some Ordering.lt) = decide (x < y) := by
  unfold compareOfLessAndEq
  by_cases h : x < y
  · rw [if_pos h, decide_eq_true h]; rfl
  · rw [if_neg h, decide_eq_false h]
    split <;> rfl
end Go.Eng
namespace Go.Proofs
open Go Go.Eng
variable {B : World} {R : Ending → Heap → Prop} {h : Heap}
theorem wmax : wd 9218868437227405311 = 9218868437227405311 := by decide
end Go.Proofs
set_option linter.unusedVariables false
namespace Go.Proofs
open Go Go.Eng
variable {B : World} {R : Ending → Heap → Prop} {h : Heap}
/-- The blank interval of package span. -/
def NoneH (h : Heap) : Prop := 0 < h.size ∧ cell? h ⟨0, 0, none⟩ = some (.int .i64 0) ∧ cell? h ⟨0, 1, none⟩ = some (.int .i64 0)
theorem NoneH.ext {h h' : Heap} (H : NoneH h) (f : Ext h h') : NoneH h' := by
  obtain ⟨a, b, c⟩ := H
  refine ⟨Nat.lt_of_lt_of_le a f.size, ?_, ?_⟩
  · unfold cell? at b ⊢; rw [f.same 0 a id]; exact b
  · unfold cell? at c ⊢; rw [f.same 0 a id]; exact c
theorem NoneH.c0 {h : Heap} (H : NoneH h) : cI h 0 0 .i64 0 := H.2.1
theorem NoneH.c1 {h : Heap} (H : NoneH h) : cell? h ⟨0, 0 + 1, none⟩ = some (.int .i64 0) := H.2.2
end Go.Proofs
set_option linter.unusedVariables false
namespace Go.Proofs
open Go Go.Eng
variable {B : World} {R : Ending → Heap → Prop} {h : Heap}
abbrev P1 : Int := 4607182418800017408
abbrev P2 : Int := 4611686018427387904
abbrev P3 : Int := 4613937818241073152
theorem pwOne : Pw P1 0 := ⟨by unfold I64 P1; omega, by decide +kernel, by decide +kernel, by omega⟩
theorem pwTwo : Pw P2 1 := ⟨by unfold I64 P2; omega, by decide +kernel, by decide +kernel, by omega⟩
theorem c11 : cls (addP P1 P1) ≠ 0 := by decide +kernel
theorem c12 : cls (addP P1 P2) ≠ 0 := by decide +kernel
theorem d11 : dirV (1 : Int).toNat (fV P1 + fV P1) (-1074) = P2 := by decide +kernel
theorem d12 : dirV (2 : Int).toNat (fV P1 + fV P2) (-1074) = P3 := by decide +kernel
theorem v11 : (vS P1 P1 && vS P1 P2) = true := by decide +kernel
theorem i1 : I64 P1 := pwOne.1
theorem i2 : I64 P2 := pwTwo.1
theorem i3 : I64 P3 := by unfold I64 P3; omega
end Go.Proofs
set_option linter.unusedVariables false
namespace Go.Eng
open Go
theorem rk_inf {p : Int} (ip : I64 p) (hn : isNaN p = false) (hf : isFin p = false) : rk p = 9218868437227405312 ∨ rk p = -9218868437227405312 := by
  obtain ⟨s, k, hk, rfl⟩ := as_pat ip hn
  by_cases h : k = 9218868437227405312
  · subst h
    rw [rk_pat (by omega)]
    cases s
    · exact .inl rfl
    · exact .inr rfl
  · rw [pat_fin (by omega)] at hf; cases hf
end Go.Eng
namespace Go.Proofs
open Go Go.Eng
variable {B : World} {R : Ending → Heap → Prop} {h : Heap}
end Go.Proofs
set_option linter.unusedVariables false
namespace Go.Eng
open Go
/-- What stands behind what was written stands as it stood. -/
theorem Wrote.rest {k : IntKind} {h0 h : Heap} {b o : Nat} {zs xs : List Nat} (W : Wrote k h0 h b o zs) (hx : Sl k h0 (some ⟨b, o, none⟩) xs) (hl : zs.length ≤ xs.length) : Wrote k h0 h b o (zs ++ xs.drop zs.length) := by
  rcases hx with hx | ⟨b', o', cs', e1, e2, e3⟩
  · subst hx
    have : zs = [] := List.eq_nil_of_length_eq_zero (by simpa using hl)
    subst this; exact W
  · cases e1
    obtain ⟨c0, cs, e, h1, h2, h3, h4, h5⟩ := W.blk
    have : cs' = c0 := e2.inj ⟨e, h1⟩
    subst this
    refine ⟨W.size, W.same, cs', cs, e, h1, h2, h3, fun j hj => h4 j ?_, fun j hj => ?_⟩
    · rw [List.length_append, List.length_drop] at hj; omega
    · rw [List.length_append, List.length_drop] at hj
      by_cases hz : j < zs.length
      · rw [List.getElem_append_left hz]; exact h5 j hz
      · rw [List.getElem_append_right (by omega), List.getElem_drop, h4 (o + j) (by omega), e3 j (by omega)]
        congr 4; omega
end Go.Eng
namespace Go.Proofs
open Go Go.Eng
variable {B : World} {R : Ending → Heap → Prop} {h : Heap}
theorem K203i {bz oz n zc xc y : Nat} {xs : List Nat} {cs : Array Value} (hO : Own h bz cs) (hn : oz + n ≤ cs.size) (hx : Sl .u64 h (some ⟨bz, oz, none⟩) xs) (lx : xs.length = n) (hlim : n < 9223372036854775807)
    (hxc : n ≤ xc) (hzc : n ≤ zc) (dx : Dig B64 xs) (hy : y < B64)
    (H : ∀ (zs : List Nat) (c : Nat) (h' : Heap), Wrote .u64 h h' bz oz zs → zs.length = n → Dig B64 zs → c < B64 → val B64 zs + B64 ^ n * c = val B64 xs + y → R (.returned (.int .u64 (c : Int))) h') :
    Ent Tryz.prog B 152 #[.slice (some ⟨bz, oz, none⟩) n zc, .slice (some ⟨bz, oz, none⟩) n xc, .int .u64 (y : Int)] R h := by
  have hB : B64 = 18446744073709551616 := rfl
  refine F203_ok _ _ _ _ _ _ _ ⟨fun e => by simp at e, fun _ => ⟨fun e => ?_, fun e => ?_⟩⟩
  · have e : n = 0 := by simpa using e
    subst e
    have : xs = [] := List.eq_nil_of_length_eq_zero lx
    subst this
    exact H [] y h (Wrote.nil hO) rfl Dig.nil hy (by simp [val])
  have hn0 : 0 < n := by simp at e; omega
  have hne : xs ≠ [] := fun e => by rw [e] at lx; simp at lx; omega
  have cmp : ∀ {h' : Heap} {K : Bool → Prop}, K true → ixW (some ⟨bz, oz, none⟩) n (0 : Int) 1 fun b20 o21 => ixW (some ⟨bz, oz, none⟩) n (0 : Int) 1 fun b22 o23 => pEq h' (some ⟨b20, o21, none⟩) (some ⟨b22, o23, none⟩) K := by
    intro h' K hK
    refine ⟨bz, oz, rfl, by omega, by omega, bz, oz, rfl, by omega, by omega, .inr (.inr ⟨_, _, _, _, rfl, rfl, .inl ⟨rfl, ?_⟩⟩)⟩
    simpa using hK
  refine hx.get 0 rfl (by omega) (by omega) (K204 (c := 0) (by decide) ⟨_, _, rfl, ?_⟩)
  have d0 : xs[0]'(by omega) < B64 := dx.get (by omega)
  have hxv : val B64 xs = xs[0]'(by omega) + B64 * val B64 (xs.drop 1) := by
    have := val_drop B64 xs (i := 0) (by omega); simpa using this
  refine (Wrote.nil (k := .u64) hO).put hO _ rfl rfl hn0 hn fun W => ?_
  simp only [List.length_nil, Nat.add_zero, List.nil_append] at W
  refine ⟨fun e => ?_, fun e => ?_⟩
  · have hc0 : (xs[0]'(by omega) + y + 0) / B64 = 0 := Int.natCast_eq_zero.1 (of_decide_eq_true e)
    refine cmp ⟨fun e => (by simp at e), fun _ => ?_⟩
    have W2 := W.rest hx (by show 1 ≤ _; omega)
    refine H _ 0 _ W2 (by simp; omega) (Dig.cons (dx.drop 1) (Nat.mod_lt _ (by decide))) (by decide) ?_
    show _ + B64 * val B64 (xs.drop 1) + _ = _
    rw [hxv]
    rw [Nat.mul_zero]
    unfold B64 at *; omega
  · have hc1 : (xs[0]'(by omega) + y) / B64 = 1 := by
      have h1 : (xs[0]'(by omega) + y + 0) / B64 ≠ 0 := fun hh => of_decide_eq_false e (Int.natCast_eq_zero.2 hh)
      unfold B64 at *; omega
    refine ⟨fun m vs h' => match vs with
      | [.slice p1 n1 c1, .slice p2 n2 c2, .int _ i] => some ⟨bz, oz, none⟩ = p1 ∧ n = n1 ∧ zc = c1 ∧ some ⟨bz, oz, none⟩ = p2 ∧ n = n2 ∧ xc = c2 ∧ ∃ zs : List Nat, Wrote .u64 h h' bz oz zs ∧ i = (zs.length : Int) ∧ m = n - zs.length ∧ 0 < zs.length ∧ zs.length ≤ n ∧ Dig B64 zs ∧ val B64 zs + B64 ^ zs.length = val B64 (xs.take zs.length) + y
      | _ => False, n - 1, ⟨rfl, rfl, rfl, rfl, rfl, rfl, _, W, rfl, rfl, by simp, by simp; omega, Dig.cons Dig.nil (Nat.mod_lt _ (by decide)), ?_⟩, ?_⟩
    · have : xs.take 1 = [xs[0]'(by omega)] := by
        cases xs with
        | nil => exact absurd rfl hne
        | cons x xs => rfl
      simp only [List.length_singleton, this, val, Nat.pow_one, Nat.mul_zero, Nat.add_zero]
      unfold B64 at *; omega
    rintro m h' _ _ _ _ _ _ _ ⟨rfl, rfl, rfl, rfl, rfl, rfl, zs, W, rfl, rfl, hz0, hzn, dz, hv⟩ _
    refine ⟨fun e => ?_, fun e => ?_⟩
    · have hlt : zs.length < n := by simp at e; omega
      have dl : xs[zs.length]'(by omega) < B64 := dx.get (by omega)
      refine hx.getW W zs.length rfl (by omega) (by omega) (fun b o hb => by cases hb; exact .inr (.inr (Nat.le_refl _))) ⟨fun e => ?_, fun e => ?_⟩
      · have hw : xs[zs.length]'(by omega) ≠ 18446744073709551615 := by simp at e; omega
        refine W.put hO (xs[zs.length]'(by omega) + 1) (by have := wadd (a := xs[zs.length]'(by omega)) (b := 1) (by omega); exact this) rfl hlt hn fun W' => ?_
        have ei : IntKind.i64.wrap ((zs.length : Int) + 1) = ((zs.length + 1 : Nat) : Int) := by rw [i64_in (by omega) (by omega)]; simp
        refine cmp ⟨fun e => (by simp at e), fun _ => ?_⟩
        have W2 := W'.rest hx (by simp; omega)
        refine H _ 0 _ W2 (by simp; omega) ((dz.snoc (by omega)).append (dx.drop _)) (by decide) ?_
        rw [val_append, val_snoc, List.length_append, List.length_singleton, val_split B64 xs (i := zs.length + 1) (by omega), val_take_succ _ _ (by omega), Nat.mul_add]
        omega
      · have hw : xs[zs.length]'(by omega) = 18446744073709551615 := by simp at e; omega
        refine W.put hO 0 rfl rfl hlt hn fun W' => ?_
        refine ⟨n - (zs.length + 1), by omega, rfl, rfl, rfl, rfl, rfl, rfl, _, W', by rw [i64_in (by omega) (by omega)]; simp, by simp, by simp, by simp; omega, dz.snoc (by decide), ?_⟩
        rw [List.length_append, List.length_singleton, val_snoc, val_take_succ _ _ (by omega), hw, Nat.pow_succ]
        have : B64 ^ zs.length * 18446744073709551615 + B64 ^ zs.length = B64 ^ zs.length * B64 := by
          unfold B64; omega
        omega
    · have : zs.length = n := by simp at e; omega
      exact H zs 1 h' W this dz (by decide) (by rw [this] at hv; rw [Nat.mul_one, hv, List.take_of_length_le (by omega)])
theorem K196i {bz oz n zc xc y : Nat} {xs : List Nat} {cs : Array Value} (hO : Own h bz cs) (hn : oz + n ≤ cs.size) (hx : Sl .u64 h (some ⟨bz, oz, none⟩) xs) (lx : xs.length = n) (hlim : n < 9223372036854775807)
    (hxc : n ≤ xc) (hzc : n ≤ zc) (dx : Dig B64 xs) (hy : y < B64)
    (H : ∀ (zs : List Nat) (c : Nat) (h' : Heap), Wrote .u64 h h' bz oz zs → zs.length = n → Dig B64 zs → c < B64 → val B64 xs + B64 ^ n * c = val B64 zs + y → R (.returned (.int .u64 (c : Int))) h') :
    Ent Tryz.prog B 148 #[.slice (some ⟨bz, oz, none⟩) n zc, .slice (some ⟨bz, oz, none⟩) n xc, .int .u64 (y : Int)] R h := by
  have hB : B64 = 18446744073709551616 := rfl
  refine F196_ok _ _ _ _ _ _ _ ⟨fun e => by simp at e, fun _ => ⟨fun e => ?_, fun e => ?_⟩⟩
  · have e : n = 0 := by simpa using e
    subst e
    have : xs = [] := List.eq_nil_of_length_eq_zero lx
    subst this
    exact H [] y h (Wrote.nil hO) rfl Dig.nil hy (by simp [val])
  have hn0 : 0 < n := by simp at e; omega
  have hne : xs ≠ [] := fun e => by rw [e] at lx; simp at lx; omega
  have cmp : ∀ {h' : Heap} {K : Bool → Prop}, K true → ixW (some ⟨bz, oz, none⟩) n (0 : Int) 1 fun b20 o21 => ixW (some ⟨bz, oz, none⟩) n (0 : Int) 1 fun b22 o23 => pEq h' (some ⟨b20, o21, none⟩) (some ⟨b22, o23, none⟩) K := by
    intro h' K hK
    refine ⟨bz, oz, rfl, by omega, by omega, bz, oz, rfl, by omega, by omega, .inr (.inr ⟨_, _, _, _, rfl, rfl, .inl ⟨rfl, ?_⟩⟩)⟩
    simpa using hK
  have d0 : xs[0]'(by omega) < B64 := dx.get (by omega)
  refine hx.get 0 rfl (by omega) (by omega) (K198' (c := 0) d0 hy (by decide) fun z0 b0 hz0 hb0 hzb => ⟨_, _, rfl, ?_⟩)
  have hxv : val B64 xs = xs[0]'(by omega) + B64 * val B64 (xs.drop 1) := by
    have := val_drop B64 xs (i := 0) (by omega); simpa using this
  refine (Wrote.nil (k := .u64) hO).put hO _ rfl rfl hn0 hn fun W => ?_
  simp only [List.length_nil, Nat.add_zero, List.nil_append] at W
  refine ⟨fun e => ?_, fun e => ?_⟩
  · have hc0 : b0 = 0 := Int.natCast_eq_zero.1 (of_decide_eq_true e)
    refine cmp ⟨fun e => (by simp at e), fun _ => ?_⟩
    have W2 := W.rest hx (by show 1 ≤ _; omega)
    refine H _ 0 _ W2 (by simp; omega) (Dig.cons (dx.drop 1) hz0) (by decide) ?_
    have hv : val B64 (z0 :: xs.drop 1) = z0 + B64 * val B64 (xs.drop 1) := rfl
    show val B64 xs + _ = val B64 (z0 :: xs.drop 1) + y
    rw [hv, hxv, Nat.mul_zero]
    rw [hc0] at hzb
    omega
  · have hc1 : b0 ≠ 0 := fun hh => of_decide_eq_false e (Int.natCast_eq_zero.2 hh)
    refine ⟨fun m vs h' => match vs with
      | [.slice p1 n1 c1, .slice p2 n2 c2, .int _ i] => some ⟨bz, oz, none⟩ = p1 ∧ n = n1 ∧ zc = c1 ∧ some ⟨bz, oz, none⟩ = p2 ∧ n = n2 ∧ xc = c2 ∧ ∃ zs : List Nat, Wrote .u64 h h' bz oz zs ∧ i = (zs.length : Int) ∧ m = n - zs.length ∧ 0 < zs.length ∧ zs.length ≤ n ∧ Dig B64 zs ∧ val B64 (xs.take zs.length) + B64 ^ zs.length = val B64 zs + y
      | _ => False, n - 1, ⟨rfl, rfl, rfl, rfl, rfl, rfl, _, W, rfl, rfl, by simp, by simp; omega, Dig.cons Dig.nil hz0, ?_⟩, ?_⟩
    · have : xs.take 1 = [xs[0]'(by omega)] := by
        cases xs with
        | nil => exact absurd rfl hne
        | cons x xs => rfl
      simp only [List.length_singleton, this, val, Nat.pow_one, Nat.mul_zero, Nat.add_zero]
      have : b0 = 1 := by omega
      rw [this] at hzb
      omega
    rintro m h' _ _ _ _ _ _ _ ⟨rfl, rfl, rfl, rfl, rfl, rfl, zs, W, rfl, rfl, hz0, hzn, dz, hv⟩ _
    refine ⟨fun e => ?_, fun e => ?_⟩
    · have hlt : zs.length < n := by simp at e; omega
      have dl : xs[zs.length]'(by omega) < B64 := dx.get (by omega)
      refine hx.getW W zs.length rfl (by omega) (by omega) (fun b o hb => by cases hb; exact .inr (.inr (Nat.le_refl _))) ⟨fun e => ?_, fun e => ?_⟩
      · have hw : xs[zs.length]'(by omega) ≠ 0 := by simp at e; omega
        refine W.put hO (xs[zs.length]'(by omega) - 1) (by rw [show ((xs[zs.length]'(by omega) : Nat) : Int) - 1 = ((xs[zs.length]'(by omega) - 1 : Nat) : Int) by omega, wrap_u64_nat, Nat.mod_eq_of_lt (by omega)]) rfl hlt hn fun W' => ?_
        have ei : IntKind.i64.wrap ((zs.length : Int) + 1) = ((zs.length + 1 : Nat) : Int) := by rw [i64_in (by omega) (by omega)]; simp
        refine cmp ⟨fun e => (by simp at e), fun _ => ?_⟩
        have W2 := W'.rest hx (by simp; omega)
        refine H _ 0 _ W2 (by simp; omega) ((dz.snoc (by omega)).append (dx.drop _)) (by decide) ?_
        rw [val_append, val_snoc, List.length_append, List.length_singleton, val_split B64 xs (i := zs.length + 1) (by omega), val_take_succ _ _ (by omega)]
        have : B64 ^ zs.length * (xs[zs.length]'(by omega) - 1) + B64 ^ zs.length = B64 ^ zs.length * xs[zs.length]'(by omega) := by
          rw [← Nat.mul_succ]; congr 1; omega
        omega
      · have hw : xs[zs.length]'(by omega) = 0 := by simp at e; omega
        refine W.put hO 18446744073709551615 rfl rfl hlt hn fun W' => ?_
        refine ⟨n - (zs.length + 1), by omega, rfl, rfl, rfl, rfl, rfl, rfl, _, W', by rw [i64_in (by omega) (by omega)]; simp, by simp, by simp, by simp; omega, dz.snoc (by omega), ?_⟩
        rw [List.length_append, List.length_singleton, val_snoc, val_take_succ _ _ (by omega), hw, Nat.pow_succ]
        have : B64 ^ zs.length * 18446744073709551615 + B64 ^ zs.length = B64 ^ zs.length * B64 := by
          unfold B64; omega
        omega
    · have : zs.length = n := by simp at e; omega
      exact H zs 1 h' W this dz (by decide) (by rw [this] at hv; rw [List.take_of_length_le (by omega)] at hv; rw [Nat.mul_one, hv])
end Go.Proofs
