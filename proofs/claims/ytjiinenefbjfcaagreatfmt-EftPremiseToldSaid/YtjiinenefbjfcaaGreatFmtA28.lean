import Derived.Test.YtjiinenefbjfcaaGreatFmtA25
import Derived.Test.YtjiinenefbjfcaaGreatFmtA22
import Derived.WalkKit
import Derived.Test.YtjiinenefbjfcaaGreatFmtA07
import Derived.Test.YtjiinenefbjfcaaGreatFmtA20
import Derived.Test.YtjiinenefbjfcaaGreatFmtA12
import Derived.Test.YtjiinenefbjfcaaGreatFmtA13
import Derived.Test.YtjiinenefbjfcaaGreatFmtA23
import Derived.Test.YtjiinenefbjfcaaGreatFmtA03
/- Here stand lemmas: order and rounding of floats. -/
set_option linter.unusedVariables false
namespace Go.Proofs
open Go Go.Eng
variable {B : World} {R : Ending → Heap → Prop} {h : Heap}
theorem order_fin {a b : Int} (ha : I64 a) (hb : I64 b) (fa : isFin a = true) (fb : isFin b = true) : (FloatKind.f64.format.order (wd a) (wd b) == some .lt) = decide (fV a < fV b) := by
  have ea : Ieee.double.read (wd a) = .number (decide (a < 0)) (fM a) (fX a) := by
    rw [read_wd ha, if_pos]; unfold isFin at fa; exact of_decide_eq_true fa
  have eb : Ieee.double.read (wd b) = .number (decide (b < 0)) (fM b) (fX b) := by
    rw [read_wd hb, if_pos]; unfold isFin at fb; exact of_decide_eq_true fb
  have e0 : FloatKind.f64.format.order (wd a) (wd b) = (Ieee.double.read (wd a)).order (Ieee.double.read (wd b)) := rfl
  have ho : ∀ s m i t n j, Ieee.Datum.order (.number s m i) (.number t n j) = some (compare (Ieee.signed s m (i - min i j).toNat) (Ieee.signed t n (j - min i j).toNat)) := fun _ _ _ _ _ _ => rfl
  rw [e0, ea, eb, ho]
  have ga := fX_ge a
  have gb := fX_ge b
  rw [fV_at, fV_at]
  obtain ⟨b0, h0, h1, h2, h3⟩ : ∃ z, min (fX a) (fX b) = z ∧ z ≤ fX a ∧ z ≤ fX b ∧ -1074 ≤ z := ⟨_, rfl, by omega, by omega, by omega⟩
  rw [h0, show (fX a - (-1074)).toNat = (fX a - b0).toNat + (b0 + 1074).toNat by omega, show (fX b - (-1074)).toNat = (fX b - b0).toNat + (b0 + 1074).toNat by omega, signed_add, signed_add]
  generalize Ieee.signed (decide (a < 0)) (fM a) (fX a - b0).toNat = x
  generalize Ieee.signed (decide (b < 0)) (fM b) (fX b - b0).toNat = y
  generalize (b0 + 1074).toNat = kk
  have hk : (0 : Int) < ((2 ^ kk : Nat) : Int) := Int.natCast_pos.2 (Nat.pow_pos (by decide))
  generalize ((2 ^ kk : Nat) : Int) = k at hk
  have e : (x * k < y * k) ↔ (x < y) := Int.mul_lt_mul_right hk
  rw [show decide (x * k < y * k) = decide (x < y) by rw [decide_eq_decide]; exact e]
  show (some (compareOfLessAndEq x y) == some Ordering.lt) = _
  unfold compareOfLessAndEq
  by_cases hlt : x < y
  · rw [if_pos hlt, decide_eq_true hlt]; rfl
  · rw [if_neg hlt, decide_eq_false hlt]
    split <;> rfl
/-- bits.Less, of finite floats. -/
theorem K32 {a b : Int} (ha : I64 a) (hb : I64 b) (fa : isFin a = true) (fb : isFin b = true) (H : R (.returned (.bool (decide (fV a < fV b)))) h) : Ent Tryz.prog B 13 #[.int .i64 a, .int .i64 b] R h := by
  refine F32_ok _ _ (K54 ⟨_, rfl, K54 ⟨_, rfl, ?_⟩⟩)
  rw [order_fin ha hb fa fb]; exact H
theorem bitsI_abs {b : Int} (hb : I64 b) : bitsI .andNot .i64 b (-9223372036854775808 : Int) = if b < 0 then b + 9223372036854775808 else b := by
  unfold I64 at hb
  have h1 : bitsI .andNot .i64 b (-9223372036854775808 : Int) = IntKind.i64.wrap (((BitVec.ofInt 64 b &&& ~~~ BitVec.ofInt 64 (-9223372036854775808 : Int)).toNat : Nat) : Int) := rfl
  rw [h1, BitVec.toNat_and, BitVec.toNat_ofInt]
  have e1 : (~~~ BitVec.ofInt 64 (-9223372036854775808 : Int)).toNat = 9223372036854775807 := by decide
  have e2 : (b % ((2 ^ 64 : Nat) : Int)).toNat = (b % 18446744073709551616).toNat := rfl
  rw [e1, e2, show (b % 18446744073709551616).toNat &&& 9223372036854775807 = (b % 18446744073709551616).toNat % 2 ^ 63 from Nat.and_two_pow_sub_one_eq_mod _ 63]
  rw [i64_nat (by omega)]
  split <;> omega
def absP (b : Int) : Int := if b < 0 then b + 9223372036854775808 else b
/-- bits.Abs, of what is finite. -/
theorem K33 {b : Int} (hb : I64 b) (fb : isFin b = true) (H : R (.returned (.int .i64 (absP b))) h) : Ent Tryz.prog B 14 #[.int .i64 b] R h := by
  refine F33_ok _ (K17 ⟨_, rfl, ?_⟩)
  have := (show isNaN b = false by unfold isFin at fb; have := of_decide_eq_true fb; unfold isNaN; rw [decide_eq_false (by omega)]; rfl)
  rw [cls_nan, this, bitsI_abs hb]
  exact ⟨fun e => (by cases e), fun _ => H⟩
end Go.Proofs
namespace Go.Eng
open Go
theorem rn_exact (q d : Nat) : rn (q * 2 ^ d) d = q := by
  have := rn_scale q 0 d
  rw [Nat.zero_add, rn_zero] at this
  exact this
/-- n rounded to 53 bits. -/
def R53 (n : Nat) : Nat := rn n (n.log2 - 52) * 2 ^ (n.log2 - 52)
theorem R53_zero : R53 0 = 0 := by decide
theorem log2_of {n k : Nat} (h1 : 2 ^ k ≤ n) (h2 : n < 2 ^ (k + 1)) : n.log2 = k := by
  have h0 : n ≠ 0 := by have : 0 < 2 ^ k := Nat.pow_pos (by decide); omega
  exact (Nat.log2_eq_iff h0).2 ⟨h1, h2⟩
theorem R53_at {n j : Nat} (h1 : 2 ^ (52 + j) ≤ n) (h2 : n < 2 ^ (53 + j)) : R53 n = rn n j * 2 ^ j := by
  have : n.log2 = 52 + j := log2_of h1 (by rw [show 52 + j + 1 = 53 + j by omega]; exact h2)
  unfold R53
  rw [this, Nat.add_sub_cancel_left]
theorem R53_small {n : Nat} (h : n < 2 ^ 53) : R53 n = n := by
  unfold R53
  have : n.log2 - 52 = 0 := by
    by_cases h0 : n = 0
    · subst h0; decide
    · have := (Nat.log2_lt h0).2 h; omega
  rw [this, rn_zero, Nat.pow_zero, Nat.mul_one]
theorem R53_scale (n k : Nat) : R53 (n * 2 ^ k) = R53 n * 2 ^ k := by
  by_cases h0 : n = 0
  · subst h0; rw [Nat.zero_mul, R53_zero, Nat.zero_mul]
  unfold R53
  rw [log2_scale k h0]
  by_cases h : 52 ≤ n.log2
  · rw [show n.log2 + k - 52 = n.log2 - 52 + k by omega, rn_scale, Nat.pow_add, Nat.mul_assoc]
  · rw [show n.log2 - 52 = 0 by omega, rn_zero, Nat.pow_zero, Nat.mul_one]
    by_cases h3 : n.log2 + k ≤ 52
    · rw [show n.log2 + k - 52 = 0 by omega, rn_zero, Nat.pow_zero, Nat.mul_one]
    · obtain ⟨d, hd⟩ : ∃ d, n.log2 + k - 52 = d ∧ d ≤ k := ⟨_, rfl, by omega⟩
      rw [hd.1]
      have e : n * 2 ^ k = n * 2 ^ (k - d) * 2 ^ d := by rw [Nat.mul_assoc, ← Nat.pow_add]; congr 2; omega
      rw [e, rn_exact]
theorem R53_exact {q d : Nat} (h : q ≤ 2 ^ 53) : R53 (q * 2 ^ d) = q * 2 ^ d := by
  rw [R53_scale]
  rcases Nat.lt_or_ge q (2 ^ 53) with h1 | h1
  · rw [R53_small h1]
  · have : q = 1 * 2 ^ 53 := by omega
    rw [this, R53_scale, R53_small (by decide)]
theorem rn_near (n d : Nat) : 2 * (rn n d * 2 ^ d) ≤ 2 * n + 2 ^ d ∧ 2 * n ≤ 2 * (rn n d * 2 ^ d) + 2 ^ d := by
  have hd := Nat.div_add_mod n (2 ^ d)
  have hm := Nat.mod_lt n (Nat.pow_pos (by decide : 0 < 2) : 0 < 2 ^ d)
  unfold rn
  rw [Nat.mul_comm] at hd
  split
  · rw [Nat.add_mul, Nat.one_mul]; omega
  · rw [Nat.add_zero]; omega
/-- Veltkamp's cut of a number of 53 bits. -/
theorem velt {M : Nat} (h1 : 2 ^ 52 ≤ M) (h2 : M < 2 ^ 53) : ∃ q l : Nat, ∃ neg : Bool, q ≤ 2 ^ 26 ∧ l ≤ 2 ^ 26 ∧
    M ≤ R53 (134217729 * M) ∧ R53 (134217729 * M) - M ≤ 201326592 * M ∧ R53 (134217729 * M) - R53 (R53 (134217729 * M) - M) = q * 2 ^ 27 ∧ R53 (R53 (134217729 * M) - M) ≤ R53 (134217729 * M) ∧
    R53 (R53 (134217729 * M) - R53 (R53 (134217729 * M) - M)) = q * 2 ^ 27 ∧ (M : Int) - ((q * 2 ^ 27 : Nat) : Int) = if neg then -(l : Int) else (l : Int) := by
  obtain ⟨c, hc⟩ : ∃ c, R53 (134217729 * M) = c := ⟨_, rfl⟩
  rw [hc]
  -- c is a multiple of 2^27, near to C * M
  have hcc : ∃ u : Nat, c = u * 2 ^ 27 ∧ 2 ^ 79 ≤ c - M ∧ c - M < 2 ^ 80 ∧ M ≤ c ∧ c - M ≤ 201326592 * M := by
    rcases Nat.lt_or_ge (134217729 * M) (2 ^ 80) with h | h
    · have e := R53_at (n := 134217729 * M) (j := 27) (by omega) (by omega)
      have hn := rn_near (134217729 * M) 27
      rw [← e, hc] at hn
      refine ⟨rn (134217729 * M) 27, by rw [← hc, e], ?_, ?_, ?_, ?_⟩
      · rcases Nat.eq_or_lt_of_le h1 with hm | hm
        · subst hm
          have : c = 134217729 * 2 ^ 52 := by
            rw [← hc, e]; decide
          omega
        · omega
      · omega
      · omega
      · omega
    · have e := R53_at (n := 134217729 * M) (j := 28) (by omega) (by omega)
      have hn := rn_near (134217729 * M) 28
      rw [← e, hc] at hn
      refine ⟨rn (134217729 * M) 28 * 2, by rw [← hc, e, Nat.mul_assoc], ?_, ?_, ?_, ?_⟩
      · omega
      · rcases Nat.lt_or_ge M (2 ^ 53 - 1) with hm | hm
        · have : 134217728 * M + 134217728 * 2 ≤ 2 ^ 80 := by omega
          omega
        · have hm' : M = 2 ^ 53 - 1 := by omega
          subst hm'
          have : c = 4503599660924927 * 2 ^ 28 := by
            rw [← hc, e]; decide
          omega
      · omega
      · omega
  obtain ⟨u, hu, l1, l2, l3, l4⟩ := hcc
  obtain ⟨d, hd⟩ : ∃ d, R53 (c - M) = d := ⟨_, rfl⟩
  rw [hd]
  have e := R53_at (n := c - M) (j := 27) (by omega) (by omega)
  have hn := rn_near (c - M) 27
  rw [← e, hd] at hn
  have hdv : d = rn (c - M) 27 * 2 ^ 27 := by rw [← hd, e]
  generalize rn (c - M) 27 = v at *
  have hle : d ≤ c := by omega
  have hq : c - d = (u - v) * 2 ^ 27 := by rw [hu, hdv, Nat.sub_mul]
  have hq2 : u - v ≤ 2 ^ 26 := by omega
  refine ⟨u - v, ((M : Int) - ((c - d : Nat) : Int)).natAbs, decide ((M : Int) - ((c - d : Nat) : Int) < 0), hq2, by omega, l3, l4, hq, hle, ?_, ?_⟩
  · rw [hq]; exact R53_exact (by omega)
  · rw [← hq]
    by_cases h : (M : Int) - ((c - d : Nat) : Int) < 0
    · rw [decide_eq_true h]; simp only [if_true]; omega
    · rw [decide_eq_false h]; simp only [Bool.false_eq_true, if_false]; omega
end Go.Eng
namespace Go.Eng
open Go
/-- A whole number rounded to 53 bits. -/
def rndI (v : Int) : Int := Ieee.signed (decide (v < 0)) (R53 v.natAbs) 0
theorem signed_nat (s : Bool) (m j : Nat) : Ieee.signed s m j = if s then -((m * 2 ^ j : Nat) : Int) else ((m * 2 ^ j : Nat) : Int) := by
  unfold Ieee.signed; rw [Nat.shiftLeft_eq]
theorem pat_neg (neg : Bool) {r : Nat} (hr : r < 9223372036854775808) : decide (pat neg r < 0) = neg := by
  cases neg
  · show decide (((r : Nat) : Int) < 0) = false
    exact decide_eq_false (by omega)
  · show decide (((r : Nat) : Int) - 9223372036854775808 < 0) = true
    exact decide_eq_true (by omega)
theorem pat_fE (neg : Bool) {r : Nat} (hr : r < 9223372036854775808) : fE (pat neg r) = r / 4503599627370496 := by
  unfold fE
  cases neg
  · show ((((r : Nat) : Int)) / 4503599627370496 % 2048).toNat = _
    omega
  · show ((((r : Nat) : Int) - 9223372036854775808) / 4503599627370496 % 2048).toNat = _
    omega
theorem pat_fT (neg : Bool) {r : Nat} (hr : r < 9223372036854775808) : fT (pat neg r) = r % 4503599627370496 := by
  unfold fT
  cases neg
  · show ((((r : Nat) : Int)) % 4503599627370496).toNat = _
    omega
  · show ((((r : Nat) : Int) - 9223372036854775808) % 4503599627370496).toNat = _
    omega
theorem fV_pat (neg : Bool) {j k : Nat} (hk : k ≤ 9007199254740992) (hn : j ≠ 0 → 4503599627370496 ≤ k) (hr : j * 4503599627370496 + k < 9218868437227405312) :
    isFin (pat neg (j * 4503599627370496 + k)) = true ∧ fV (pat neg (j * 4503599627370496 + k)) = Ieee.signed neg k j := by
  have h63 : j * 4503599627370496 + k < 9223372036854775808 := by omega
  have e1 := pat_fE neg h63
  have e2 := pat_fT neg h63
  have e3 := pat_neg neg h63
  refine ⟨?_, ?_⟩
  · unfold isFin; rw [e1]; exact decide_eq_true (by omega)
  unfold fV fM fX
  rw [e1, e2, e3]
  rcases Nat.lt_or_ge k 4503599627370496 with h | h
  · have hj : j = 0 := by
      rcases Nat.eq_zero_or_pos j with h0 | h0
      · exact h0
      · have := hn (by omega); omega
    subst hj
    have a1 : (0 * 4503599627370496 + k) / 4503599627370496 = 0 := by omega
    have a2 : (0 * 4503599627370496 + k) % 4503599627370496 = k := by omega
    rw [a1, a2]; rfl
  · rcases Nat.lt_or_ge k 9007199254740992 with h' | h'
    · have a1 : (j * 4503599627370496 + k) / 4503599627370496 = j + 1 := by omega
      have a2 : (j * 4503599627370496 + k) % 4503599627370496 = k - 4503599627370496 := by omega
      rw [a1, a2, if_neg (by omega), if_neg (by omega), show 4503599627370496 + (k - 4503599627370496) = k by omega, show (((j + 1 : Nat) : Int) - 1075 + 1074).toNat = j by omega]
    · have hk' : k = 9007199254740992 := by omega
      subst hk'
      have a1 : (j * 4503599627370496 + 9007199254740992) / 4503599627370496 = j + 2 := by omega
      have a2 : (j * 4503599627370496 + 9007199254740992) % 4503599627370496 = 0 := by omega
      rw [a1, a2, if_neg (by omega), if_neg (by omega), show (((j + 2 : Nat) : Int) - 1075 + 1074).toNat = j + 1 by omega, signed_nat, signed_nat, Nat.pow_succ]
      have : (4503599627370496 + 0) * (2 ^ j * 2) = 9007199254740992 * 2 ^ j := by omega
      rw [this]
theorem rung_fV (neg : Bool) {n K : Nat} (hK : K ≤ 2045) (h : n < 3 * 2 ^ (51 + K)) : isFin (pat neg (rung n (-1074))) = true ∧ fV (pat neg (rung n (-1074))) = Ieee.signed neg (R53 n) 0 := by
  by_cases h0 : n = 0
  · subst h0
    rw [rung_zero, R53_zero]
    have := fV_pat neg (j := 0) (k := 0) (by omega) (by omega) (by omega)
    rw [Nat.zero_mul, Nat.zero_add] at this
    exact this
  obtain ⟨j, hj⟩ : ∃ j, n.log2 - 52 = j := ⟨_, rfl⟩
  have eL : lastP n (-1074) = -1074 + (j : Int) := by unfold lastP; omega
  have eK : kpt n (-1074) = rn n j := by
    unfold kpt
    rw [eL, show ((-1074 : Int) - (-1074 + (j : Int))).toNat = 0 by omega, Nat.pow_zero, Nat.mul_one, show (-1074 + (j : Int) - (-1074 : Int)).toNat = j by omega]
  obtain ⟨b1, b2⟩ := kpt_lt (-1074) h0
  rw [eK] at b1 b2
  have e52 : (2 : Nat) ^ 52 = 4503599627370496 := by decide
  have e53 : (2 : Nat) ^ 53 = 9007199254740992 := by decide
  have e51 : (2 : Nat) ^ 51 = 2251799813685248 := by decide
  rw [e53] at b1
  rw [e52] at b2
  have hjK : j ≤ K := by
    have : n < 2 ^ (53 + K) := by
      have : 2 ^ (53 + K) = 4 * 2 ^ (51 + K) := by rw [show 53 + K = 2 + (51 + K) by omega, Nat.pow_add]
      have : 0 < 2 ^ (51 + K) := Nat.pow_pos (by decide)
      omega
    have := (Nat.log2_lt h0).2 this
    omega
  have hlt : j * 4503599627370496 + rn n j < 9218868437227405312 := by
    rcases Nat.lt_or_ge j 2045 with h1 | h1
    · omega
    · have hjk : j = K := by omega
      have : n / 2 ^ j < 3 * 2251799813685248 := by
        rw [Nat.div_lt_iff_lt_mul (Nat.pow_pos (by decide)), Nat.mul_assoc, ← e51, ← Nat.pow_add, hjk]; exact h
      have := (rn_le n j).2
      omega
  have er : rung n (-1074) = j * 4503599627370496 + rn n j := by
    unfold rung
    rw [eL, eK, show (-1074 + (j : Int) + 1074).toNat = j by omega]
    exact Nat.min_eq_left (by omega)
  rw [er]
  obtain ⟨c1, c2⟩ := fV_pat neg (j := j) (k := rn n j) b1 (fun hne => b2 (by rw [eL]; omega)) hlt
  refine ⟨c1, ?_⟩
  rw [c2, signed_nat, signed_nat]
  unfold R53
  rw [hj, Nat.pow_zero, Nat.mul_one]
theorem fin_not {a : Int} (h : isFin a = true) : isNaN a = false ∧ isInf a = false := by
  unfold isFin at h
  have := of_decide_eq_true h
  unfold isNaN isInf
  have : decide (fE a = 2047) = false := decide_eq_false (by omega)
  rw [this]; exact ⟨rfl, rfl⟩
theorem sgn_rnd (v : Int) (z : Bool) : Ieee.signed (if v = 0 then z else decide (v < 0)) (R53 v.natAbs) 0 = rndI v := by
  unfold rndI
  by_cases h : v = 0
  · subst h
    rw [if_pos rfl, show (0 : Int).natAbs = 0 from rfl, R53_zero]
    cases z <;> rfl
  · rw [if_neg h]
theorem addP_fV {a b : Int} (fa : isFin a = true) (fb : isFin b = true) {K : Nat} (hK : K ≤ 2045) (h : (fV a + fV b).natAbs < 3 * 2 ^ (51 + K)) : isFin (addP a b) = true ∧ fV (addP a b) = rndI (fV a + fV b) := by
  obtain ⟨a1, a2⟩ := fin_not fa
  obtain ⟨b1, b2⟩ := fin_not fb
  have e : addP a b = pat (if fV a + fV b = 0 then decide (a < 0) && decide (b < 0) else decide (fV a + fV b < 0)) (rung (fV a + fV b).natAbs (-1074)) := by
    unfold addP plusP fW
    rw [a1, a2, b1, b2, fa, fb]; rfl
  rw [e]
  obtain ⟨c1, c2⟩ := rung_fV (if fV a + fV b = 0 then decide (a < 0) && decide (b < 0) else decide (fV a + fV b < 0)) hK h
  exact ⟨c1, by rw [c2, sgn_rnd]⟩
theorem subP_fV {a b : Int} (fa : isFin a = true) (fb : isFin b = true) {K : Nat} (hK : K ≤ 2045) (h : (fV a - fV b).natAbs < 3 * 2 ^ (51 + K)) : isFin (subP a b) = true ∧ fV (subP a b) = rndI (fV a - fV b) := by
  obtain ⟨a1, a2⟩ := fin_not fa
  obtain ⟨b1, b2⟩ := fin_not fb
  rw [Int.sub_eq_add_neg] at h ⊢
  have e : subP a b = pat (if fV a + -fV b = 0 then decide (a < 0) && !decide (b < 0) else decide (fV a + -fV b < 0)) (rung (fV a + -fV b).natAbs (-1074)) := by
    unfold subP plusP fW
    rw [a1, a2, b1, b2, fa, fb]; rfl
  rw [e]
  obtain ⟨c1, c2⟩ := rung_fV (if fV a + -fV b = 0 then decide (a < 0) && !decide (b < 0) else decide (fV a + -fV b < 0)) hK h
  exact ⟨c1, by rw [c2, sgn_rnd]⟩
end Go.Eng
namespace Go.Eng
open Go
/-- A sign and a size. -/
def sgv (s : Bool) (n : Nat) : Int := if s then -(n : Int) else (n : Int)
theorem rndI_sgv (s : Bool) (n : Nat) : rndI (sgv s n) = sgv s (R53 n) := by
  unfold rndI sgv
  cases s
  · simp only [Bool.false_eq_true, if_false]
    rw [decide_eq_false (by omega), Int.natAbs_natCast]
    show Ieee.signed false (R53 n) 0 = _
    rw [signed_nat, Nat.pow_zero, Nat.mul_one]; rfl
  · simp only [if_true]
    by_cases h : n = 0
    · subst h; rw [R53_zero]; rfl
    · rw [decide_eq_true (by omega), Int.natAbs_neg, Int.natAbs_natCast, signed_nat, Nat.pow_zero, Nat.mul_one]; rfl
theorem sgv_sub (s : Bool) {m n : Nat} (h : n ≤ m) : sgv s m - sgv s n = sgv s (m - n) := by
  unfold sgv
  cases s
  · simp only [Bool.false_eq_true, if_false]; omega
  · simp only [if_true]; omega
theorem sgv_abs (s : Bool) (n : Nat) : (sgv s n).natAbs = n := by unfold sgv; cases s <;> simp
theorem sgv_mul (s : Bool) (c n : Nat) : (c : Int) * sgv s n = sgv s (c * n) := by unfold sgv; cases s <;> simp [Int.natCast_mul, Int.mul_neg]
theorem sgv_of (X : Int) : ∃ s, X = sgv s X.natAbs := by
  by_cases h : X < 0
  · exact ⟨true, by unfold sgv; simp only [if_true]; omega⟩
  · exact ⟨false, by unfold sgv; simp only [Bool.false_eq_true, if_false]; omega⟩
theorem R53_via {x s y t : Nat} (h : x * 2 ^ s = y * 2 ^ t) : R53 x * 2 ^ s = R53 y * 2 ^ t := by rw [← R53_scale, h, R53_scale]
/-- Veltkamp's cut of whatever float. -/
theorem velt_int {X : Int} {M s t : Nat} (h1 : 2 ^ 52 ≤ M) (h2 : M < 2 ^ 53) (hX : X.natAbs * 2 ^ s = M * 2 ^ t) :
    ∃ h : Int, ∃ q l : Nat, q ≤ 2 ^ 26 ∧ l ≤ 2 ^ 26 ∧ h.natAbs * 2 ^ s = q * 2 ^ (27 + t) ∧ (X - h).natAbs * 2 ^ s = l * 2 ^ t ∧
      (rndI (134217729 * X) - X).natAbs ≤ 201326592 * X.natAbs ∧ rndI (134217729 * X) - rndI (rndI (134217729 * X) - X) = h ∧ rndI h = h ∧ rndI (X - h) = X - h := by
  obtain ⟨σ, hσ⟩ := sgv_of X
  generalize hx : X.natAbs = x at *
  subst hσ
  rw [sgv_abs] at hx
  have hs : 0 < 2 ^ s := Nat.pow_pos (by decide)
  obtain ⟨q, l, neg, q1, l1, v1, v2, v3, v4, v5, v6⟩ := velt h1 h2
  -- the sizes, scaled
  have c1 : R53 (134217729 * x) * 2 ^ s = R53 (134217729 * M) * 2 ^ t := R53_via (by rw [Nat.mul_assoc, hX, Nat.mul_assoc])
  generalize hcx : R53 (134217729 * x) = c at *
  generalize hcM : R53 (134217729 * M) = cM at *
  have hxc : x ≤ c := Nat.le_of_mul_le_mul_right (by rw [hX, c1]; exact Nat.mul_le_mul_right _ v1) hs
  have c2 : (c - x) * 2 ^ s = (cM - M) * 2 ^ t := by rw [Nat.sub_mul, Nat.sub_mul, c1, hX]
  have c3 : c - x ≤ 201326592 * x := Nat.le_of_mul_le_mul_right (by rw [c2, Nat.mul_assoc, hX, ← Nat.mul_assoc]; exact Nat.mul_le_mul_right _ v2) hs
  have d1 := R53_via c2
  generalize hdx : R53 (c - x) = d at *
  generalize hdM : R53 (cM - M) = dM at *
  have hdc : d ≤ c := Nat.le_of_mul_le_mul_right (by rw [d1, c1]; exact Nat.mul_le_mul_right _ v4) hs
  have e1 : (c - d) * 2 ^ s = (cM - dM) * 2 ^ t := by rw [Nat.sub_mul, Nat.sub_mul, c1, d1]
  have e2 : (c - d) * 2 ^ s = q * 2 ^ (27 + t) := by rw [e1, v3, Nat.pow_add, Nat.mul_assoc]
  have e3 : R53 (c - d) = c - d := by
    refine Nat.eq_of_mul_eq_mul_right hs ?_
    rw [R53_via e2, e2]
    have := R53_exact (q := q) (d := 0) (by omega)
    rw [Nat.pow_zero, Nat.mul_one] at this
    rw [this]
  -- what is left
  have g0 : ((x : Int) - ((c - d : Nat) : Int)) * ((2 ^ s : Nat) : Int) = (if neg then -(l : Int) else (l : Int)) * ((2 ^ t : Nat) : Int) := by
    rw [Int.sub_mul, ← Int.natCast_mul, ← Int.natCast_mul, hX, e1, v3, Int.natCast_mul, Int.natCast_mul, ← Int.sub_mul, v6]
  have g1 : ((x : Int) - ((c - d : Nat) : Int)).natAbs * 2 ^ s = l * 2 ^ t := by
    have := congrArg Int.natAbs g0
    rw [Int.natAbs_mul, Int.natAbs_mul, Int.natAbs_natCast, Int.natAbs_natCast] at this
    rw [this]
    cases neg <;> simp
  have g2 : R53 ((x : Int) - ((c - d : Nat) : Int)).natAbs = ((x : Int) - ((c - d : Nat) : Int)).natAbs := by
    refine Nat.eq_of_mul_eq_mul_right hs ?_
    rw [R53_via g1, g1]
    have := R53_exact (q := l) (d := 0) (by omega)
    rw [Nat.pow_zero, Nat.mul_one] at this
    rw [this]
  have kc : rndI (134217729 * sgv σ x) = sgv σ c := by
    have := sgv_mul σ 134217729 x
    rw [show ((134217729 : Nat) : Int) = 134217729 from rfl] at this
    rw [this, rndI_sgv, hcx]
  have ka : (sgv σ x - sgv σ (c - d)).natAbs = ((x : Int) - ((c - d : Nat) : Int)).natAbs := by
    unfold sgv; cases σ
    · rfl
    · simp only [if_true]; omega
  refine ⟨sgv σ (c - d), q, l, q1, l1, by rw [sgv_abs]; exact e2, by rw [ka]; exact g1, ?_, ?_, ?_, ?_⟩
  · rw [kc, sgv_sub σ hxc, sgv_abs]; exact c3
  · rw [kc, sgv_sub σ hxc, rndI_sgv, hdx, sgv_sub σ hdc]
  · rw [rndI_sgv, e3]
  · obtain ⟨τ, hτ⟩ := sgv_of (sgv σ x - sgv σ (c - d))
    rw [hτ, ka, rndI_sgv, g2]
end Go.Eng
namespace Go.Eng
open Go
theorem velt_all {X : Int} {m t : Nat} (hm : m < 9007199254740992) (hX : X.natAbs = m * 2 ^ t) :
    ∃ h : Int, ∃ q l s e e' : Nat, q ≤ 67108864 ∧ l ≤ 67108864 ∧ h.natAbs * 2 ^ s = q * 2 ^ e ∧ (X - h).natAbs * 2 ^ s = l * 2 ^ e' ∧
      (rndI (134217729 * X) - X).natAbs ≤ 201326592 * X.natAbs ∧ (X - h).natAbs ≤ X.natAbs ∧ rndI (134217729 * X) - rndI (rndI (134217729 * X) - X) = h ∧ rndI h = h ∧ rndI (X - h) = X - h := by
  by_cases h0 : m = 0
  · have hx0 : X = 0 := by rw [h0, Nat.zero_mul] at hX; omega
    subst hx0
    have e0 : rndI 0 = 0 := by
      have := rndI_sgv false 0
      rw [R53_zero] at this
      exact this
    have e1 : rndI (134217729 * 0) = 0 := e0
    refine ⟨0, 0, 0, 0, 0, 0, by omega, by omega, rfl, rfl, ?_, by decide, ?_, e0, e0⟩
    · rw [e1]; decide
    · rw [e1]
      show (0 : Int) - rndI (0 - 0) = 0
      rw [show (0 : Int) - 0 = 0 from rfl, e0]; rfl
  have hl := (Nat.log2_eq_iff h0).1 rfl
  have e53 : (2 : Nat) ^ 53 = 9007199254740992 := by decide
  have h52 : m.log2 ≤ 52 := by
    have := (Nat.log2_lt h0).2 (show m < 2 ^ 53 by omega)
    omega
  obtain ⟨k, hk⟩ : ∃ k, m.log2 + k = 52 := ⟨52 - m.log2, by omega⟩
  have b1 : 2 ^ 52 ≤ m * 2 ^ k := by
    have := Nat.mul_le_mul_right (2 ^ k) hl.1
    rw [← Nat.pow_add, hk] at this; exact this
  have b2 : m * 2 ^ k < 2 ^ 53 := by
    have := Nat.mul_lt_mul_of_pos_right hl.2 (Nat.pow_pos (by decide) : 0 < 2 ^ k)
    rw [← Nat.pow_add, show m.log2 + 1 + k = 53 by omega] at this; exact this
  obtain ⟨h, q, l, q1, l1, a1, a2, a3, a4, a5, a6⟩ := velt_int (X := X) (M := m * 2 ^ k) (s := k) (t := t) b1 b2 (by rw [hX, Nat.mul_assoc, Nat.mul_comm (2 ^ t), ← Nat.mul_assoc])
  have hk0 : 0 < 2 ^ k := Nat.pow_pos (by decide)
  refine ⟨h, q, l, k, 27 + t, t, by omega, by omega, a1, a2, a3, ?_, a4, a5, a6⟩
  refine Nat.le_of_mul_le_mul_right ?_ hk0
  rw [a2, hX, Nat.mul_assoc, Nat.mul_comm (2 ^ t), ← Nat.mul_assoc]
  exact Nat.mul_le_mul_right _ (by omega)
end Go.Eng
namespace Go.Proofs
open Go Go.Eng
theorem fac_fields : isFin FAC = true ∧ fM FAC = 134217729 * 2 ^ 25 ∧ fX FAC = -25 := by decide
theorem mulFAC_fV {a : Int} (fa : isFin a = true) {K : Nat} (hK : K ≤ 2045) (h : 134217729 * (fV a).natAbs < 3 * 2 ^ (51 + K)) : isFin (mulP FAC a) = true ∧ fV (mulP FAC a) = rndI (134217729 * fV a) := by
  obtain ⟨a1, a2⟩ := fin_not fa
  obtain ⟨f0, f1, f2⟩ := fac_fields
  obtain ⟨b1, b2⟩ := fin_not f0
  have hs : decide (FAC < 0) = false := by decide
  obtain ⟨B, hB, hv⟩ : ∃ B : Nat, (B : Int) = 1074 ∧ (fV FAC).natAbs = 134217729 * 2 ^ B := by
    refine ⟨25 + (fX FAC + 1074).toNat, by rw [f2]; decide, ?_⟩
    unfold fV
    rw [signed_abs, f1, Nat.mul_assoc, ← Nat.pow_add]
  have e : mulP FAC a = pat (decide (a < 0)) (rung (fV FAC * fV a).natAbs (-2148)) := by
    unfold mulP timesP zr fW
    rw [a1, a2, b1, b2, fa, f0, hs, Bool.false_xor]
    rfl
  rw [e, Int.natAbs_mul, hv]
  have e2 : 134217729 * 2 ^ B * (fV a).natAbs = 134217729 * (fV a).natAbs * 2 ^ B := by ac_rfl
  rw [e2]
  have key : rung (134217729 * (fV a).natAbs * 2 ^ B) (-2148) = rung (134217729 * (fV a).natAbs) (-1074) := by
    by_cases h0 : 134217729 * (fV a).natAbs = 0
    · rw [h0, Nat.zero_mul, rung_zero2, rung_zero]
    · rw [rung_scale B (-2148) h0, hB]; rfl
  rw [key]
  obtain ⟨c1, c2⟩ := rung_fV (decide (a < 0)) hK h
  refine ⟨c1, ?_⟩
  rw [c2]
  have hsg : ∃ s, s = decide (a < 0) ∧ fV a = sgv s (fV a).natAbs := by
    refine ⟨_, rfl, ?_⟩
    unfold fV sgv
    rw [signed_abs, signed_nat]
  obtain ⟨s, hs1, hs2⟩ := hsg
  rw [← hs1, hs2]
  have := sgv_mul s 134217729 (fV a).natAbs
  rw [show ((134217729 : Nat) : Int) = 134217729 from rfl] at this
  rw [this, rndI_sgv, sgv_abs]
  show Ieee.signed s (R53 (134217729 * (fV a).natAbs)) 0 = _
  rw [signed_nat, Nat.pow_zero, Nat.mul_one]; rfl
/-- The cut of a float: both parts are finite and short, and together they are just the float. -/
theorem split_law {a : Int} (fa : isFin a = true) {K : Nat} (hK : K ≤ 2045) (hb : (fV a).natAbs < 2 ^ (25 + K)) :
    isFin (splH a) = true ∧ isFin (splL a) = true ∧ fV (splH a) + fV (splL a) = fV a ∧
      ∃ q l s e e' : Nat, q ≤ 67108864 ∧ l ≤ 67108864 ∧ (fV (splH a)).natAbs * 2 ^ s = q * 2 ^ e ∧ (fV (splL a)).natAbs * 2 ^ s = l * 2 ^ e' := by
  have hX : (fV a).natAbs = fM a * 2 ^ (fX a + 1074).toNat := by unfold fV; rw [signed_abs]
  obtain ⟨h, q, l, s, e, e', q1, l1, a1, a2, a3, a4, a5, a6, a7⟩ := velt_all (fM_lt a) hX
  generalize hx : (fV a).natAbs = x at *
  have e26 : 2 ^ (51 + K) = 67108864 * 2 ^ (25 + K) := by rw [show 51 + K = 26 + (25 + K) by omega, Nat.pow_add]
  obtain ⟨c1, c2⟩ := mulFAC_fV fa hK (by rw [hx]; omega)
  obtain ⟨d1, d2⟩ := subP_fV c1 fa hK (by rw [c2]; omega)
  have hh : fV (mulP FAC a) - fV (subP (mulP FAC a) a) = h := by rw [c2, d2, c2]; exact a5
  obtain ⟨g1, g2⟩ := subP_fV c1 d1 hK (by rw [hh]; omega)
  rw [hh, a6] at g2
  obtain ⟨k1, k2⟩ := subP_fV fa g1 hK (by rw [g2]; omega)
  rw [g2, a7] at k2
  have eH : fV (splH a) = h := g2
  have eL : fV (splL a) = fV a - h := k2
  exact ⟨g1, k1, by rw [eH, eL]; omega, q, l, s, e, e', q1, l1, by rw [eH]; exact a1, by rw [eL]; exact a2⟩
end Go.Proofs
namespace Go.Proofs
open Go Go.Eng
variable {B : World} {R : Ending → Heap → Prop} {h : Heap}
abbrev ONE : Nat := 4607182418800017408
theorem one_one : FloatKind.f64.nearest 1 = ONE := by decide +kernel
theorem and_one (n : Nat) (hn : n < 9223372036854775808) : bitsI .and .i64 (n : Int) (1 : Int) = ((n % 2 : Nat) : Int) := by
  have := and_i64 (x := (n : Int)) (m := 1) (by decide)
  rw [show ((1 : Nat) : Int) = 1 from rfl] at this
  rw [this, show ((n : Int) % 18446744073709551616).toNat = n by omega, Nat.and_one_is_mod]
/-- bits.reduced, of a power of 2. -/
theorem K181 {k : Nat} {e : Int} (hk : k ≤ 52) (he : -9000 ≤ e) (he2 : e ≤ 9000) (H : R (.returned (.tuple #[.int .i64 (1 : Int), .int .i64 (e + (k : Int))])) h) : Ent Tryz.prog B 73 #[.int .i64 ((2 ^ k : Nat) : Int), .int .i64 e] R h := by
  refine F181_ok _ _ ⟨fun m vs h' => match vs with
    | [.int _ z, .int _ y] => h = h' ∧ ∃ i : Nat, i ≤ k ∧ z = ((2 ^ (k - i) : Nat) : Int) ∧ y = e + (i : Int) ∧ m = k - i
    | _ => False, k, ⟨rfl, 0, by omega, rfl, by omega, by omega⟩, ?_⟩
  rintro m h1 _ _ ⟨rfl, i, hi, rfl, rfl, rfl⟩ _
  have hlt : 2 ^ (k - i) < 9223372036854775808 := by
    have : 2 ^ (k - i) ≤ 2 ^ 52 := Nat.pow_le_pow_right (by decide) (by omega)
    have e52 : (2 : Nat) ^ 52 = 4503599627370496 := by decide
    omega
  rw [and_one _ hlt]
  by_cases hc : i = k
  · subst hc
    rw [Nat.sub_self]
    exact ⟨fun e => absurd e (by decide), fun _ => H⟩
  · obtain ⟨d, hd⟩ : ∃ d, k - i = d + 1 := ⟨k - i - 1, by omega⟩
    rw [hd] at hlt ⊢
    have h2 : 2 ^ (d + 1) % 2 = 0 := by rw [Nat.pow_succ, Nat.mul_mod_left]
    rw [h2]
    refine ⟨fun _ => ⟨by decide, d, by omega, rfl, i + 1, by omega, ?_, ?_, by omega⟩, fun e => absurd e (by decide)⟩
    · have e1 : min (Int.toNat (1 : Int)) IntKind.i64.bits = 1 := by decide
      rw [e1, Int.fdiv_eq_ediv_of_nonneg _ (by decide), show k - (i + 1) = d by omega, Nat.pow_succ]
      omega
    · rw [i64_in (by omega) (by omega)]; omega
theorem abs_I64 {b : Int} (hb : I64 b) : I64 (absP b) := by unfold I64 at *; unfold absP; split <;> omega
theorem abs_fields (b : Int) : fE (absP b) = fE b ∧ fT (absP b) = fT b := by
  unfold absP fE fT
  split
  · constructor <;> omega
  · exact ⟨rfl, rfl⟩
theorem abs_fV {b : Int} (hb : I64 b) : isFin (absP b) = isFin b ∧ fV (absP b) = ((fV b).natAbs : Int) := by
  obtain ⟨e1, e2⟩ := abs_fields b
  refine ⟨by unfold isFin; rw [e1], ?_⟩
  have hn : decide (absP b < 0) = false := by
    unfold I64 at hb
    apply decide_eq_false; unfold absP; split <;> omega
  have hm : fM (absP b) = fM b := by unfold fM; rw [e1, e2]
  have hx : fX (absP b) = fX b := by unfold fX; rw [e1]
  unfold fV
  rw [signed_abs, hn, hm, hx, signed_nat]; rfl
end Go.Proofs
namespace Go.Proofs
open Go Go.Eng
variable {B : World} {R : Ending → Heap → Prop} {h : Heap}
theorem order_full {a b : Int} (ha : I64 a) (hb : I64 b) (fa : isFin a = true) (fb : isFin b = true) : FloatKind.f64.format.order (wd a) (wd b) = some (compareOfLessAndEq (fV a) (fV b)) := by
  have ea : Ieee.double.read (wd a) = .number (decide (a < 0)) (fM a) (fX a) := by
    rw [read_wd ha, if_pos]; unfold isFin at fa; exact of_decide_eq_true fa
  have eb : Ieee.double.read (wd b) = .number (decide (b < 0)) (fM b) (fX b) := by
    rw [read_wd hb, if_pos]; unfold isFin at fb; exact of_decide_eq_true fb
  have e0 : FloatKind.f64.format.order (wd a) (wd b) = (Ieee.double.read (wd a)).order (Ieee.double.read (wd b)) := rfl
  have ho : ∀ s m i t n j, Ieee.Datum.order (.number s m i) (.number t n j) = some (compare (Ieee.signed s m (i - min i j).toNat) (Ieee.signed t n (j - min i j).toNat)) := fun _ _ _ _ _ _ => rfl
  rw [e0, ea, eb, ho]
  have ga := fX_ge a
  have gb := fX_ge b
  rw [fV_at, fV_at]
  obtain ⟨b0, h0, h1, h2, h3⟩ : ∃ z, min (fX a) (fX b) = z ∧ z ≤ fX a ∧ z ≤ fX b ∧ -1074 ≤ z := ⟨_, rfl, by omega, by omega, by omega⟩
  rw [h0, show (fX a - (-1074)).toNat = (fX a - b0).toNat + (b0 + 1074).toNat by omega, show (fX b - (-1074)).toNat = (fX b - b0).toNat + (b0 + 1074).toNat by omega, signed_add, signed_add]
  generalize Ieee.signed (decide (a < 0)) (fM a) (fX a - b0).toNat = x
  generalize Ieee.signed (decide (b < 0)) (fM b) (fX b - b0).toNat = y
  generalize (b0 + 1074).toNat = kk
  have hk : (0 : Int) < ((2 ^ kk : Nat) : Int) := Int.natCast_pos.2 (Nat.pow_pos (by decide))
  generalize ((2 ^ kk : Nat) : Int) = k at hk
  have e : (x * k < y * k) ↔ (x < y) := Int.mul_lt_mul_right hk
  have e' : (x * k = y * k) ↔ (x = y) := ⟨fun h => Int.eq_of_mul_eq_mul_right (by omega) h, fun h => by rw [h]⟩
  show some (compareOfLessAndEq x y) = _
  unfold compareOfLessAndEq
  simp only [e, e']
/-- The pattern of 2^e. -/
def pwP (e : Int) : Int := if -1022 ≤ e then (e + 1023) * 4503599627370496 else ((2 ^ (e + 1074).toNat : Nat) : Int)
theorem frac_tab : ∀ k, k < 53 → bitsI .andNot .u64 (((k + 1023) * 4503599627370496 : Nat) : Int) (9218868437227405312 : Int) = 0 := by decide +kernel
theorem mul_tab : ∀ e, e < 2046 → FloatKind.f64.format.mul ONE ((e + 1) * 4503599627370496) = some ((e + 1) * 4503599627370496) := by decide +kernel
end Go.Proofs
