import Derived.Test.YtpnfpefcjeafbaaGreatFmtA40
import Derived.Test.YtpnfpefcjeafbaaGreatFmtA38
import Derived.Test.YtpnfpefcjeafbaaGreatFmtA37
import Derived.Test.YtpnfpefcjeafbaaGreatFmtA39
/- Here stand lemmas and contracts, in the order in which they are used. -/
set_option linter.unusedVariables false
set_option linter.unusedVariables false
/-! A float made whole, in the four ways. -/
namespace Go.Eng
open Go
/-- What is added to the whole part. -/
def moreT (way : Ieee.Toward) (neg : Bool) (g low rest : Nat) : Bool := match way with
  | .even => decide (g < 2 * rest) || (g == 2 * rest && low % 2 == 1)
  | .down => neg && rest != 0
  | .up => !neg && rest != 0
  | .zero => false
theorem cut_at (way : Ieee.Toward) (neg : Bool) (n d : Nat) : way.cut neg n d = n / 2 ^ d + (moreT way neg (2 ^ d) (n / 2 ^ d) (n % 2 ^ d)).toNat := by
  have hn : n < 2 ^ (n.log2 + 1) := Nat.lt_log2_self
  have small : ∀ k, n.log2 + 2 ≤ k → n / 2 ^ k = 0 ∧ n % 2 ^ k = n ∧ 2 * n < 2 ^ k := by
    intro k hk
    have h1 : 2 ^ (n.log2 + 2) ≤ 2 ^ k := Nat.pow_le_pow_right (by decide) hk
    have h2 : 2 ^ (n.log2 + 2) = 2 ^ (n.log2 + 1) * 2 := Nat.pow_succ ..
    exact ⟨Nat.div_eq_of_lt (by omega), Nat.mod_eq_of_lt (by omega), by omega⟩
  have hL : way.cut neg n d = n / (1 <<< min d (n.log2 + 2)) + (moreT way neg (1 <<< min d (n.log2 + 2)) (n / (1 <<< min d (n.log2 + 2))) (n % (1 <<< min d (n.log2 + 2)))).toNat := by
    cases way <;> rfl
  rw [hL]
  simp only [Nat.shiftLeft_eq, Nat.one_mul]
  by_cases h : d ≤ n.log2 + 2
  · rw [Nat.min_eq_left h]
  · rw [Nat.min_eq_right (by omega)]
    obtain ⟨a1, a2, a3⟩ := small (n.log2 + 2) (Nat.le_refl _)
    obtain ⟨b1, b2, b3⟩ := small d (by omega)
    rw [a1, a2, b1, b2]
    cases way <;> unfold moreT
    · rw [decide_eq_false (by omega), decide_eq_false (by omega), show (2 ^ (n.log2 + 2) == 2 * n) = false from by simpa using (by omega : ¬ 2 ^ (n.log2 + 2) = 2 * n), show (2 ^ d == 2 * n) = false from by simpa using (by omega : ¬ 2 ^ d = 2 * n)]
    · rfl
    · rfl
    · rfl
theorem moreT_scale (way : Ieee.Toward) (neg : Bool) (g low rest : Nat) {k : Nat} (hk : 0 < k) : moreT way neg (g * k) low (rest * k) = moreT way neg g low rest := by
  have h1 : (g * k < 2 * (rest * k)) ↔ (g < 2 * rest) := by rw [← Nat.mul_assoc]; exact Nat.mul_lt_mul_right hk
  have h2 : (g * k = 2 * (rest * k)) ↔ (g = 2 * rest) := by rw [← Nat.mul_assoc]; exact Nat.mul_left_inj (by omega)
  have h3 : (rest * k = 0) ↔ (rest = 0) := by
    constructor
    · intro h; rcases Nat.mul_eq_zero.1 h with h | h <;> omega
    · intro h; rw [h, Nat.zero_mul]
  have e2 : (g * k == 2 * (rest * k)) = (g == 2 * rest) := by
    rw [Bool.eq_iff_iff]; simp only [beq_iff_eq, h2]
  have e3 : (rest * k != 0) = (rest != 0) := by
    rw [Bool.eq_iff_iff]; simp only [bne_iff_ne, ne_eq, h3]
  unfold moreT
  cases way
  · simp only [h1, e2]
  · simp only [e3]
  · simp only [e3]
  · rfl
/-- The whole number of a number of units (sign aside): W units make 1. -/
def wholeN (way : Ieee.Toward) (neg : Bool) (W x : Nat) : Nat := x / W + (moreT way neg W (x / W) (x % W)).toNat
/-- Made whole, m times 2^i is the whole number of its units. -/
theorem cut_units {N : Nat} (hN : N = 1074) (way : Ieee.Toward) (neg : Bool) (m : Nat) (i : Int) (hi : -1074 ≤ i) : way.cut neg (m <<< i.toNat) (-i).toNat = wholeN way neg (2 ^ N) (m * 2 ^ (i + 1074).toNat) := by
  rw [cut_at, Nat.shiftLeft_eq]
  unfold wholeN
  rcases Int.lt_or_le i 0 with h | h
  · have e1 : i.toNat = 0 := by omega
    have e2 : (-i).toNat + (i + 1074).toNat = N := by omega
    rw [e1, Nat.pow_zero, Nat.mul_one, ← e2, Nat.pow_add, Nat.mul_div_mul_right _ _ (Nat.pow_pos (by decide)), Nat.mul_mod_mul_right, moreT_scale _ _ _ _ _ (Nat.pow_pos (by decide))]
  · have e1 : (-i).toNat = 0 := by omega
    have e2 : (i + 1074).toNat = i.toNat + N := by omega
    have hp : 0 < 2 ^ N := Nat.pow_pos (by decide)
    rw [e1, e2, Nat.pow_zero, Nat.div_one, Nat.mod_one, Nat.pow_add, ← Nat.mul_assoc, Nat.mul_div_cancel _ hp, Nat.mul_mod_left]
    congr 2
    have := moreT_scale way neg 1 (m * 2 ^ i.toNat) 0 hp
    rw [Nat.one_mul, Nat.zero_mul] at this
    exact this.symm
end Go.Eng
set_option linter.unusedVariables false
/-! A float made whole, as a float, and as an int. -/
namespace Go.Proofs
open Go Go.Eng
/-- So many units make 1. -/
def UN : Nat := 1074
def UW : Nat := 2 ^ UN
theorem uw_pos : 0 < UW := Nat.pow_pos (by decide)
theorem un_eq : UN = 1074 := rfl
theorem uw_pow {N : Nat} (h : N = 1074) : UW = 2 ^ N := by rw [h.trans un_eq.symm]; rfl
theorem cut_uw (way : Ieee.Toward) (neg : Bool) (m : Nat) (i : Int) (hi : -1074 ≤ i) : way.cut neg (m <<< i.toNat) (-i).toNat = wholeN way neg UW (m * 2 ^ (i + 1074).toNat) := cut_units un_eq way neg m i hi
theorem absV (b : Int) : (fV b).natAbs = fM b * 2 ^ (fX b + 1074).toNat := by
  unfold fV Ieee.signed
  rw [Nat.shiftLeft_eq]
  cases decide (b < 0)
  · rw [if_neg (by decide), Int.natAbs_natCast]
  · rw [if_pos rfl, Int.natAbs_neg, Int.natAbs_natCast]
theorem wd_pat (neg : Bool) {r : Nat} (h : r < 9223372036854775808) : wd (pat neg r) = Ieee.double.word neg r := by
  rw [← sg_word neg h]
  refine wd_sg ?_
  have hw : Ieee.double.word neg r = (if neg then 9223372036854775808 else 0) + r ∨ Ieee.double.word neg r = r + (if neg then 9223372036854775808 else 0) := by
    cases neg
    · right; show Ieee.double.word false r = r + 0; rfl
    · first | (left; rfl) | (right; rfl)
  rcases hw with e | e <;> rw [e] <;> split <;> omega
theorem read_fin {b : Int} (ib : I64 b) (fb : isFin b = true) : FloatKind.f64.decode (wd b) = .number (decide (b < 0)) (fM b) (fX b) := by
  show Ieee.double.read (wd b) = _
  rw [read_wd ib, if_pos]
  unfold isFin at fb
  exact of_decide_eq_true fb
/-- A float as an int, cut. -/
theorem toInt_fin {b : Int} (ib : I64 b) (fb : isFin b = true) : (FloatKind.f64.decode (wd b)).toInt .zero = some (if decide (b < 0) then -(((fV b).natAbs / UW : Nat) : Int) else (((fV b).natAbs / UW : Nat) : Int)) := by
  rw [read_fin ib fb]
  have h1 : (Ieee.Datum.number (decide (b < 0)) (fM b) (fX b)).toInt .zero = some (Ieee.signed (decide (b < 0)) (Ieee.Toward.cut .zero (decide (b < 0)) (fM b <<< (fX b).toNat) (-(fX b)).toNat) 0) := rfl
  rw [h1, cut_uw _ _ _ _ (fX_ge b), ← absV]
  have h2 : wholeN .zero (decide (b < 0)) UW (fV b).natAbs = (fV b).natAbs / UW := rfl
  rw [h2, signed_nat, Nat.pow_zero, Nat.mul_one]
theorem toInt_whole {b K : Int} (ib : I64 b) (fb : isFin b = true) (hv : fV b = K * (UW : Int)) : (FloatKind.f64.decode (wd b)).toInt .zero = some K := by
  rw [toInt_fin ib fb]
  have hp := uw_pos
  have ha : (fV b).natAbs / UW = K.natAbs := by
    rw [hv, Int.natAbs_mul, Int.natAbs_natCast, Nat.mul_div_cancel _ hp]
  rw [ha]
  by_cases h0 : fM b = 0
  · have : (fV b).natAbs = 0 := by rw [absV, h0, Nat.zero_mul]
    rw [this, Nat.zero_div] at ha
    have hK : K = 0 := by omega
    subst hK
    cases decide (b < 0) <;> rfl
  · have hs : decide (fV b < 0) = decide (b < 0) := signed_neg h0
    have hU : (0 : Int) < (UW : Int) := by omega
    have hs2 : decide (fV b < 0) = decide (K < 0) := by
      rw [hv, decide_eq_decide]
      constructor
      · intro h
        rcases Int.lt_or_le K 0 with k | k
        · exact k
        · have := Int.mul_nonneg k (Int.le_of_lt hU); omega
      · intro h; exact Int.mul_neg_of_neg_of_pos h hU
    rw [← hs, hs2]
    by_cases hK : K < 0
    · rw [decide_eq_true hK, if_pos rfl]; congr 1; omega
    · rw [decide_eq_false hK, if_neg (by decide)]; congr 1; omega
end Go.Proofs
set_option linter.unusedVariables false
/-! math.Ldexp of a fraction by 53. -/
namespace Go.Proofs
open Go Go.Eng
variable {B : World} {R : Ending → Heap → Prop} {h : Heap}
theorem and_split {k a b c d : Nat} (hb : b < 2 ^ k) (hd : d < 2 ^ k) : (2 ^ k * a + b) &&& (2 ^ k * c + d) = 2 ^ k * (a &&& c) + (b &&& d) := by
  have hbd : b &&& d < 2 ^ k := Nat.lt_of_le_of_lt Nat.and_le_left hb
  apply Nat.eq_of_testBit_eq
  intro j
  rw [Nat.testBit_and, Nat.testBit_two_pow_mul_add _ hb, Nat.testBit_two_pow_mul_add _ hd, Nat.testBit_two_pow_mul_add _ hbd]
  split <;> rw [Nat.testBit_and]
theorem or_split {k a b c d : Nat} (hb : b < 2 ^ k) (hd : d < 2 ^ k) : (2 ^ k * a + b) ||| (2 ^ k * c + d) = 2 ^ k * (a ||| c) + (b ||| d) := by
  have hbd : b ||| d < 2 ^ k := Nat.or_lt_two_pow hb hd
  apply Nat.eq_of_testBit_eq
  intro j
  rw [Nat.testBit_or, Nat.testBit_two_pow_mul_add _ hb, Nat.testBit_two_pow_mul_add _ hd, Nat.testBit_two_pow_mul_add _ hbd]
  split <;> rw [Nat.testBit_or]
theorem p52 : (2 : Nat) ^ 52 = 4503599627370496 := by decide
theorem p11 : (2 : Nat) ^ 11 = 2048 := by decide
theorem word_parts (s : Bool) (E t : Nat) : wordN s (E * 4503599627370496 + t) = 4503599627370496 * (2048 * s.toNat + E) + t := by
  unfold wordN
  cases s
  · rw [if_neg (by decide)]; show _ = 4503599627370496 * (2048 * 0 + E) + t; omega
  · rw [if_pos rfl]; show _ = 4503599627370496 * (2048 * 1 + E) + t; omega
theorem word_lt (s : Bool) {E t : Nat} (hE : E < 2048) (ht : t < 4503599627370496) : wordN s (E * 4503599627370496 + t) < 18446744073709551616 := by
  rw [word_parts]
  have : s.toNat ≤ 1 := by cases s <;> decide
  omega
/-- A word without its exponent. -/
theorem clear_exp (s : Bool) {E t : Nat} (hE : E < 2048) (ht : t < 4503599627370496) : bitsI .andNot .u64 ((wordN s (E * 4503599627370496 + t) : Nat) : Int) (9218868437227405312 : Int) = ((wordN s (0 * 4503599627370496 + t) : Nat) : Int) := by
  have hw := word_lt s hE ht
  have h1 : bitsI .andNot .u64 ((wordN s (E * 4503599627370496 + t) : Nat) : Int) (9218868437227405312 : Int) = IntKind.u64.wrap (((BitVec.ofInt 64 ((wordN s (E * 4503599627370496 + t) : Nat) : Int) &&& ~~~(BitVec.ofInt 64 (9218868437227405312 : Int))).toNat : Nat) : Int) := rfl
  have h2 : ~~~(BitVec.ofInt 64 (9218868437227405312 : Int)) = BitVec.ofNat 64 9227875636482146303 := by decide
  rw [h1, h2, ofInt_nat, BitVec.toNat_and, BitVec.toNat_ofNat, BitVec.toNat_ofNat, Nat.mod_eq_of_lt (by omega : wordN s (E * 4503599627370496 + t) < 2 ^ 64), Nat.mod_eq_of_lt (by omega : 9227875636482146303 < 2 ^ 64), word_parts, word_parts]
  have e1 : (9227875636482146303 : Nat) = 2 ^ 52 * (2 ^ 11 * 1 + 0) + 4503599627370495 := by decide
  rw [e1, ← p52, ← p11, and_split (by rw [p52]; exact ht) (by decide), and_split (by rw [p11]; exact hE) (by decide), Nat.and_zero]
  have e2 : t &&& 4503599627370495 = t := by
    rw [show t &&& 4503599627370495 = t % 2 ^ 52 from Nat.and_two_pow_sub_one_eq_mod t 52, p52, Nat.mod_eq_of_lt ht]
  have e3 : s.toNat &&& 1 = s.toNat := by cases s <;> rfl
  rw [e2, e3, wrap_u64_nat, p52, p11, Nat.mod_eq_of_lt]
  have : s.toNat ≤ 1 := by cases s <;> decide
  omega
/-- A word with another exponent. -/
theorem set_exp (s : Bool) {E t y : Nat} (hE : E < 2048) (ht : t < 4503599627370496) (hy : y < 2048) :
    bitsI .or .u64 (bitsI .andNot .u64 ((wordN s (E * 4503599627370496 + t) : Nat) : Int) (9218868437227405312 : Int)) (IntKind.u64.wrap ((IntKind.u64.wrap ((y : Nat) : Int)) * 2 ^ min (Int.toNat (52 : Int)) IntKind.u64.bits)) = ((wordN s (y * 4503599627370496 + t) : Nat) : Int) := by
  rw [clear_exp s hE ht]
  have e1 : IntKind.u64.wrap ((y : Nat) : Int) = (y : Int) := by rw [wrap_u64_nat, Nat.mod_eq_of_lt (by omega)]
  have e2 := shl_pow (x := y) (s := 52) (by decide)
  rw [show ((52 : Nat) : Int) = 52 from rfl, p52, Nat.mod_eq_of_lt (by omega)] at e2
  rw [e1, e2, bitsI_or (word_lt s (by decide) ht) (by omega), word_parts, word_parts]
  have e3 : y * 4503599627370496 = 2 ^ 52 * (2 ^ 11 * 0 + y) + 0 := by rw [p52]; omega
  rw [e3, ← p52, ← p11, or_split (by rw [p52]; exact ht) (by decide), or_split (by decide) (by rw [p11]; exact hy), Nat.or_zero, Nat.or_zero, Nat.zero_or]
theorem exp_tab2 : ∀ a, a < 64 → ∀ b, b < 64 → bitsI .and .i64 (IntKind.i64.wrap ((64 * a + b : Nat) : Int)) (2047 : Int) = (((64 * a + b) % 2048 : Nat) : Int) := by decide +kernel
theorem exp_tab (m : Nat) (h : m < 4096) : bitsI .and .i64 (IntKind.i64.wrap ((m : Nat) : Int)) (2047 : Int) = ((m % 2048 : Nat) : Int) := by
  have := exp_tab2 (m / 64) (by omega) (m % 64) (by omega)
  rw [Nat.div_add_mod] at this
  exact this
/-- A word's exponent. -/
theorem get_exp (s : Bool) {E t : Nat} (hE : E < 2048) (ht : t < 4503599627370496) :
    bitsI .and .i64 (IntKind.i64.wrap (Int.fdiv ((wordN s (E * 4503599627370496 + t) : Nat) : Int) (2 ^ min (Int.toNat (52 : Int)) IntKind.u64.bits))) (2047 : Int) = (E : Int) := by
  have e2 := fdiv_pow (x := wordN s (E * 4503599627370496 + t)) (s := 52) (by decide)
  rw [show ((52 : Nat) : Int) = 52 from rfl, p52] at e2
  have hs : s.toNat ≤ 1 := by cases s <;> decide
  have e3 : wordN s (E * 4503599627370496 + t) / 4503599627370496 = 2048 * s.toNat + E := by rw [word_parts]; omega
  rw [e2, e3, exp_tab _ (by omega)]
  omega
/-- What is known of a normal pattern. -/
theorem norm_pat (s : Bool) {E t : Nat} (h0 : 0 < E) (hE : E < 2047) (ht : t < 4503599627370496) :
    I64 (pat s (E * 4503599627370496 + t)) ∧ isFin (pat s (E * 4503599627370496 + t)) = true ∧ fV (pat s (E * 4503599627370496 + t)) = Ieee.signed s (4503599627370496 + t) (E - 1) ∧ wd (pat s (E * 4503599627370496 + t)) = wordN s (E * 4503599627370496 + t) ∧
    rk (pat s (E * 4503599627370496 + t)) = (if s then -((E * 4503599627370496 + t : Nat) : Int) else ((E * 4503599627370496 + t : Nat) : Int)) := by
  have h1 : E * 4503599627370496 + t = (E - 1) * 4503599627370496 + (4503599627370496 + t) := by omega
  obtain ⟨f, v⟩ := fV_pat s (j := E - 1) (k := 4503599627370496 + t) (by omega) (by omega) (by omega)
  rw [← h1] at f v
  exact ⟨pat_I64 (by omega), f, v, Go.Eng.wd_pat (by omega), rk_pat (by omega)⟩
theorem p1_val : fV P1 = ((2 ^ UN : Nat) : Int) := by decide +kernel
/-- 1 times it. -/
theorem one_mulP (s : Bool) {E t : Nat} (h0 : 0 < E) (hE : E < 2046) (ht : t < 4503599627370496) : mulP P1 (pat s (E * 4503599627370496 + t)) = pat s (E * 4503599627370496 + t) := by
  obtain ⟨ib, fb, vb, wb, rb⟩ := norm_pat s h0 (show E < 2047 by omega) ht
  have f1 : isFin P1 = true := by decide
  have hna : (fV (pat s (E * 4503599627370496 + t))).natAbs = (4503599627370496 + t) * 2 ^ (E - 1) := by
    rw [vb, signed_nat]
    cases s
    · rw [if_neg (by decide)]; omega
    · rw [if_pos rfl]; omega
  have hlt : (fV (pat s (E * 4503599627370496 + t))).natAbs < 3 * 2 ^ (51 + E) := by
    rw [hna, show 51 + E = 52 + (E - 1) by omega, Nat.pow_add, p52]
    have hp : 0 < 2 ^ (E - 1) := Nat.pow_pos (by decide)
    generalize 2 ^ (E - 1) = q at *
    have : (4503599627370496 + t) * q ≤ 9007199254740992 * q := Nat.mul_le_mul_right _ (by omega)
    omega
  obtain ⟨fm, vm⟩ := mulP_fV f1 fb (K := E) (by omega) (W := UN) un_eq (V := fV (pat s (E * 4503599627370496 + t))) (by rw [p1_val, Int.mul_comm]) hlt
  rw [rnd_exact (fl_fV _)] at vm
  have im := mulP_I64 P1 (pat s (E * 4503599627370496 + t))
  have hr := (fV_rk im ib fm fb).2.1 vm
  have z : ∀ x : Int, rk x ≠ 0 → x ≠ -9223372036854775808 := fun x hx e => hx (by rw [e]; rfl)
  have hrk : rk (pat s (E * 4503599627370496 + t)) ≠ 0 := by rw [rb]; split <;> omega
  exact rk_inj im ib (z _ (by rw [hr]; exact hrk)) (z _ hrk) hr
theorem eqo {x y : Int} : (some (compareOfLessAndEq x y) == some Ordering.eq) = decide (x = y) := by
  unfold compareOfLessAndEq
  by_cases h : x < y
  · rw [if_pos h, decide_eq_false (by omega)]; rfl
  · rw [if_neg h]
    by_cases h2 : x = y
    · rw [if_pos h2, decide_eq_true h2]; rfl
    · rw [if_neg h2, decide_eq_false h2]; rfl
/-- math.normalize, of a normal one. -/
theorem K184n (s : Bool) {E t : Nat} (h0 : 0 < E) (hE : E < 2047) (ht : t < 4503599627370496) (H : R (.returned (.tuple #[.float .f64 (wd (pat s (E * 4503599627370496 + t))), .int .i64 (0 : Int)])) h) :
    Ent Tryz.prog B 163 #[.float .f64 (wd (pat s (E * 4503599627370496 + t)))] R h := by
  obtain ⟨ib, fb, vb, wb, rb⟩ := norm_pat s h0 hE ht
  obtain ⟨ia, fa, va, wa, ra⟩ := norm_pat false h0 hE ht
  refine F184_ok _ (F94_ok _ (E117 ⟨_, rfl, ?_⟩))
  rw [andNot_top (wd_lt _)]
  refine E116 ⟨_, rfl, _, rfl, ?_⟩
  have hm : wd (pat s (E * 4503599627370496 + t)) % 9223372036854775808 = wd (pat false (E * 4503599627370496 + t)) := by
    rw [wb, wa]
    unfold wordN
    cases s
    · simp only [Bool.false_eq_true, if_false]; omega
    · simp only [if_true, Bool.false_eq_true, if_false]; omega
  have hlt : (FloatKind.f64.format.order (wd (pat s (E * 4503599627370496 + t)) % 9223372036854775808) 4503599627370496 == some .lt) = false := by
    have e := order_rk ia (b := 4503599627370496) (by unfold I64; omega) (fin_not fa).1 (by decide)
    rw [show wd 4503599627370496 = 4503599627370496 from by decide, show rk 4503599627370496 = 4503599627370496 from by decide] at e
    rw [hm, e, lt_ord, ra, if_neg (by decide)]
    exact decide_eq_false (by omega)
  rw [hlt]
  exact ⟨fun e => (by cases e), fun _ => H⟩
/-- math.Ldexp, of a fraction, by 53. -/
theorem K93f (s : Bool) {t : Nat} (ht : t < 4503599627370496) (H : R (.returned (.float .f64 (wd (pat s (1075 * 4503599627370496 + t))))) h) : Ent Tryz.prog B 100 #[.float .f64 (wd (pat s (1022 * 4503599627370496 + t))), .int .i64 (53 : Int)] R h := by
  obtain ⟨ib, fb, vb, wb, rb⟩ := norm_pat s (E := 1022) (by decide) (by decide) ht
  obtain ⟨ic, fc, vc, wc, rc⟩ := norm_pat s (E := 1075) (by decide) (by decide) ht
  have hrk : rk (pat s (1022 * 4503599627370496 + t)) ≠ 0 := by rw [rb]; split <;> omega
  have hnan := (fin_not fb).1
  have hinf := (fin_not fb).2
  refine F93_ok _ _ ⟨fun e => (by cases e), fun _ => F152_ok _ _ ?_⟩
  unfold F152
  rw [order_0 ib hnan, eqo, decide_eq_false hrk]
  refine ⟨fun e => (by cases e), fun _ => K118 (wd_lt _) ⟨_, rfl, ?_⟩⟩
  rw [sg_wd ib, hinf]
  refine ⟨fun e => (by cases e), fun _ => F183_ok _ ⟨_, rfl, ?_⟩⟩
  have hs : (FloatKind.f64.format.order (wd (pat s (1022 * 4503599627370496 + t))) (wd (pat s (1022 * 4503599627370496 + t))) != some .eq) = isNaN (sg (wd (pat s (1022 * 4503599627370496 + t)))) := order_self (wd_lt _)
  rw [hs, sg_wd ib, hnan]
  refine ⟨fun e => (by cases e), fun _ => K184n s (by decide) (by decide) ht ⟨_, _, rfl, E117 ⟨_, rfl, by decide, ?_⟩⟩⟩
  rw [wb]
  have he : IntKind.i64.wrap ((IntKind.i64.wrap ((53 : Int) + (0 : Int))) + (IntKind.i64.wrap ((bitsI .and .i64 (IntKind.i64.wrap (Int.fdiv ((wordN s (1022 * 4503599627370496 + t) : Nat) : Int) (2 ^ min (Int.toNat (52 : Int)) IntKind.u64.bits))) (2047 : Int)) - (1023 : Int)))) = 52 := by
    rw [get_exp s (by decide) ht]; decide
  rw [he]
  refine ⟨fun e => absurd e (by decide), fun _ => ⟨fun e => absurd e (by decide), fun _ => ⟨fun e => absurd e (by decide), fun _ => ⟨by decide, ?_⟩⟩⟩⟩
  have hx : IntKind.i64.wrap ((52 : Int) + (1023 : Int)) = ((1075 : Nat) : Int) := by decide
  rw [hx, set_exp s (by decide) ht (by decide)]
  refine E116 ⟨_, rfl, ?_⟩
  rw [← wc]
  have w1 : WI 4607182418800017408 P1 := ⟨by decide, by decide +kernel⟩
  have w2 := wi_wd ic
  rw [fin_nrm fc] at w2
  refine w1.mul w2 fun z hz => ⟨_, rfl, ?_⟩
  rw [one_mulP s (by decide) (by decide) ht] at hz
  have : z = wd (pat s (1075 * 4503599627370496 + t)) := by rw [← wd_sg hz.1, hz.eq (fin_not fc).1]
  rw [this]
  exact H
end Go.Proofs
set_option linter.unusedVariables false
/-! A finite float as a fraction and an exponent; the whole number of it. -/
namespace Go.Proofs
open Go Go.Eng
variable {B : World} {R : Ending → Heap → Prop} {h : Heap}
/-- A finite pattern's parts. -/
theorem pat_parts {c : Int} (ic : I64 c) (fc : isFin c = true) : ∃ s E t, c = pat s (E * 4503599627370496 + t) ∧ E < 2047 ∧ t < 4503599627370496 ∧ fE c = E ∧ fT c = t := by
  obtain ⟨s, k, hk, rfl⟩ := as_pat ic (fin_not fc).1
  have h63 : k < 9223372036854775808 := by omega
  have e1 := pat_fE s h63
  have e2 := pat_fT s h63
  unfold isFin at fc
  have := of_decide_eq_true fc
  refine ⟨s, k / 4503599627370496, k % 4503599627370496, ?_, by omega, Nat.mod_lt _ (by decide), e1, e2⟩
  congr 1; omega
abbrev P52 : Int := 4841369599423283200
theorem p52_val : fV P52 = 4503599627370496 * ((2 ^ UN : Nat) : Int) := by decide +kernel
/-- A float below the normal ones, 2^52 times. -/
theorem sub_norm {b : Int} (ib : I64 b) (fb : isFin b = true) (hE : fE b = 0) (h0 : fV b ≠ 0) : ∃ s E t, mulP b P52 = pat s (E * 4503599627370496 + t) ∧ 0 < E ∧ E < 2047 ∧ t < 4503599627370496 ∧ fV (mulP b P52) = fV b * 4503599627370496 := by
  have f2 : isFin P52 = true := by decide
  have hx : fX b = -1074 := by unfold fX; rw [if_pos hE]
  have hab := absV b
  have hM : fM b < 4503599627370496 := by unfold fM; rw [if_pos hE]; exact fT_lt b
  have hab : (fV b).natAbs = fM b := by rw [hab, hx]; show fM b * 2 ^ 0 = fM b; rw [Nat.pow_zero, Nat.mul_one]
  have hna : (fV b * 4503599627370496).natAbs = (fV b).natAbs * 4503599627370496 := by rw [Int.natAbs_mul]; rfl
  have hlt : (fV b * 4503599627370496).natAbs < 3 * 2 ^ (51 + 53) := by
    rw [hna, hab, show (3 : Nat) * 2 ^ (51 + 53) = 60847228810955011271841753858048 from by decide]; omega
  obtain ⟨fm, vm⟩ := mulP_fV fb f2 (K := 53) (by omega) (W := UN) un_eq (V := fV b * 4503599627370496) (by rw [p52_val, Int.mul_assoc]) hlt
  have hfl : Fl (fV b * 4503599627370496) := ⟨(fV b).natAbs, 52, by rw [hna, p52], by omega⟩
  rw [rnd_exact hfl] at vm
  have im := mulP_I64 b P52
  obtain ⟨s, E, t, e, h1, h2, e3, e4⟩ := pat_parts im fm
  refine ⟨s, E, t, e, ?_, h1, h2, vm⟩
  rcases Nat.eq_zero_or_pos E with hz | hz
  · exfalso
    have a1 := absV (mulP b P52)
    have a2 : fX (mulP b P52) = -1074 := by unfold fX; rw [if_pos (by rw [e3]; exact hz)]
    have a3 : fM (mulP b P52) = t := by unfold fM; rw [if_pos (by rw [e3]; exact hz), e4]
    rw [a2, a3] at a1
    have a4 : (fV (mulP b P52)).natAbs = t := by rw [a1]; show t * 2 ^ 0 = t; rw [Nat.pow_zero, Nat.mul_one]
    rw [vm, hna] at a4
    omega
  · exact hz
/-- The whole number of a fraction. -/
def frW (s : Bool) (t : Nat) : Int := if s then -((4503599627370496 + t : Nat) : Int) else ((4503599627370496 + t : Nat) : Int)
theorem fr_val (s : Bool) {t : Nat} (ht : t < 4503599627370496) : fV (pat s (1075 * 4503599627370496 + t)) = frW s t * (UW : Int) := by
  obtain ⟨_, _, v, _, _⟩ := norm_pat s (E := 1075) (by decide) (by decide) ht
  have hU : ((2 ^ (1075 - 1) : Nat) : Int) = (UW : Int) := by rw [uw_pow (N := 1075 - 1) rfl]
  rw [v, signed_nat]
  unfold frW
  cases s
  · rw [if_neg (by decide), if_neg (by decide), Int.natCast_mul, hU]
  · rw [if_pos rfl, if_pos rfl, Int.natCast_mul, hU, Int.neg_mul]
/-- The int of it. -/
theorem fr_toInt (s : Bool) {t : Nat} (ht : t < 4503599627370496) {K : Int → Prop} (H : K (frW s t)) : cviW .f64 (wd (pat s (1075 * 4503599627370496 + t))) .i64 K := by
  obtain ⟨i, f, _, _, _⟩ := norm_pat s (E := 1075) (by decide) (by decide) ht
  unfold cviW
  rw [toInt_whole i f (fr_val s ht)]
  have e1 : IntKind.i64.min = -9223372036854775808 := rfl
  have e2 : IntKind.i64.max = 9223372036854775807 := rfl
  have hb : -9007199254740992 < frW s t ∧ frW s t < 9007199254740992 := by unfold frW; cases s <;> simp only [Bool.false_eq_true, if_false, if_true] <;> omega
  exact ⟨fun _ => H, fun x => absurd ⟨by rw [e1]; omega, by rw [e2]; omega⟩ x⟩
/-- A normal one's value by its fraction. -/
theorem norm_val (s : Bool) {E t : Nat} (h0 : 0 < E) (hE : E < 2047) (ht : t < 4503599627370496) : fV (pat s (E * 4503599627370496 + t)) = frW s t * ((2 ^ (E - 1) : Nat) : Int) := by
  obtain ⟨_, _, v, _, _⟩ := norm_pat s h0 hE ht
  rw [v, signed_nat]
  unfold frW
  cases s
  · rw [if_neg (by decide), if_neg (by decide), Int.natCast_mul]
  · rw [if_pos rfl, if_pos rfl, Int.natCast_mul, Int.neg_mul]
end Go.Proofs
set_option linter.unusedVariables false
/-! For math.Frexp; sums of lists of floats. -/
namespace Go.Proofs
open Go Go.Eng
/-- An exponent put into a word without one. -/
theorem put_exp (s : Bool) {t y : Nat} (ht : t < 4503599627370496) (hy : y < 2048) : bitsI .or .u64 ((wordN s (0 * 4503599627370496 + t) : Nat) : Int) ((y * 4503599627370496 : Nat) : Int) = ((wordN s (y * 4503599627370496 + t) : Nat) : Int) := by
  rw [bitsI_or (word_lt s (by decide) ht) (by omega), word_parts, word_parts]
  have e3 : y * 4503599627370496 = 2 ^ 52 * (2 ^ 11 * 0 + y) + 0 := by rw [p52]; omega
  rw [e3, ← p52, ← p11, or_split (by rw [p52]; exact ht) (by decide), or_split (by decide) (by rw [p11]; exact hy), Nat.or_zero, Nat.or_zero, Nat.zero_or]
theorem frac_word (s : Bool) {E t : Nat} (hE : E < 2048) (ht : t < 4503599627370496) : bitsI .or .u64 (bitsI .andNot .u64 ((wordN s (E * 4503599627370496 + t) : Nat) : Int) (9218868437227405312 : Int)) (4602678819172646912 : Int) = ((wordN s (1022 * 4503599627370496 + t) : Nat) : Int) := by
  rw [clear_exp s hE ht]
  exact put_exp s ht (y := 1022) (by decide)
/-- A word's exponent, read without a sign. -/
theorem get_expU (s : Bool) {E t : Nat} (hE : E < 2048) (ht : t < 4503599627370496) :
    bitsI .and .u64 (Int.fdiv ((wordN s (E * 4503599627370496 + t) : Nat) : Int) (2 ^ min (Int.toNat (52 : Int)) IntKind.u64.bits)) (2047 : Int) = (E : Int) := by
  have e2 := fdiv_pow (x := wordN s (E * 4503599627370496 + t)) (s := 52) (by decide)
  rw [show ((52 : Nat) : Int) = 52 from rfl, p52] at e2
  have hs : s.toNat ≤ 1 := by cases s <;> decide
  have e3 : wordN s (E * 4503599627370496 + t) / 4503599627370496 = 2048 * s.toNat + E := by rw [word_parts]; omega
  rw [e2, e3]
  have e4 := bitsI_and (a := 2048 * s.toNat + E) (b := 2047) (by omega)
  rw [show ((2047 : Nat) : Int) = 2047 from rfl] at e4
  rw [e4, show (2047 : Nat) % 18446744073709551616 = 2047 from rfl, show (2048 * s.toNat + E) &&& 2047 = (2048 * s.toNat + E) % 2 ^ 11 from Nat.and_two_pow_sub_one_eq_mod _ 11, p11]
  omega
/-- A finite float other than 0, as math.Frexp tells it: the fraction's sign and digits, and the exponent that is told. -/
def frP (b : Int) : Int := if fE b = 0 then mulP b P52 else b
def frS (b : Int) : Bool := decide (frP b < 0)
def frT (b : Int) : Nat := fT (frP b)
def frE (b : Int) : Int := (if fE b = 0 then -52 else 0) + (fE (frP b) : Int) - 1022
/-- The value of it. -/
theorem fr_spec {b : Int} (ib : I64 b) (fb : isFin b = true) (h0 : fV b ≠ 0) : ∃ E, frP b = pat (frS b) (E * 4503599627370496 + frT b) ∧ 0 < E ∧ E < 2047 ∧ frT b < 4503599627370496 ∧ frE b = (if fE b = 0 then -52 else 0) + (E : Int) - 1022 ∧
    -1126 ≤ frE b ∧ frE b ≤ 1024 ∧ fV b * 4503599627370496 = frW (frS b) (frT b) * ((2 ^ (frE b - 53 + 1126).toNat : Nat) : Int) := by
  by_cases hE : fE b = 0
  · obtain ⟨s, E, t, e, e1, e2, ht, v⟩ := sub_norm ib fb hE h0
    have h63 : E * 4503599627370496 + t < 9223372036854775808 := by omega
    have hP : frP b = pat s (E * 4503599627370496 + t) := by unfold frP; rw [if_pos hE]; exact e
    have hS : frS b = s := by unfold frS; rw [hP]; exact pat_neg s h63
    have hT : frT b = t := by unfold frT; rw [hP, pat_fT s h63]; omega
    have hF : fE (frP b) = E := by rw [hP, pat_fE s h63]; omega
    have hX : frE b = -52 + (E : Int) - 1022 := by unfold frE; rw [if_pos hE, hF]
    rw [hS, hT, if_pos hE]
    have hv := norm_val s e1 e2 ht
    rw [← e, v] at hv
    refine ⟨E, hP, e1, e2, ht, hX, by omega, by omega, ?_⟩
    rw [hv, hX, show (-52 + (E : Int) - 1022 - 53 + 1126).toNat = E - 1 by omega]
  · obtain ⟨s, E, t, e, e2, ht, e3, e4⟩ := pat_parts ib fb
    have h63 : E * 4503599627370496 + t < 9223372036854775808 := by omega
    have e1 : 0 < E := by omega
    have hP : frP b = pat s (E * 4503599627370496 + t) := by unfold frP; rw [if_neg hE]; exact e
    have hS : frS b = s := by unfold frS; rw [hP]; exact pat_neg s h63
    have hT : frT b = t := by unfold frT; rw [hP, pat_fT s h63]; omega
    have hF : fE (frP b) = E := by rw [hP, pat_fE s h63]; omega
    have hX : frE b = 0 + (E : Int) - 1022 := by unfold frE; rw [if_neg hE, hF]
    rw [hS, hT, if_neg hE]
    have hv := norm_val s e1 e2 ht
    rw [← e] at hv
    refine ⟨E, hP, e1, e2, ht, hX, by omega, by omega, ?_⟩
    rw [hv, hX, show (0 + (E : Int) - 1022 - 53 + 1126).toNat = (E - 1) + 52 by omega, Nat.pow_add, p52, Int.natCast_mul, Int.mul_assoc]
    rfl
/-- The sum of a list of floats. -/
def sV : List Int → Int
  | [] => 0
  | a :: l => fV a + sV l
theorem sV_append (a b : List Int) : sV (a ++ b) = sV a + sV b := by
  induction a with
  | nil => simp [sV]
  | cons x l ih => simp only [List.cons_append, sV, ih]; omega
end Go.Proofs
