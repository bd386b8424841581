import Derived.Test.YtoclhdcpjlcdiaaGreatFmtA59
import Derived.Test.YtoclhdcpjlcdiaaGreatFmtA56
import Derived.Test.YtoclhdcpjlcdiaaGreatFmtA33
/- Here stand lemmas: a float made whole, and the float of an int. -/
set_option linter.unusedVariables false
set_option linter.unusedVariables false
/-! A float made whole, in the four ways. -/
namespace Go.Eng
open Go
/-- What is added to the whole part. -/
def moreT (way : Ieee.Toward) (neg : Bool) (g low rest : Nat) : Bool := match way with
  | .even => decide (g < 2 * rest) || (g == 2 * rest && low % 2 == 1)
  | .down => neg && rest != 0
  | .up => !neg && rest != 0
  | .zero => false
theorem cut_at (way : Ieee.Toward) (neg : Bool) (n d : Nat) : way.cut neg n d = n / 2 ^ d + (moreT way neg (2 ^ d) (n / 2 ^ d) (n % 2 ^ d)).toNat := by
  have hn : n < 2 ^ (n.log2 + 1) := Nat.lt_log2_self
  have small : ∀ k, n.log2 + 2 ≤ k → n / 2 ^ k = 0 ∧ n % 2 ^ k = n ∧ 2 * n < 2 ^ k := by
    intro k hk
    have h1 : 2 ^ (n.log2 + 2) ≤ 2 ^ k := Nat.pow_le_pow_right (by decide) hk
    have h2 : 2 ^ (n.log2 + 2) = 2 ^ (n.log2 + 1) * 2 := Nat.pow_succ ..
    exact ⟨Nat.div_eq_of_lt (by omega), Nat.mod_eq_of_lt (by omega), by omega⟩
  have hL : way.cut neg n d = n / (1 <<< min d (n.log2 + 2)) + (moreT way neg (1 <<< min d (n.log2 + 2)) (n / (1 <<< min d (n.log2 + 2))) (n % (1 <<< min d (n.log2 + 2)))).toNat := by
    cases way <;> rfl
  rw [hL]
  simp only [Nat.shiftLeft_eq, Nat.one_mul]
  by_cases h : d ≤ n.log2 + 2
  · rw [Nat.min_eq_left h]
  · rw [Nat.min_eq_right (by omega)]
    obtain ⟨a1, a2, a3⟩ := small (n.log2 + 2) (Nat.le_refl _)
    obtain ⟨b1, b2, b3⟩ := small d (by omega)
    rw [a1, a2, b1, b2]
    cases way <;> unfold moreT
    · rw [decide_eq_false (by omega), decide_eq_false (by omega), show (2 ^ (n.log2 + 2) == 2 * n) = false from by simpa using (by omega : ¬ 2 ^ (n.log2 + 2) = 2 * n), show (2 ^ d == 2 * n) = false from by simpa using (by omega : ¬ 2 ^ d = 2 * n)]
    · rfl
    · rfl
    · rfl
theorem moreT_scale (way : Ieee.Toward) (neg : Bool) (g low rest : Nat) {k : Nat} (hk : 0 < k) : moreT way neg (g * k) low (rest * k) = moreT way neg g low rest := by
  have h1 : (g * k < 2 * (rest * k)) ↔ (g < 2 * rest) := by rw [← Nat.mul_assoc]; exact Nat.mul_lt_mul_right hk
  have h2 : (g * k = 2 * (rest * k)) ↔ (g = 2 * rest) := by rw [← Nat.mul_assoc]; exact Nat.mul_left_inj (by omega)
  have h3 : (rest * k = 0) ↔ (rest = 0) := by
    constructor
    · intro h; rcases Nat.mul_eq_zero.1 h with h | h <;> omega
    · intro h; rw [h, Nat.zero_mul]
  have e2 : (g * k == 2 * (rest * k)) = (g == 2 * rest) := by
    rw [Bool.eq_iff_iff]; simp only [beq_iff_eq, h2]
  have e3 : (rest * k != 0) = (rest != 0) := by
    rw [Bool.eq_iff_iff]; simp only [bne_iff_ne, ne_eq, h3]
  unfold moreT
  cases way
  · simp only [h1, e2]
  · simp only [e3]
  · simp only [e3]
  · rfl
/-- The whole number of a number of units (sign aside): W units make 1. -/
def wholeN (way : Ieee.Toward) (neg : Bool) (W x : Nat) : Nat := x / W + (moreT way neg W (x / W) (x % W)).toNat
/-- Made whole, m times 2^i is the whole number of its units. -/
theorem cut_units {N : Nat} (hN : N = 1074) (way : Ieee.Toward) (neg : Bool) (m : Nat) (i : Int) (hi : -1074 ≤ i) : way.cut neg (m <<< i.toNat) (-i).toNat = wholeN way neg (2 ^ N) (m * 2 ^ (i + 1074).toNat) := by
  rw [cut_at, Nat.shiftLeft_eq]
  unfold wholeN
  rcases Int.lt_or_le i 0 with h | h
  · have e1 : i.toNat = 0 := by omega
    have e2 : (-i).toNat + (i + 1074).toNat = N := by omega
    rw [e1, Nat.pow_zero, Nat.mul_one, ← e2, Nat.pow_add, Nat.mul_div_mul_right _ _ (Nat.pow_pos (by decide)), Nat.mul_mod_mul_right, moreT_scale _ _ _ _ _ (Nat.pow_pos (by decide))]
  · have e1 : (-i).toNat = 0 := by omega
    have e2 : (i + 1074).toNat = i.toNat + N := by omega
    have hp : 0 < 2 ^ N := Nat.pow_pos (by decide)
    rw [e1, e2, Nat.pow_zero, Nat.div_one, Nat.mod_one, Nat.pow_add, ← Nat.mul_assoc, Nat.mul_div_cancel _ hp, Nat.mul_mod_left]
    congr 2
    have := moreT_scale way neg 1 (m * 2 ^ i.toNat) 0 hp
    rw [Nat.one_mul, Nat.zero_mul] at this
    exact this.symm
/-- The whole number with its sign. -/
def wholeI (way : Ieee.Toward) (W : Nat) (x : Int) : Int := if x < 0 then -(wholeN way true W x.natAbs : Int) else (wholeN way false W x.natAbs : Int)
theorem whole_parts (way : Ieee.Toward) (neg : Bool) {W : Nat} (hW : 0 < W) (x : Nat) : ∃ q r t, x = q * W + r ∧ r < W ∧ wholeN way neg W x = q + t ∧ t ≤ 1 ∧ (r = 0 → t = 0) ∧ (way = .zero → t = 0) ∧ (way = .down → (t = 1 ↔ (neg = true ∧ r ≠ 0))) ∧ (way = .up → (t = 1 ↔ (neg = false ∧ r ≠ 0))) := by
  refine ⟨x / W, x % W, _, ?_, Nat.mod_lt _ hW, rfl, ?_, ?_, ?_, ?_, ?_⟩
  · rw [Nat.mul_comm]; exact (Nat.div_add_mod x W).symm
  · cases moreT way neg W (x / W) (x % W) <;> decide
  · intro h
    rw [h]
    unfold moreT
    cases way
    · rw [decide_eq_false (by omega), show (W == 2 * 0) = false from by simpa using (by omega : ¬ W = 0)]; rfl
    · cases neg <;> rfl
    · cases neg <;> rfl
    · rfl
  · intro h; subst h; rfl
  · intro h; subst h
    unfold moreT
    cases neg
    · simp
    · by_cases hr : x % W = 0
      · rw [hr]; simp
      · have : (x % W != 0) = true := by simpa using hr
        rw [this]; simp [hr]
  · intro h; subst h
    unfold moreT
    cases neg
    · by_cases hr : x % W = 0
      · rw [hr]; simp
      · have : (x % W != 0) = true := by simpa using hr
        rw [this]; simp [hr]
    · simp
theorem uqW {W a b c d : Nat} (h : a * W + b = c * W + d) (hb : b < W) (hd : d < W) : a = c ∧ b = d := by
  have h1 : a = c := by
    rcases Nat.lt_trichotomy a c with k | k | k
    · have := Nat.mul_le_mul_right W (show a + 1 ≤ c from k)
      rw [Nat.add_mul, Nat.one_mul] at this
      omega
    · exact k
    · have := Nat.mul_le_mul_right W (show c + 1 ≤ a from k)
      rw [Nat.add_mul, Nat.one_mul] at this
      omega
  subst h1
  exact ⟨rfl, by omega⟩
/-- Down and up enclose; to 0 and to the nearest are one of both. -/
theorem whole_law {W : Nat} (hW : 0 < W) {x p q z m : Int} (hp : p = wholeI .down W x) (hq : q = wholeI .up W x) (hz : z = wholeI .zero W x) (hm : m = wholeI .even W x) :
    p * (W : Int) ≤ x ∧ x ≤ q * (W : Int) ∧ q - p ≤ 1 ∧ p ≤ q ∧ (q = p → p * (W : Int) = x) ∧ z = (if x < 0 then q else p) ∧ (m = p ∨ m = q) ∧ (x = 0 → p = 0 ∧ q = 0) := by
  have hmul : ∀ (a t : Nat), ((a + t : Nat) : Int) * (W : Int) = ((a * W : Nat) : Int) + ((t * W : Nat) : Int) := fun a t => by
    rw [← Int.natCast_mul, Nat.add_mul, Int.natCast_add]
  have h01 : ∀ t : Nat, t ≤ 1 → t = 0 ∨ t = 1 := fun t h => by omega
  have go : ∀ ng : Bool, ∃ a r t1 t2 t4, x.natAbs = a * W + r ∧ r < W ∧ wholeN .down ng W x.natAbs = a + t1 ∧ wholeN .up ng W x.natAbs = a + t2 ∧ wholeN .zero ng W x.natAbs = a ∧ wholeN .even ng W x.natAbs = a + t4 ∧ t1 ≤ 1 ∧ t2 ≤ 1 ∧ t4 ≤ 1 ∧ (r = 0 → t4 = 0) ∧ (t1 = 1 ↔ (ng = true ∧ r ≠ 0)) ∧ (t2 = 1 ↔ (ng = false ∧ r ≠ 0)) := fun ng => by
    obtain ⟨a, r, t, e, hr, w, t1, t2, _, t3, _⟩ := whole_parts .down ng hW x.natAbs
    obtain ⟨a', r', t', e', hr', w', t1', t2', _, _, t3'⟩ := whole_parts .up ng hW x.natAbs
    obtain ⟨a2, r2, s2, e2, hr2, w2, _, _, z2, _, _⟩ := whole_parts .zero ng hW x.natAbs
    obtain ⟨a3, r3, s3, e3, hr3, w3, k3, k4, _, _, _⟩ := whole_parts .even ng hW x.natAbs
    obtain ⟨rfl, rfl⟩ := uqW (e.symm.trans e') hr hr'
    obtain ⟨rfl, rfl⟩ := uqW (e.symm.trans e2) hr hr2
    obtain ⟨rfl, rfl⟩ := uqW (e.symm.trans e3) hr hr3
    have z2 := z2 rfl
    subst z2
    exact ⟨a, r, t, t', s3, e, hr, w, w', w2, w3, t1, t1', k3, k4, t3 rfl, t3' rfl⟩
  unfold wholeI at hp hq hz hm
  by_cases hx : x < 0
  · obtain ⟨a, r, t1, t2, t4, e, hr, w1, w2, w3, w4, b1, b2, b4, c4, c1, c2⟩ := go true
    rw [if_pos hx] at hp hq hz hm ⊢
    rw [w1] at hp; rw [w2] at hq; rw [w3] at hz; rw [w4] at hm
    have ht2 : t2 = 0 := by rcases h01 t2 b2 with k | k; exact k; exact absurd (c2.1 k).1 (by decide)
    subst ht2
    rw [Nat.add_zero] at hq
    have a1 := hmul a t1
    have a2 := hmul a 0
    rw [Nat.zero_mul, Nat.add_zero] at a2
    have ha : (a * W : Nat) = 0 → a = 0 := fun h => by rcases Nat.mul_eq_zero.1 h with h | h <;> omega
    have hp' : p * (W : Int) = -(((a + t1 : Nat) : Int) * (W : Int)) := by rw [hp, Int.neg_mul]
    have hq' : q * (W : Int) = -((a : Int) * (W : Int)) := by rw [hq, Int.neg_mul]
    rw [a1] at hp'
    rw [a2] at hq'
    generalize p * (W : Int) = PW at *
    generalize q * (W : Int) = QW at *
    rcases h01 t1 b1 with k | k
    · subst k
      have hr0 : r = 0 := by
        rcases Nat.eq_zero_or_pos r with y | y
        · exact y
        · have := c1.2 ⟨rfl, by omega⟩; omega
      have h4 := c4 hr0
      subst h4 hr0
      rw [Nat.zero_mul] at hp'
      generalize a * W = A at *
      refine ⟨by omega, by omega, by omega, by omega, fun _ => by omega, by omega, .inl (by omega), fun h => by omega⟩
    · subst k
      have hr0 : r ≠ 0 := (c1.1 rfl).2
      rw [Nat.one_mul] at hp'
      generalize a * W = A at *
      refine ⟨by omega, by omega, by omega, by omega, fun h => by omega, by omega, ?_, fun h => by omega⟩
      rcases h01 t4 b4 with y | y
      · right; omega
      · left; omega
  · obtain ⟨a, r, t1, t2, t4, e, hr, w1, w2, w3, w4, b1, b2, b4, c4, c1, c2⟩ := go false
    rw [if_neg hx] at hp hq hz hm ⊢
    rw [w1] at hp; rw [w2] at hq; rw [w3] at hz; rw [w4] at hm
    have ht1 : t1 = 0 := by rcases h01 t1 b1 with k | k; exact k; exact absurd (c1.1 k).1 (by decide)
    subst ht1
    rw [Nat.add_zero] at hp
    have a1 := hmul a t2
    have a2 := hmul a 0
    rw [Nat.zero_mul, Nat.add_zero] at a2
    have ha : (a * W : Nat) = 0 → a = 0 := fun h => by rcases Nat.mul_eq_zero.1 h with h | h <;> omega
    have hp' : p * (W : Int) = (a : Int) * (W : Int) := by rw [hp]
    have hq' : q * (W : Int) = ((a + t2 : Nat) : Int) * (W : Int) := by rw [hq]
    rw [a1] at hq'
    rw [a2] at hp'
    generalize p * (W : Int) = PW at *
    generalize q * (W : Int) = QW at *
    rcases h01 t2 b2 with k | k
    · subst k
      have hr0 : r = 0 := by
        rcases Nat.eq_zero_or_pos r with y | y
        · exact y
        · have := c2.2 ⟨rfl, by omega⟩; omega
      have h4 := c4 hr0
      subst h4 hr0
      rw [Nat.zero_mul] at hq'
      generalize a * W = A at *
      refine ⟨by omega, by omega, by omega, by omega, fun _ => by omega, by omega, .inl (by omega), fun h => ?_⟩
      have := ha (by omega)
      omega
    · subst k
      have hr0 : r ≠ 0 := (c2.1 rfl).2
      rw [Nat.one_mul] at hq'
      generalize a * W = A at *
      refine ⟨by omega, by omega, by omega, by omega, fun h => by omega, by omega, ?_, fun h => by omega⟩
      rcases h01 t4 b4 with y | y
      · left; omega
      · right; omega
end Go.Eng
set_option linter.unusedVariables false
/-! A float made whole, as a float, and as an int. -/
namespace Go.Proofs
open Go Go.Eng
/-- So many units make 1. -/
def UN : Nat := 1074
def UW : Nat := 2 ^ UN
theorem uw_pos : 0 < UW := Nat.pow_pos (by decide)
theorem un_eq : UN = 1074 := rfl
theorem uw_pow {N : Nat} (h : N = 1074) : UW = 2 ^ N := by rw [h.trans un_eq.symm]; rfl
theorem cut_uw (way : Ieee.Toward) (neg : Bool) (m : Nat) (i : Int) (hi : -1074 ≤ i) : way.cut neg (m <<< i.toNat) (-i).toNat = wholeN way neg UW (m * 2 ^ (i + 1074).toNat) := cut_units un_eq way neg m i hi
theorem absV (b : Int) : (fV b).natAbs = fM b * 2 ^ (fX b + 1074).toNat := by
  unfold fV Ieee.signed
  rw [Nat.shiftLeft_eq]
  cases decide (b < 0)
  · rw [if_neg (by decide), Int.natAbs_natCast]
  · rw [if_pos rfl, Int.natAbs_neg, Int.natAbs_natCast]
theorem wd_pat (neg : Bool) {r : Nat} (h : r < 9223372036854775808) : wd (pat neg r) = Ieee.double.word neg r := by
  rw [← sg_word neg h]
  refine wd_sg ?_
  have hw : Ieee.double.word neg r = (if neg then 9223372036854775808 else 0) + r ∨ Ieee.double.word neg r = r + (if neg then 9223372036854775808 else 0) := by
    cases neg
    · right; show Ieee.double.word false r = r + 0; rfl
    · first | (left; rfl) | (right; rfl)
  rcases hw with e | e <;> rw [e] <;> split <;> omega
/-- A float made whole: its pattern. -/
def wholeP (way : Ieee.Toward) (b : Int) : Int := pat (decide (b < 0)) (if wholeN way (decide (b < 0)) UW (fV b).natAbs = 0 then 0 else rung (wholeN way (decide (b < 0)) UW (fV b).natAbs) 0)
theorem rung63' (m : Nat) (e : Int) : rung m e < 9223372036854775808 := by
  have : rung m e ≤ 9218868437227405312 := Nat.min_le_right _ _
  omega
theorem read_fin {b : Int} (ib : I64 b) (fb : isFin b = true) : FloatKind.f64.decode (wd b) = .number (decide (b < 0)) (fM b) (fX b) := by
  show Ieee.double.read (wd b) = _
  rw [read_wd ib, if_pos]
  unfold isFin at fb
  exact of_decide_eq_true fb
theorem whole_word {b : Int} (ib : I64 b) (fb : isFin b = true) (way : Ieee.Toward) : FloatKind.f64.encode ((FloatKind.f64.decode (wd b)).integral way) = wd (wholeP way b) := by
  rw [read_fin ib fb]
  have h1 : (Ieee.Datum.number (decide (b < 0)) (fM b) (fX b)).integral way = .number (decide (b < 0)) (way.cut (decide (b < 0)) (fM b <<< (fX b).toNat) (-(fX b)).toNat) 0 := rfl
  rw [h1, cut_uw _ _ _ _ (fX_ge b), ← absV]
  have h2 : ∀ k, FloatKind.f64.encode (.number (decide (b < 0)) k 0) = Ieee.double.nearest (decide (b < 0)) k 0 := fun k => rfl
  rw [h2]
  unfold wholeP
  generalize wholeN way (decide (b < 0)) UW (fV b).natAbs = k
  by_cases hk : k = 0
  · rw [if_pos hk, hk, wd_pat _ (by decide)]; rfl
  · rw [if_neg hk, nearest_rung _ _ hk, wd_pat _ (rung63' _ _)]
theorem rung_up (k : Nat) {N : Nat} (hN : N = 1074) (hk : k ≠ 0) : rung k 0 = rung (k * 2 ^ N) (-1074) := by
  have := dirP_scale N (-1074) 0 false hk
  rw [show (-1074 : Int) + (N : Int) = 0 by omega, ← rung_dir, ← rung_dir] at this
  exact this.symm
theorem wholeN_le (way : Ieee.Toward) (neg : Bool) (x : Nat) : wholeN way neg UW x ≤ x / UW + 1 ∧ (x % UW = 0 → wholeN way neg UW x = x / UW) := by
  unfold wholeN
  refine ⟨by cases moreT way neg UW (x / UW) (x % UW) <;> simp, fun h => ?_⟩
  rw [h]
  have hp := uw_pos
  unfold moreT
  cases way
  · rw [decide_eq_false (by omega), show (UW == 2 * 0) = false from by simpa using (by omega : ¬ UW = 0)]; simp
  · cases neg <;> simp
  · cases neg <;> simp
  · simp
/-- The whole number is a float. -/
theorem whole_fl {b : Int} (fb : isFin b = true) (way : Ieee.Toward) (neg : Bool) : R53 (wholeN way neg UW (fV b).natAbs * UW) = wholeN way neg UW (fV b).natAbs * UW ∧ ∃ K, K ≤ 2045 ∧ wholeN way neg UW (fV b).natAbs * UW ≤ 9007199254740991 * 2 ^ K := by
  obtain ⟨N, hN⟩ : ∃ N, N = 1074 := ⟨_, rfl⟩
  have hm := fM_lt b
  have hx := fX_lt fb
  have hg := fX_ge b
  have e53 : (2 : Nat) ^ 53 = 9007199254740992 := by decide
  obtain ⟨w1, w2⟩ := wholeN_le way neg (fV b).natAbs
  rw [uw_pow hN] at *
  have hp : 0 < 2 ^ N := Nat.pow_pos (by decide)
  have hab := absV b
  rcases Nat.lt_or_ge (fX b + 1074).toNat N with h | h
  · have hle : (fV b).natAbs / 2 ^ N ≤ fM b := by
      rw [hab]
      apply Nat.div_le_of_le_mul
      rw [Nat.mul_comm]
      exact Nat.mul_le_mul_right _ (Nat.pow_le_pow_right (by decide) (Nat.le_of_lt h))
    generalize wholeN way neg (2 ^ N) (fV b).natAbs = k at *
    refine ⟨R53_exact (by omega), N + 1, by omega, ?_⟩
    rw [Nat.pow_succ]
    have : k * 2 ^ N ≤ 9007199254740992 * 2 ^ N := Nat.mul_le_mul_right _ (by omega)
    omega
  · have e : (fV b).natAbs = fM b * 2 ^ ((fX b + 1074).toNat - N) * 2 ^ N := by
      rw [hab, Nat.mul_assoc, ← Nat.pow_add]
      congr 2; omega
    have hq : (fV b).natAbs / 2 ^ N * 2 ^ N = fM b * 2 ^ (fX b + 1074).toNat := by
      rw [← hab]
      conv => lhs; rw [e]
      rw [Nat.mul_div_cancel _ hp, ← e]
    rw [w2 (by rw [e]; exact Nat.mul_mod_left _ _), hq]
    exact ⟨R53_exact (by omega), (fX b + 1074).toNat, by omega, Nat.mul_le_mul_right _ (by omega)⟩
theorem wholeN_zero (way : Ieee.Toward) (neg : Bool) : wholeN way neg UW 0 = 0 := by
  have := (wholeN_le way neg 0).2 (Nat.zero_mod _)
  rw [this, Nat.zero_div]
/-- What a float made whole is worth. -/
theorem whole_val {b : Int} (ib : I64 b) (fb : isFin b = true) (way : Ieee.Toward) : I64 (wholeP way b) ∧ isFin (wholeP way b) = true ∧ fV (wholeP way b) = wholeI way UW (fV b) * (UW : Int) := by
  obtain ⟨N, hN⟩ : ∃ N, N = 1074 := ⟨_, rfl⟩
  have hwI : wholeI way UW (fV b) = if decide (b < 0) then -(wholeN way (decide (b < 0)) UW (fV b).natAbs : Int) else (wholeN way (decide (b < 0)) UW (fV b).natAbs : Int) := by
    unfold wholeI
    by_cases h0 : fV b = 0
    · rw [h0, if_neg (by decide)]
      show ((wholeN way false UW 0 : Nat) : Int) = _
      rw [show (0 : Int).natAbs = 0 from rfl, wholeN_zero, wholeN_zero]
      cases decide (b < 0) <;> rfl
    · have hM : fM b ≠ 0 := fun e => h0 (by
        have := absV b
        rw [e, Nat.zero_mul] at this
        omega)
      have : decide (fV b < 0) = decide (b < 0) := signed_neg hM
      by_cases hb : b < 0
      · rw [decide_eq_true hb] at this ⊢
        rw [if_pos (of_decide_eq_true this), if_pos rfl]
      · rw [decide_eq_false hb] at this ⊢
        rw [if_neg (of_decide_eq_false this), if_neg (by decide)]
  obtain ⟨f1, K, f2, f3⟩ := whole_fl fb way (decide (b < 0))
  rw [hwI]
  unfold wholeP
  generalize wholeN way (decide (b < 0)) UW (fV b).natAbs = k at *
  by_cases hk : k = 0
  · rw [if_pos hk, hk]
    cases decide (b < 0) <;> exact ⟨by unfold I64 pat; simp, by decide, by simp; decide⟩
  · rw [if_neg hk, rung_up k hN hk, ← uw_pow hN]
    obtain ⟨c1, c2⟩ := rung_top (decide (b < 0)) f2 f3
    refine ⟨pat_I64 (rung63' _ _), c1, ?_⟩
    rw [c2, f1, signed_nat, Nat.pow_zero, Nat.mul_one, Int.natCast_mul]
    cases decide (b < 0)
    · rfl
    · simp only [if_true]; rw [Int.neg_mul]
/-- A float as an int, cut. -/
theorem toInt_fin {b : Int} (ib : I64 b) (fb : isFin b = true) : (FloatKind.f64.decode (wd b)).toInt .zero = some (if decide (b < 0) then -(((fV b).natAbs / UW : Nat) : Int) else (((fV b).natAbs / UW : Nat) : Int)) := by
  rw [read_fin ib fb]
  have h1 : (Ieee.Datum.number (decide (b < 0)) (fM b) (fX b)).toInt .zero = some (Ieee.signed (decide (b < 0)) (Ieee.Toward.cut .zero (decide (b < 0)) (fM b <<< (fX b).toNat) (-(fX b)).toNat) 0) := rfl
  rw [h1, cut_uw _ _ _ _ (fX_ge b), ← absV]
  have h2 : wholeN .zero (decide (b < 0)) UW (fV b).natAbs = (fV b).natAbs / UW := rfl
  rw [h2, signed_nat, Nat.pow_zero, Nat.mul_one]
theorem toInt_whole {b K : Int} (ib : I64 b) (fb : isFin b = true) (hv : fV b = K * (UW : Int)) : (FloatKind.f64.decode (wd b)).toInt .zero = some K := by
  rw [toInt_fin ib fb]
  have hp := uw_pos
  have ha : (fV b).natAbs / UW = K.natAbs := by
    rw [hv, Int.natAbs_mul, Int.natAbs_natCast, Nat.mul_div_cancel _ hp]
  rw [ha]
  by_cases h0 : fM b = 0
  · have : (fV b).natAbs = 0 := by rw [absV, h0, Nat.zero_mul]
    rw [this, Nat.zero_div] at ha
    have hK : K = 0 := by omega
    subst hK
    cases decide (b < 0) <;> rfl
  · have hs : decide (fV b < 0) = decide (b < 0) := signed_neg h0
    have hU : (0 : Int) < (UW : Int) := by omega
    have hs2 : decide (fV b < 0) = decide (K < 0) := by
      rw [hv, decide_eq_decide]
      constructor
      · intro h
        rcases Int.lt_or_le K 0 with k | k
        · exact k
        · have := Int.mul_nonneg k (Int.le_of_lt hU); omega
      · intro h; exact Int.mul_neg_of_neg_of_pos h hU
    rw [← hs, hs2]
    by_cases hK : K < 0
    · rw [decide_eq_true hK, if_pos rfl]; congr 1; omega
    · rw [decide_eq_false hK, if_neg (by decide)]; congr 1; omega
end Go.Proofs
set_option linter.unusedVariables false
/-! An int's float, rounded down, and back. -/
namespace Go.Proofs
open Go Go.Eng
/-- The whole numbers beside lie nearer than 1. -/
theorem whole_near {W : Nat} (hW : 0 < W) (x : Int) : (wholeI .up W x - 1) * (W : Int) < x ∧ x < (wholeI .down W x + 1) * (W : Int) := by
  have hmul : ∀ (a t : Nat), ((a + t : Nat) : Int) * (W : Int) = ((a * W : Nat) : Int) + ((t * W : Nat) : Int) := fun a t => by
    rw [← Int.natCast_mul, Nat.add_mul, Int.natCast_add]
  have h01 : ∀ t : Nat, t ≤ 1 → t = 0 ∨ t = 1 := fun t h => by omega
  unfold wholeI
  by_cases hx : x < 0
  · obtain ⟨a, r, t, e, hr, w, t1, t2, _, t3, _⟩ := whole_parts .down true hW x.natAbs
    obtain ⟨a', r', t', e', hr', w', t1', t2', _, _, t3'⟩ := whole_parts .up true hW x.natAbs
    obtain ⟨rfl, rfl⟩ := uqW (e.symm.trans e') hr hr'
    have ht : t' = 0 := by rcases h01 t' t1' with k | k; exact k; exact absurd ((t3' rfl).1 k).1 (by decide)
    subst ht
    rw [if_pos hx, if_pos hx, w, w']
    have a1 := hmul a t
    have a2 := hmul a 0
    rw [Nat.zero_mul] at a2
    rw [Int.sub_mul, Int.add_mul, Int.neg_mul, Int.neg_mul, Int.one_mul, a1, a2]
    rcases h01 t t1 with k | k
    · subst k
      rw [Nat.zero_mul]
      have hr0 : r = 0 := by
        rcases Nat.eq_zero_or_pos r with y | y
        · exact y
        · have := (t3 rfl).2 ⟨rfl, by omega⟩; omega
      generalize a * W = A at *
      omega
    · subst k
      have hr0 : r ≠ 0 := ((t3 rfl).1 rfl).2
      rw [Nat.one_mul]
      generalize a * W = A at *
      omega
  · obtain ⟨a, r, t, e, hr, w, t1, t2, _, t3, _⟩ := whole_parts .down false hW x.natAbs
    obtain ⟨a', r', t', e', hr', w', t1', t2', _, _, t3'⟩ := whole_parts .up false hW x.natAbs
    obtain ⟨rfl, rfl⟩ := uqW (e.symm.trans e') hr hr'
    have ht : t = 0 := by rcases h01 t t1 with k | k; exact k; exact absurd ((t3 rfl).1 k).1 (by decide)
    subst ht
    rw [if_neg hx, if_neg hx, w, w']
    have a1 := hmul a t'
    have a2 := hmul a 0
    rw [Nat.zero_mul] at a2
    rw [Int.sub_mul, Int.add_mul, Int.one_mul, a1, a2]
    rcases h01 t' t1' with k | k
    · subst k
      rw [Nat.zero_mul]
      generalize a * W = A at *
      omega
    · subst k
      have hr0 : r ≠ 0 := ((t3' rfl).1 rfl).2
      rw [Nat.one_mul]
      generalize a * W = A at *
      omega
theorem mul_lt_uw {a b : Int} (h : a * (UW : Int) < b * (UW : Int)) : a < b := by
  have hp := uw_pos
  exact Int.lt_of_mul_lt_mul_right h (by omega)
theorem mul_le_uw {a b : Int} (h : a * (UW : Int) ≤ b * (UW : Int)) : a ≤ b := by
  have hp := uw_pos
  exact Int.le_of_mul_le_mul_right h (by omega)
theorem le_mul_uw {a b : Int} (h : a ≤ b) : a * (UW : Int) ≤ b * (UW : Int) := Int.mul_le_mul_of_nonneg_right h (by omega)
/-- A whole number, made whole, is it. -/
theorem whole_self (way : Ieee.Toward) (v : Int) : wholeI way UW (v * (UW : Int)) = v := by
  obtain ⟨n1, n2⟩ := whole_near uw_pos (v * (UW : Int))
  obtain ⟨w1, w2, w3, w4, _, w6, w7, _⟩ := whole_law uw_pos (x := v * (UW : Int)) rfl rfl rfl rfl
  have a1 := mul_lt_uw n1
  have a2 := mul_lt_uw n2
  have b1 := mul_le_uw w1
  have b2 := mul_le_uw w2
  cases way
  · rcases w7 with k | k <;> rw [k] <;> omega
  · omega
  · omega
  · rw [w6]; split <;> omega
abbrev CLO : Int := -4332462841530417152
abbrev CHI : Int := 4890909195324358656
theorem clo_fin : isFin CLO = true ∧ fV CLO = -9223372036854775808 * (UW : Int) := ⟨by decide, by decide +kernel⟩
theorem chi_fin : isFin CHI = true ∧ fV CHI = 9223372036854775808 * (UW : Int) := ⟨by decide, by decide +kernel⟩
/-- An int rounded down to a float: a whole number, not greater, the same up to 53 bits. -/
theorem from_down {n : Int} (hn : I64 n) : I64 (dirV 1 n 0) ∧ isFin (dirV 1 n 0) = true ∧ ∃ v, fV (dirV 1 n 0) = v * (UW : Int) ∧ v ≤ n ∧ -9223372036854775808 ≤ v ∧ (n.natAbs < 9007199254740992 → v = n) := by
  obtain ⟨N, hN⟩ : ∃ N, N = 1074 := ⟨_, rfl⟩
  have hD : dirV 1 n 0 = dirV 1 (n * (UW : Int)) (-1074) := by
    have := (dirV_scale 1 n (-1074) N).1
    rw [show (-1074 : Int) + (N : Int) = 0 by omega, ← cast_pow2, ← uw_pow hN] at this
    exact this.symm
  rw [hD]
  generalize hX : n * (UW : Int) = X at *
  have iD := dirV_I64 1 X (-1074)
  have nD := dirV_nan 1 X (-1074)
  have e1074 : -((1074 : Nat) : Int) = -1074 := rfl
  have up : ∀ c : Int, I64 c → isFin c = true → fV c ≤ X → rk c ≤ rk (dirV 1 X (-1074)) := fun c ic fc h => by
    rw [← rk_self (.inl rfl) ic fc]
    exact dirV_mono (-1074) (.inl rfl) h
  unfold I64 at hn
  have ic : I64 CLO := by unfold I64 CLO; omega
  have hlo : fV CLO ≤ X := by rw [clo_fin.2, ← hX]; exact le_mul_uw hn.1
  have r1 := up CLO ic clo_fin.1 hlo
  have r2 := (dirV_12 X (-1074)).2.1
  have rc : rk CLO = -4890909195324358656 := by decide
  have fD : isFin (dirV 1 X (-1074)) = true := by
    cases hf : isFin (dirV 1 X (-1074))
    · rcases rk_inf iD nD hf with k | k <;> omega
    · rfl
  have le : fV (dirV 1 X (-1074)) ≤ X := by
    have := dirV_lo (v := X) (K := 1074) (Nat.le_refl _) (by rw [e1074]; exact fD)
    rw [e1074, Nat.sub_self, Nat.pow_zero] at this
    omega
  have mono : ∀ c : Int, I64 c → isFin c = true → fV c ≤ X → fV c ≤ fV (dirV 1 X (-1074)) := fun c ic fc h => by
    have h1 := up c ic fc h
    have h2 := (fV_rk iD ic fD fc).1
    apply Int.not_lt.1
    intro k
    have := h2.1 k
    omega
  refine ⟨iD, fD, ?_⟩
  obtain ⟨iU, fU, vU⟩ := whole_val iD fD .up
  obtain ⟨n1, _⟩ := whole_near uw_pos (fV (dirV 1 X (-1074)))
  obtain ⟨_, w2, _⟩ := whole_law uw_pos (x := fV (dirV 1 X (-1074))) rfl rfl rfl rfl
  generalize hq : wholeI .up UW (fV (dirV 1 X (-1074))) = q at *
  have hqn : q ≤ n := by
    have : (q - 1) * (UW : Int) < n * (UW : Int) := by rw [hX]; omega
    have := mul_lt_uw this
    omega
  have hqX : fV (wholeP .up (dirV 1 X (-1074))) ≤ X := by rw [vU, ← hX]; exact le_mul_uw hqn
  have h3 := mono _ iU fU hqX
  rw [vU] at h3
  have hv : fV (dirV 1 X (-1074)) = q * (UW : Int) := by omega
  refine ⟨q, hv, hqn, ?_, fun hs => ?_⟩
  · have := mono CLO ic clo_fin.1 hlo
    rw [clo_fin.2, hv] at this
    exact mul_le_uw this
  · have hfl : Fl X := ⟨n.natAbs, N, by rw [← hX, Int.natAbs_mul, Int.natAbs_natCast, uw_pow hN], by omega⟩
    have hx5 : X.natAbs ≤ 2 ^ 1500 := by
      rw [← hX, Int.natAbs_mul, Int.natAbs_natCast, uw_pow hN]
      have h1 : n.natAbs * 2 ^ N ≤ 2 ^ 53 * 2 ^ N := Nat.mul_le_mul_right _ (by rw [show (2 : Nat) ^ 53 = 9007199254740992 by decide]; omega)
      rw [← Nat.pow_add] at h1
      exact Nat.le_trans h1 (p2le (a := 53 + N) (b := 1500) (by omega))
    obtain ⟨t1, t2⟩ := toR_rnd hx5
    rw [rnd_exact hfl] at t2
    have := mono (toR 0 X 1074) (toR_wf 0 X 1074).1 t1 (by omega)
    have h5 : q * (UW : Int) = n * (UW : Int) := by omega
    have a := mul_le_uw (a := q) (b := n) (by omega)
    have b := mul_le_uw (a := n) (b := q) (by omega)
    omega
end Go.Proofs
