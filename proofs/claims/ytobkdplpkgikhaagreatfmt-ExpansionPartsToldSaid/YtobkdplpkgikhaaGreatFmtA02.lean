import Derived.Test.YtobkdplpkgikhaaGreatFmtA01
import Derived.Laws.FloatArith
/- Here stand lemmas and contracts, in the order in which they are used. -/
set_option linter.unusedVariables false
namespace Go.Eng
open Go

/-- n / 2^d to the nearest, between two the even one. -/
def rn (n d : Nat) : Nat := n / 2 ^ d + (if 2 ^ d < 2 * (n % 2 ^ d) ∨ (2 ^ d = 2 * (n % 2 ^ d) ∧ n / 2 ^ d % 2 = 1) then 1 else 0)
theorem cut_even (neg : Bool) (n d : Nat) : Ieee.Toward.cut .even neg n d = rn n d := by
  have key : ∀ g low rest : Nat, low + (decide (g < 2 * rest) || (g == 2 * rest && low % 2 == 1)).toNat = low + (if g < 2 * rest ∨ (g = 2 * rest ∧ low % 2 = 1) then 1 else 0) := by
    intro g low rest
    by_cases h1 : g < 2 * rest
    · simp [h1]
    · by_cases h2 : g = 2 * rest
      · by_cases h3 : low % 2 = 1 <;> simp [h2, h3]
      · simp [h1, h2]
  have hn : n < 2 ^ (n.log2 + 1) := Nat.lt_log2_self
  have small : ∀ k, n.log2 + 2 ≤ k → n / 2 ^ k = 0 ∧ n % 2 ^ k = n ∧ 2 * n < 2 ^ k := by
    intro k hk
    have h1 : 2 ^ (n.log2 + 2) ≤ 2 ^ k := Nat.pow_le_pow_right (by decide) hk
    have h2 : 2 ^ (n.log2 + 2) = 2 ^ (n.log2 + 1) * 2 := Nat.pow_succ ..
    exact ⟨Nat.div_eq_of_lt (by omega), Nat.mod_eq_of_lt (by omega), by omega⟩
  have hL : Ieee.Toward.cut .even neg n d = (let gap := 1 <<< min d (n.log2 + 2); n / gap + (decide (gap < 2 * (n % gap)) || (gap == 2 * (n % gap) && n / gap % 2 == 1)).toNat) := rfl
  rw [hL]
  simp only [Nat.shiftLeft_eq, Nat.one_mul]
  rw [key]
  unfold rn
  by_cases h : d ≤ n.log2 + 2
  · rw [Nat.min_eq_left h]
  · rw [Nat.min_eq_right (by omega)]
    obtain ⟨a1, a2, a3⟩ := small (n.log2 + 2) (Nat.le_refl _)
    obtain ⟨b1, b2, b3⟩ := small d (by omega)
    rw [a1, a2, b1, b2, if_neg (by omega), if_neg (by omega)]
theorem rn_zero (n : Nat) : rn n 0 = n := by
  unfold rn
  rw [Nat.pow_zero, Nat.div_one, Nat.mod_one, if_neg (by omega)]; rfl
theorem rn_scale (n d k : Nat) : rn (n * 2 ^ k) (d + k) = rn n d := by
  have hk : 0 < 2 ^ k := Nat.pow_pos (by decide)
  unfold rn
  rw [Nat.pow_add, Nat.mul_div_mul_right _ _ hk, Nat.mul_mod_mul_right, ← Nat.mul_assoc]
  congr 1
  have h1 : (2 ^ d * 2 ^ k < 2 * (n % 2 ^ d) * 2 ^ k) ↔ (2 ^ d < 2 * (n % 2 ^ d)) := Nat.mul_lt_mul_right hk
  have h2 : (2 ^ d * 2 ^ k = 2 * (n % 2 ^ d) * 2 ^ k) ↔ (2 ^ d = 2 * (n % 2 ^ d)) := Nat.mul_left_inj (by omega)
  simp only [h1, h2]
theorem rn_le (n d : Nat) : n / 2 ^ d ≤ rn n d ∧ rn n d ≤ n / 2 ^ d + 1 := by
  unfold rn; split <;> omega

def lastP (m : Nat) (e : Int) : Int := max (e + m.log2 - 52) (-1074)
def kpt (m : Nat) (e : Int) : Nat := rn (m * 2 ^ (e - lastP m e).toNat) (lastP m e - e).toNat
/-- The rung nearest to m times 2^e. -/
def rung (m : Nat) (e : Int) : Nat := min ((lastP m e + 1074).toNat * 4503599627370496 + kpt m e) 9218868437227405312
theorem nearest_rung (neg : Bool) {m : Nat} (e : Int) (hm : m ≠ 0) : Ieee.double.nearest neg m e = Ieee.double.word neg (rung m e) := by
  have h : Ieee.double.nearest neg m e = if m = 0 then Ieee.double.word neg 0 else
    Ieee.double.word neg (min ((max (e + m.log2 - (52 : Nat)) (-1074) - (-1074)).toNat * 4503599627370496 + Ieee.Toward.cut .even neg (m <<< (e - max (e + m.log2 - (52 : Nat)) (-1074)).toNat) (max (e + m.log2 - (52 : Nat)) (-1074) - e).toNat) 9218868437227405312) := rfl
  rw [h, if_neg hm, cut_even, Nat.shiftLeft_eq]
  rfl
theorem log2_scale {m : Nat} (k : Nat) (hm : m ≠ 0) : (m * 2 ^ k).log2 = m.log2 + k := by
  have hk : 0 < 2 ^ k := Nat.pow_pos (by decide)
  have h0 : m * 2 ^ k ≠ 0 := Nat.mul_ne_zero hm (by omega)
  have h := (Nat.log2_eq_iff hm).1 rfl
  refine (Nat.log2_eq_iff h0).2 ⟨?_, ?_⟩
  · rw [Nat.pow_add]; exact Nat.mul_le_mul_right _ h.1
  · rw [show m.log2 + k + 1 = m.log2 + 1 + k by omega, Nat.pow_add]; exact Nat.mul_lt_mul_of_pos_right h.2 hk
theorem rung_scale {m : Nat} (k : Nat) (e : Int) (hm : m ≠ 0) : rung (m * 2 ^ k) e = rung m (e + k) := by
  have hL : lastP (m * 2 ^ k) e = lastP m (e + k) := by
    unfold lastP; rw [log2_scale k hm, show e + ((m.log2 + k : Nat) : Int) - 52 = e + (k : Int) + (m.log2 : Int) - 52 by omega]
  have hK : kpt (m * 2 ^ k) e = kpt m (e + k) := by
    unfold kpt; rw [hL]
    generalize lastP m (e + k) = L
    by_cases h1 : L ≤ e
    · rw [show (L - e).toNat = 0 by omega, show (L - (e + k)).toNat = 0 by omega, rn_zero, rn_zero, Nat.mul_assoc, ← Nat.pow_add, show k + (e - L).toNat = (e + k - L).toNat by omega]
    · by_cases h2 : L ≤ e + k
      · rw [show (e - L).toNat = 0 by omega, show (L - (e + k)).toNat = 0 by omega, rn_zero, Nat.pow_zero, Nat.mul_one]
        have := rn_scale (m * 2 ^ (e + k - L).toNat) 0 (L - e).toNat
        rw [rn_zero, Nat.zero_add, Nat.mul_assoc, ← Nat.pow_add, show (e + k - L).toNat + (L - e).toNat = k by omega] at this
        exact this
      · rw [show (e - L).toNat = 0 by omega, show (e + k - L).toNat = 0 by omega, Nat.pow_zero, Nat.mul_one, Nat.mul_one, show (L - e).toNat = (L - (e + k)).toNat + k by omega, rn_scale]
  unfold rung; rw [hL, hK]
theorem rung_zero : rung 0 (-1074) = 0 := by decide +kernel
theorem rung_zero2 : rung 0 (-2148) = 0 := by decide +kernel

/-- A pattern's fields. -/
def fE (b : Int) : Nat := (b / 4503599627370496 % 2048).toNat
def fT (b : Int) : Nat := (b % 4503599627370496).toNat
def fM (b : Int) : Nat := if fE b = 0 then fT b else 4503599627370496 + fT b
def fX (b : Int) : Int := if fE b = 0 then -1074 else (fE b : Int) - 1075
/-- A pattern's word. -/
def wd (b : Int) : Nat := (b % 18446744073709551616).toNat
/-- A word's pattern. -/
def sg (w : Nat) : Int := if w < 9223372036854775808 then (w : Int) else (w : Int) - 18446744073709551616
def pat (neg : Bool) (r : Nat) : Int := if neg then (r : Int) - 9223372036854775808 else (r : Int)
def I64 (b : Int) : Prop := -9223372036854775808 ≤ b ∧ b < 9223372036854775808
theorem wd_lt (b : Int) : wd b < 18446744073709551616 := by unfold wd; omega
theorem wd_sg {w : Nat} (h : w < 18446744073709551616) : wd (sg w) = w := by unfold wd sg; split <;> omega
theorem sg_wd {b : Int} (h : I64 b) : sg (wd b) = b := by unfold I64 at h; unfold wd sg; split <;> omega
theorem sg_I64 {w : Nat} (h : w < 18446744073709551616) : I64 (sg w) := by unfold sg I64; split <;> omega
theorem sg_word (neg : Bool) {r : Nat} (h : r < 9223372036854775808) : sg (Ieee.double.word neg r) = pat neg r := by
  cases neg with
  | false => show sg r = (r : Int); unfold sg; rw [if_pos h]
  | true =>
    show sg (9223372036854775808 + r) = (r : Int) - 9223372036854775808
    unfold sg; rw [if_neg (by omega)]; omega
theorem rung_lt (m : Nat) (e : Int) : rung m e ≤ 9218868437227405312 := Nat.min_le_right _ _

theorem read_wd {b : Int} (h : I64 b) : Ieee.double.read (wd b) =
    if fE b < 2047 then .number (decide (b < 0)) (fM b) (fX b) else if fT b = 0 then .infinity (decide (b < 0)) else .nan (decide (b < 0)) (fT b) := by
  have hr : Ieee.double.read (wd b) = (let neg := wd b / 9223372036854775808 % 2 == 1
      let r := wd b % 9223372036854775808
      if r < 4503599627370496 then .number neg r (-1074)
      else if r < 9218868437227405312 then .number neg (4503599627370496 + r % 4503599627370496) (-1074 + (r / 4503599627370496 - 1 : Nat))
      else if r = 9218868437227405312 then .infinity neg else .nan neg (r - 9218868437227405312)) := rfl
  rw [hr]
  have hneg : (wd b / 9223372036854775808 % 2 == 1) = decide (b < 0) := by
    unfold I64 at h; unfold wd
    by_cases hb : b < 0
    · have : (b % 18446744073709551616).toNat / 9223372036854775808 % 2 = 1 := by omega
      simp [hb, this]
    · have : (b % 18446744073709551616).toNat / 9223372036854775808 % 2 = 0 := by omega
      simp [hb, this]
  have hR : wd b % 9223372036854775808 = fE b * 4503599627370496 + fT b := by
    unfold I64 at h; unfold wd fE fT; omega
  have hT : fT b < 4503599627370496 := by unfold fT; omega
  have hE : fE b < 2048 := by unfold fE; omega
  simp only [hneg, hR]
  unfold fM fX
  generalize fE b = E at *
  generalize fT b = T at *
  by_cases h0 : E = 0
  · subst h0
    rw [if_pos (by omega), if_pos (by omega)]
    simp
  · rw [if_neg (by omega)]
    by_cases h1 : E < 2047
    · rw [if_pos (by omega), if_pos h1, if_neg h0, if_neg h0]
      rw [show (E * 4503599627370496 + T) % 4503599627370496 = T by omega, show (E * 4503599627370496 + T) / 4503599627370496 = E by omega]
      congr 1; omega
    · rw [if_neg (by omega), if_neg h1]
      split
      · rename_i hc
        have h2 : T = 0 := by omega
        simp only [h2, if_true]
      · rename_i hc
        have h2 : T ≠ 0 := by intro h; omega
        simp only [h2, if_false]
        rw [show E * 4503599627370496 + T - 9218868437227405312 = T by omega]

/-- A finite pattern's value, in units of 2^-1074. -/
def fV (b : Int) : Int := Ieee.signed (decide (b < 0)) (fM b) (fX b + 1074).toNat
def isFin (b : Int) : Bool := decide (fE b < 2047)
def isInf (b : Int) : Bool := decide (fE b = 2047) && decide (fT b = 0)
def isNaN (b : Int) : Bool := decide (fE b = 2047) && !decide (fT b = 0)
abbrev NaNP : Int := 9221120237041090561
/-- The single sum of two that were looked at: no numbers? infinite? signs, values. -/
def plusP (na ia sa : Bool) (va : Int) (nb ib sb : Bool) (vb : Int) : Int :=
  if na || nb || (ia && ib && (sa != sb)) then NaNP
  else if ia then pat sa 9218868437227405312
  else if ib then pat sb 9218868437227405312
  else pat (if va + vb = 0 then sa && sb else decide (va + vb < 0)) (rung (va + vb).natAbs (-1074))
/-- A pattern's value, in units of 2^-1074; 0 of what is not finite. -/
def fW (b : Int) : Int := if isFin b then fV b else 0
def addP (a b : Int) : Int := plusP (isNaN a) (isInf a) (decide (a < 0)) (fW a) (isNaN b) (isInf b) (decide (b < 0)) (fW b)
def subP (a b : Int) : Int := plusP (isNaN a) (isInf a) (decide (a < 0)) (fW a) (isNaN b) (isInf b) (!decide (b < 0)) (-fW b)
def zr (na ia : Bool) (v : Int) : Bool := !na && !ia && decide (v = 0)
/-- The single product likewise. -/
def timesP (na ia sa : Bool) (va : Int) (nb ib sb : Bool) (vb : Int) : Int :=
  if na || nb || (ia && zr nb ib vb) || (ib && zr na ia va) then NaNP
  else if ia || ib then pat (sa ^^ sb) 9218868437227405312
  else pat (sa ^^ sb) (rung (va * vb).natAbs (-2148))
def mulP (a b : Int) : Int := timesP (isNaN a) (isInf a) (decide (a < 0)) (fW a) (isNaN b) (isInf b) (decide (b < 0)) (fW b)
/-- The pattern that is told of a pattern. -/
def nrm (i : Int) : Int := if isNaN i then NaNP else i
/-- An operation's word, by the model: told as its pattern. -/
def opR (r : Option Nat) : Int := match r with | some z => sg z | none => NaNP

theorem signed_add (s : Bool) (m j k : Nat) : Ieee.signed s m (j + k) = Ieee.signed s m j * ((2 ^ k : Nat) : Int) := by
  unfold Ieee.signed
  rw [Nat.shiftLeft_eq, Nat.shiftLeft_eq, Nat.pow_add, ← Nat.mul_assoc]
  cases s <;> simp [Int.natCast_mul, Int.neg_mul]
theorem signed_abs (s : Bool) (m k : Nat) : (Ieee.signed s m k).natAbs = m * 2 ^ k := by
  unfold Ieee.signed
  rw [Nat.shiftLeft_eq]
  cases s
  · rfl
  · show (-((m * 2 ^ k : Nat) : Int)).natAbs = _; rw [Int.natAbs_neg]; rfl
theorem signed_opp (s : Bool) (m k : Nat) : Ieee.signed (!s) m k = -Ieee.signed s m k := by
  unfold Ieee.signed
  cases s <;> simp
theorem sum_fin (c : Int) (hc : rung 0 c = 0) {s t : Bool} {m n : Nat} {i j : Int} (hi : c ≤ i) (hj : c ≤ j) :
    ((Ieee.Datum.sum (.number s m i) (.number t n j)).map Ieee.double.write) =
      some (Ieee.double.word (if Ieee.signed s m (i - c).toNat + Ieee.signed t n (j - c).toNat = 0 then s && t else decide (Ieee.signed s m (i - c).toNat + Ieee.signed t n (j - c).toNat < 0))
        (rung (Ieee.signed s m (i - c).toNat + Ieee.signed t n (j - c).toNat).natAbs c)) := by
  have hs : (Ieee.Datum.sum (.number s m i) (.number t n j)) = some (.number (if Ieee.signed s m (i - min i j).toNat + Ieee.signed t n (j - min i j).toNat = 0 then s && t else decide (Ieee.signed s m (i - min i j).toNat + Ieee.signed t n (j - min i j).toNat < 0))
      (Ieee.signed s m (i - min i j).toNat + Ieee.signed t n (j - min i j).toNat).natAbs (min i j)) := rfl
  rw [hs]
  obtain ⟨b, hb, hbi, hbj, hbc⟩ : ∃ b, min i j = b ∧ b ≤ i ∧ b ≤ j ∧ c ≤ b := ⟨_, rfl, by omega, by omega, by omega⟩
  rw [hb, show (i - c).toNat = (i - b).toNat + (b - c).toNat by omega, show (j - c).toNat = (j - b).toNat + (b - c).toNat by omega, signed_add, signed_add, ← Int.add_mul]
  generalize Ieee.signed s m (i - b).toNat + Ieee.signed t n (j - b).toNat = T
  have hk : (0 : Int) < ((2 ^ (b - c).toNat : Nat) : Int) := by exact_mod_cast Nat.pow_pos (by decide)
  have hb2 : c + ((b - c).toNat : Int) = b := by omega
  generalize (b - c).toNat = k at *
  show some (Ieee.double.nearest (if T = 0 then s && t else decide (T < 0)) T.natAbs b) = _
  by_cases hT : T = 0
  · subst hT
    have e1 : Ieee.double.nearest (if (0 : Int) = 0 then s && t else decide ((0 : Int) < 0)) (0 : Int).natAbs b = Ieee.double.word (s && t) 0 := rfl
    rw [e1, Int.zero_mul, if_pos rfl, show (0 : Int).natAbs = 0 from rfl, hc]
  · have h1 : T * ((2 ^ k : Nat) : Int) ≠ 0 := Int.mul_ne_zero hT (by omega)
    have h2 : decide (T * ((2 ^ k : Nat) : Int) < 0) = decide (T < 0) := by
      by_cases hn : T < 0
      · have := Int.mul_neg_of_neg_of_pos hn hk
        simp only [this, hn]
      · have : 0 ≤ T * ((2 ^ k : Nat) : Int) := Int.mul_nonneg (by omega) (by omega)
        have h3 : ¬ T * ((2 ^ k : Nat) : Int) < 0 := by omega
        simp only [h3, hn]
    rw [if_neg hT, if_neg h1, h2, nearest_rung _ _ (by omega : T.natAbs ≠ 0), Int.natAbs_mul, Int.natAbs_natCast, rung_scale k c (by omega : T.natAbs ≠ 0), hb2]
theorem prod_fin (c c2 : Int) (h2 : c + c = c2) (hc : rung 0 c2 = 0) {s t : Bool} {m n : Nat} {i j : Int} (hi : c ≤ i) (hj : c ≤ j) :
    ((Ieee.Datum.product (.number s m i) (.number t n j)).map Ieee.double.write) =
      some (Ieee.double.word (s ^^ t) (rung (Ieee.signed s m (i - c).toNat * Ieee.signed t n (j - c).toNat).natAbs c2)) := by
  have hs : (Ieee.Datum.product (.number s m i) (.number t n j)) = some (.number (s ^^ t) (m * n) (i + j)) := rfl
  rw [hs]
  show some (Ieee.double.nearest (s ^^ t) (m * n) (i + j)) = _
  rw [Int.natAbs_mul, signed_abs, signed_abs]
  have e : m * 2 ^ (i - c).toNat * (n * 2 ^ (j - c).toNat) = m * n * 2 ^ ((i - c).toNat + (j - c).toNat) := by
    rw [Nat.pow_add]; ac_rfl
  rw [e]
  by_cases h0 : m * n = 0
  · rw [h0, Nat.zero_mul, hc]; rfl
  · rw [nearest_rung _ _ h0, rung_scale _ _ h0]
    congr 3; omega

theorem fX_ge (b : Int) : -1074 ≤ fX b := by unfold fX; split <;> omega
theorem fE_lt (b : Int) : fE b < 2048 := by unfold fE; omega
theorem fT_lt (b : Int) : fT b < 4503599627370496 := by unfold fT; omega
theorem pat_of (neg : Bool) (m : Nat) (e : Int) : sg (Ieee.double.word neg (rung m e)) = pat neg (rung m e) := sg_word neg (by have := rung_lt m e; omega)
theorem pat_inf (neg : Bool) : sg (Ieee.double.word neg 9218868437227405312) = pat neg 9218868437227405312 := sg_word neg (by decide)
/-- What a pattern is. -/
theorem look {b : Int} (h : I64 b) :
    (isFin b = true ∧ isInf b = false ∧ isNaN b = false ∧ Ieee.double.read (wd b) = .number (decide (b < 0)) (fM b) (fX b)) ∨
    (isFin b = false ∧ isInf b = true ∧ isNaN b = false ∧ Ieee.double.read (wd b) = .infinity (decide (b < 0))) ∨
    (isFin b = false ∧ isInf b = false ∧ isNaN b = true ∧ Ieee.double.read (wd b) = .nan (decide (b < 0)) (fT b)) := by
  have hr := read_wd h
  have hE := fE_lt b
  unfold isFin isInf isNaN
  by_cases h1 : fE b < 2047
  · left
    rw [if_pos h1] at hr
    have : ¬ fE b = 2047 := by omega
    exact ⟨by simp [h1], by simp [this], by simp [this], hr⟩
  · rw [if_neg h1] at hr
    have e : fE b = 2047 := by omega
    by_cases h2 : fT b = 0
    · right; left
      rw [if_pos h2] at hr
      exact ⟨by simp [e], by simp [e, h2], by simp [h2], hr⟩
    · right; right
      rw [if_neg h2] at hr
      exact ⟨by simp [e], by simp [h2], by simp [e, h2], hr⟩
theorem fV_at (b : Int) : fV b = Ieee.signed (decide (b < 0)) (fM b) (fX b - (-1074)).toNat := by unfold fV; rw [show fX b - (-1074) = fX b + 1074 by omega]
theorem add_opR {a b : Int} (ha : I64 a) (hb : I64 b) : opR (Ieee.double.add (wd a) (wd b)) = addP a b := by
  unfold Ieee.Format.add addP plusP
  rcases look ha with ⟨a1, a2, a3, a4⟩ | ⟨a1, a2, a3, a4⟩ | ⟨a1, a2, a3, a4⟩ <;> rcases look hb with ⟨b1, b2, b3, b4⟩ | ⟨b1, b2, b3, b4⟩ | ⟨b1, b2, b3, b4⟩ <;>
    simp only [fW, a1, a2, a3, a4, b1, b2, b3, b4, Bool.false_or, Bool.true_or, Bool.or_true, Bool.false_and, Bool.true_and, Bool.and_false, if_true, Bool.false_eq_true, if_false]
  · rw [sum_fin (-1074) rung_zero (fX_ge a) (fX_ge b), ← fV_at, ← fV_at]
    exact pat_of _ _ _
  · exact pat_inf _
  · rfl
  · exact pat_inf _
  · by_cases hs : decide (a < 0) = decide (b < 0)
    · have : (decide (a < 0) != decide (b < 0)) = false := by simp [hs]
      rw [this]
      have e : Ieee.Datum.sum (.infinity (decide (a < 0))) (.infinity (decide (b < 0))) = if decide (a < 0) = decide (b < 0) then some (.infinity (decide (a < 0))) else none := rfl
      rw [e, if_pos hs]
      exact pat_inf _
    · have : (decide (a < 0) != decide (b < 0)) = true := by simpa using hs
      rw [this]
      have e : Ieee.Datum.sum (.infinity (decide (a < 0))) (.infinity (decide (b < 0))) = if decide (a < 0) = decide (b < 0) then some (.infinity (decide (a < 0))) else none := rfl
      rw [e, if_neg hs]
      rfl
  all_goals rfl
theorem sub_opR {a b : Int} (ha : I64 a) (hb : I64 b) : opR (Ieee.double.sub (wd a) (wd b)) = subP a b := by
  unfold Ieee.Format.sub subP plusP
  rcases look ha with ⟨a1, a2, a3, a4⟩ | ⟨a1, a2, a3, a4⟩ | ⟨a1, a2, a3, a4⟩ <;> rcases look hb with ⟨b1, b2, b3, b4⟩ | ⟨b1, b2, b3, b4⟩ | ⟨b1, b2, b3, b4⟩ <;>
    simp only [fW, a1, a2, a3, a4, b1, b2, b3, b4, Ieee.Datum.opposite, Bool.false_or, Bool.true_or, Bool.or_true, Bool.false_and, Bool.true_and, Bool.and_false, if_true, Bool.false_eq_true, if_false]
  · rw [sum_fin (-1074) rung_zero (fX_ge a) (fX_ge b), signed_opp, ← fV_at, ← fV_at]
    exact pat_of _ _ _
  · exact pat_inf _
  · rfl
  · exact pat_inf _
  · by_cases hs : decide (a < 0) = !decide (b < 0)
    · have : (decide (a < 0) != !decide (b < 0)) = false := by rw [hs]; simp
      rw [this]
      have e : Ieee.Datum.sum (.infinity (decide (a < 0))) (.infinity (!decide (b < 0))) = if decide (a < 0) = !decide (b < 0) then some (.infinity (decide (a < 0))) else none := rfl
      rw [e, if_pos hs]
      exact pat_inf _
    · have : (decide (a < 0) != !decide (b < 0)) = true := bne_iff_ne.2 hs
      rw [this]
      have e : Ieee.Datum.sum (.infinity (decide (a < 0))) (.infinity (!decide (b < 0))) = if decide (a < 0) = !decide (b < 0) then some (.infinity (decide (a < 0))) else none := rfl
      rw [e, if_neg hs]
      rfl
  all_goals rfl
theorem fV_zero {b : Int} : fV b = 0 ↔ fM b = 0 := by
  have := signed_abs (decide (b < 0)) (fM b) (fX b + 1074).toNat
  have hp : 0 < 2 ^ (fX b + 1074).toNat := Nat.pow_pos (by decide)
  have hd : fV b = Ieee.signed (decide (b < 0)) (fM b) (fX b + 1074).toNat := rfl
  rw [← hd] at this
  constructor
  · intro h; rw [h] at this
    rcases Nat.mul_eq_zero.1 this.symm with h | h
    · exact h
    · omega
  · intro h; rw [h, Nat.zero_mul] at this; omega
theorem mul_opR {a b : Int} (ha : I64 a) (hb : I64 b) : opR (Ieee.double.mul (wd a) (wd b)) = mulP a b := by
  unfold Ieee.Format.mul mulP timesP
  rcases look ha with ⟨a1, a2, a3, a4⟩ | ⟨a1, a2, a3, a4⟩ | ⟨a1, a2, a3, a4⟩ <;> rcases look hb with ⟨b1, b2, b3, b4⟩ | ⟨b1, b2, b3, b4⟩ | ⟨b1, b2, b3, b4⟩ <;>
    simp only [fW, zr, a1, a2, a3, a4, b1, b2, b3, b4, Bool.not_true, Bool.not_false, Bool.false_or, Bool.or_true, Bool.or_false, Bool.false_and, Bool.true_and, Bool.and_false, if_true, Bool.false_eq_true, if_false]
  · rw [prod_fin (-1074) (-2148) (by omega) rung_zero2 (fX_ge a) (fX_ge b), ← fV_at, ← fV_at]
    exact pat_of _ _ _
  · have e : Ieee.Datum.product (.number (decide (a < 0)) (fM a) (fX a)) (.infinity (decide (b < 0))) = if fM a = 0 then none else some (.infinity (decide (b < 0) ^^ decide (a < 0))) := rfl
    rw [e, Bool.xor_comm (decide (a < 0))]
    by_cases h0 : fM a = 0
    · rw [if_pos h0, fV_zero.2 h0]; rfl
    · rw [if_neg h0]
      have : decide (fV a = 0) = false := by simp [fV_zero, h0]
      rw [this]
      exact pat_inf _
  · rfl
  · have e : Ieee.Datum.product (.infinity (decide (a < 0))) (.number (decide (b < 0)) (fM b) (fX b)) = if fM b = 0 then none else some (.infinity (decide (a < 0) ^^ decide (b < 0))) := rfl
    rw [e]
    by_cases h0 : fM b = 0
    · rw [if_pos h0, fV_zero.2 h0]; rfl
    · rw [if_neg h0]
      have : decide (fV b = 0) = false := by simp [fV_zero, h0]
      rw [this]
      exact pat_inf _
  · exact pat_inf _
  all_goals rfl

theorem isNaN_NaNP : isNaN NaNP = true := by decide
theorem isInf_NaNP : isInf NaNP = false := by decide
theorem nan_inf {a : Int} (h : isNaN a = true) : isInf a = false := by
  unfold isNaN at h; unfold isInf
  simp only [Bool.and_eq_true] at h
  simp only [Bool.and_eq_false_iff]
  right
  simpa using h.2
theorem addP_nl (a b : Int) : addP (nrm a) b = addP a b := by
  unfold nrm; split
  · rename_i h; unfold addP plusP; rw [isNaN_NaNP, h]; simp
  · rfl
theorem addP_nr (a b : Int) : addP a (nrm b) = addP a b := by
  unfold nrm; split
  · rename_i h; unfold addP plusP; rw [isNaN_NaNP, h]; simp
  · rfl
theorem subP_nl (a b : Int) : subP (nrm a) b = subP a b := by
  unfold nrm; split
  · rename_i h; unfold subP plusP; rw [isNaN_NaNP, h]; simp
  · rfl
theorem subP_nr (a b : Int) : subP a (nrm b) = subP a b := by
  unfold nrm; split
  · rename_i h; unfold subP plusP; rw [isNaN_NaNP, h]; simp
  · rfl
theorem mulP_nl (a b : Int) : mulP (nrm a) b = mulP a b := by
  unfold nrm; split
  · rename_i h; unfold mulP timesP; rw [isNaN_NaNP, h]; simp
  · rfl
theorem mulP_nr (a b : Int) : mulP a (nrm b) = mulP a b := by
  unfold nrm; split
  · rename_i h; unfold mulP timesP; rw [isNaN_NaNP, h]; simp
  · rfl
theorem pat_I64 {neg : Bool} {r : Nat} (h : r < 9223372036854775808) : I64 (pat neg r) := by
  unfold I64 pat; cases neg <;> simp <;> omega
theorem pat_nan {neg : Bool} {r : Nat} (h : r ≤ 9218868437227405312) : isNaN (pat neg r) = false := by
  have key : fE (pat neg r) = r / 4503599627370496 ∧ fT (pat neg r) = r % 4503599627370496 := by
    unfold fE fT pat; cases neg <;> simp <;> omega
  unfold isNaN
  rw [key.1, key.2]
  by_cases h1 : r / 4503599627370496 = 2047
  · have h2 : r % 4503599627370496 = 0 := by omega
    simp [h2]
  · simp [h1]
theorem write_fin {d : Ieee.Datum} (h : d.isNaN = false) : ∃ neg r, Ieee.double.write d = Ieee.double.word neg r ∧ r ≤ 9218868437227405312 := by
  cases d with
  | number neg m e =>
    by_cases h0 : m = 0
    · exact ⟨neg, 0, by subst h0; rfl, by decide⟩
    · exact ⟨neg, _, nearest_rung neg e h0, rung_lt m e⟩
  | infinity neg => exact ⟨neg, _, rfl, Nat.le_refl _⟩
  | nan neg t => cases h
theorem map_write {o : Option Ieee.Datum} (hn : ∀ d, o = some d → d.isNaN = false) {z : Nat} (hz : o.map Ieee.double.write = some z) : z < 18446744073709551616 ∧ nrm (sg z) = sg z := by
  cases o with
  | none => cases hz
  | some d =>
    obtain ⟨neg, r, h1, h2⟩ := write_fin (hn d rfl)
    have hz' : Ieee.double.write d = z := by simpa using hz
    have hlt : r < 9223372036854775808 := by omega
    have e : sg z = pat neg r := by rw [← hz', h1, sg_word neg hlt]
    refine ⟨?_, ?_⟩
    · rw [← hz', h1]
      cases neg
      · show r < _; omega
      · show 9223372036854775808 + r < _; omega
    · unfold nrm; rw [e, pat_nan h2]; rfl
theorem sum_nan (x y d : Ieee.Datum) (h : x.sum y = some d) : d.isNaN = false := by
  cases x <;> cases y <;> simp only [Ieee.Datum.sum] at h <;> first
    | (cases h; done)
    | (cases h; rfl)
    | (split at h <;> cases h <;> rfl)
theorem prod_nan (x y d : Ieee.Datum) (h : x.product y = some d) : d.isNaN = false := by
  cases x <;> cases y <;> simp only [Ieee.Datum.product] at h <;> first
    | (cases h; done)
    | (cases h; rfl)
    | (split at h <;> cases h <;> rfl)
end Go.Eng
