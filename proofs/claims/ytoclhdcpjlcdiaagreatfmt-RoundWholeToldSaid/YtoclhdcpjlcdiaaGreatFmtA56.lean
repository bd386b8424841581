import Derived.Test.YtoclhdcpjlcdiaaGreatFmtA28
import Derived.Test.YtoclhdcpjlcdiaaGreatFmtA23
/- Here stand lemmas: sums and products of floats and what they lost. -/
set_option linter.unusedVariables false
set_option linter.unusedVariables false
namespace Go.Eng
open Go
/-- A whole number of at most 53 bits, with noughts behind. -/
def Fl (v : Int) : Prop := ∃ m t : Nat, v.natAbs = m * 2 ^ t ∧ m ≤ 9007199254740992
/-- 2^k divides. -/
def Dv (k : Nat) (x : Int) : Prop := ∃ z : Int, x = z * ((2 ^ k : Nat) : Int)
theorem Dv.zero {k : Nat} : Dv k 0 := ⟨0, by rw [Int.zero_mul]⟩
theorem Dv.add {k : Nat} {x y : Int} (a : Dv k x) (b : Dv k y) : Dv k (x + y) := by
  obtain ⟨z, rfl⟩ := a; obtain ⟨w, rfl⟩ := b; exact ⟨z + w, by rw [Int.add_mul]⟩
theorem Dv.neg {k : Nat} {x : Int} (a : Dv k x) : Dv k (-x) := by
  obtain ⟨z, rfl⟩ := a; exact ⟨-z, by rw [Int.neg_mul]⟩
theorem Dv.sub {k : Nat} {x y : Int} (a : Dv k x) (b : Dv k y) : Dv k (x - y) := by
  rw [Int.sub_eq_add_neg]; exact a.add b.neg
theorem Dv.mono {j k : Nat} {x : Int} (a : Dv k x) (h : j ≤ k) : Dv j x := by
  obtain ⟨z, rfl⟩ := a
  obtain ⟨d, rfl⟩ : ∃ d, k = j + d := ⟨k - j, by omega⟩
  exact ⟨z * ((2 ^ d : Nat) : Int), by rw [Nat.pow_add, Int.natCast_mul, Int.mul_assoc, Int.mul_comm ((2 ^ j : Nat) : Int)]⟩
theorem Dv.abs {k : Nat} {x : Int} (a : Dv k x) : ∃ m : Nat, x.natAbs = m * 2 ^ k := by
  obtain ⟨z, rfl⟩ := a
  exact ⟨z.natAbs, by rw [Int.natAbs_mul, Int.natAbs_natCast]⟩
theorem Dv.of_abs {k m : Nat} {x : Int} (h : x.natAbs = m * 2 ^ k) : Dv k x := by
  by_cases hx : x < 0
  · exact ⟨-(m : Int), by rw [Int.neg_mul, ← Int.natCast_mul, ← h]; omega⟩
  · exact ⟨(m : Int), by rw [← Int.natCast_mul, ← h]; omega⟩
theorem Dv.ge {k : Nat} {x : Int} (a : Dv k x) (h : x ≠ 0) : 2 ^ k ≤ x.natAbs := by
  obtain ⟨m, e⟩ := a.abs
  have : m ≠ 0 := by intro k; rw [k, Nat.zero_mul] at e; omega
  rw [e]
  exact Nat.le_mul_of_pos_left _ (by omega)
theorem Fl.zero : Fl 0 := ⟨0, 0, rfl, by decide⟩
theorem Fl.neg {v : Int} (h : Fl v) : Fl (-v) := by
  obtain ⟨m, t, a, b⟩ := h; exact ⟨m, t, by rw [Int.natAbs_neg]; exact a, b⟩
theorem Fl.of {k : Nat} {x : Int} (a : Dv k x) (h : x.natAbs ≤ 9007199254740992 * 2 ^ k) : Fl x := by
  obtain ⟨m, e⟩ := a.abs
  refine ⟨m, k, e, ?_⟩
  rw [e] at h
  exact Nat.le_of_mul_le_mul_right h (Nat.pow_pos (by decide))
/-- A great float is a multiple of its last place. -/
theorem Fl.big {v : Int} (h : Fl v) {k : Nat} (hk : 4503599627370496 * 2 ^ k ≤ v.natAbs) : Dv k v := by
  obtain ⟨m, t, a, b⟩ := h
  rcases Nat.lt_or_ge t k with hlt | hge
  · obtain ⟨d, rfl⟩ : ∃ d, k = t + (d + 1) := ⟨k - t - 1, by omega⟩
    have hp : 0 < 2 ^ t := Nat.pow_pos (by decide)
    rw [a, Nat.pow_add, Nat.mul_comm (2 ^ t), ← Nat.mul_assoc] at hk
    have h1 := Nat.le_of_mul_le_mul_right hk hp
    have hd : 0 < 2 ^ d := Nat.pow_pos (by decide)
    rw [Nat.pow_succ] at h1
    have h2 : 2 ^ d = 1 := by omega
    have hd0 : d = 0 := by
      rcases Nat.eq_zero_or_pos d with e | e
      · exact e
      · have : 2 ^ 1 ≤ 2 ^ d := Nat.pow_le_pow_right (by decide) e
        omega
    subst hd0
    have hm : m = 4503599627370496 * 2 := by omega
    refine Dv.of_abs (m := 4503599627370496) ?_
    rw [a, hm, Nat.zero_add, Nat.pow_succ, Nat.mul_assoc, Nat.mul_comm 2]
  · exact (Dv.of_abs a).mono hge
theorem rnd_cases (v : Int) : rndI v = v ∨ ∃ j : Nat, 9007199254740992 * 2 ^ j ≤ v.natAbs ∧ v.natAbs < 18014398509481984 * 2 ^ j ∧ Dv (j + 1) (rndI v) ∧ (rndI v - v).natAbs ≤ 2 ^ j := by
  obtain ⟨s, hs⟩ := sgv_of v
  generalize hn : v.natAbs = n at *
  have e52 : (2 : Nat) ^ 52 = 4503599627370496 := by decide
  have e53 : (2 : Nat) ^ 53 = 9007199254740992 := by decide
  rcases Nat.lt_or_ge n (2 ^ 53) with h | h
  · left; rw [hs, rndI_sgv, R53_small h]
  right
  have h0 : n ≠ 0 := by omega
  have hl := (Nat.log2_eq_iff h0).1 rfl
  have h53 : 53 ≤ n.log2 := by
    apply Nat.le_of_not_lt
    intro k
    have := (Nat.log2_lt h0).1 k
    omega
  obtain ⟨j, hj⟩ : ∃ j, n.log2 = 53 + j := ⟨n.log2 - 53, by omega⟩
  rw [hj] at hl
  have hn1 := rn_near n (j + 1)
  have hR := R53_at (n := n) (j := j + 1) (by rw [show 52 + (j + 1) = 53 + j by omega]; exact hl.1) (by rw [show 53 + (j + 1) = 53 + j + 1 by omega]; exact hl.2)
  rw [Nat.pow_succ, Nat.pow_add, e53] at hl
  have hD : rndI v = sgv s (R53 n) := by rw [hs, rndI_sgv]
  refine ⟨j, hl.1, by omega, ?_, ?_⟩
  · rw [hD]
    refine Dv.of_abs (m := rn n (j + 1)) ?_
    rw [sgv_abs, hR]
  · have ha : (sgv s (R53 n) - sgv s n).natAbs = ((R53 n : Int) - (n : Int)).natAbs := by
      unfold sgv; cases s
      · rfl
      · simp only [if_true]; omega
    rw [hD, hs, ha]
    rw [← hR, Nat.pow_succ] at hn1
    omega
theorem rnd_exact {v : Int} (h : Fl v) : rndI v = v := by
  obtain ⟨m, t, a, b⟩ := h
  obtain ⟨s, hs⟩ := sgv_of v
  rw [hs, rndI_sgv, a]
  have e53 : (2 : Nat) ^ 53 = 9007199254740992 := by decide
  rw [R53_exact (by omega)]
end Go.Eng
set_option linter.unusedVariables false
namespace Go.Eng
open Go
theorem Dv.mul {i j : Nat} {x y : Int} (a : Dv i x) (b : Dv j y) : Dv (i + j) (x * y) := by
  obtain ⟨z, rfl⟩ := a; obtain ⟨w, rfl⟩ := b
  exact ⟨z * w, by rw [Nat.pow_add, Int.natCast_mul]; ac_rfl⟩
theorem Dv.split {i W : Nat} {x : Int} (a : Dv (i + W) x) : ∃ z, x = z * ((2 ^ W : Nat) : Int) ∧ Dv i z := by
  obtain ⟨z, rfl⟩ := a
  exact ⟨z * ((2 ^ i : Nat) : Int), by rw [Nat.pow_add, Int.natCast_mul, Int.mul_assoc], ⟨z, rfl⟩⟩
end Go.Eng
namespace Go.Proofs
open Go Go.Eng
end Go.Proofs
set_option linter.unusedVariables false
namespace Go.Eng
open Go
/-- The rungs up to the greatest float. -/
theorem rung_top (neg : Bool) {n K : Nat} (hK : K ≤ 2045) (h : n ≤ 9007199254740991 * 2 ^ K) : isFin (pat neg (rung n (-1074))) = true ∧ fV (pat neg (rung n (-1074))) = Ieee.signed neg (R53 n) 0 := by
  by_cases h0 : n = 0
  · subst h0
    rw [rung_zero, R53_zero]
    have := fV_pat neg (j := 0) (k := 0) (by omega) (by omega) (by omega)
    rw [Nat.zero_mul, Nat.zero_add] at this
    exact this
  obtain ⟨j, hj⟩ : ∃ j, n.log2 - 52 = j := ⟨_, rfl⟩
  have eL : lastP n (-1074) = -1074 + (j : Int) := by unfold lastP; omega
  have eK : kpt n (-1074) = rn n j := by
    unfold kpt
    rw [eL, show ((-1074 : Int) - (-1074 + (j : Int))).toNat = 0 by omega, Nat.pow_zero, Nat.mul_one, show (-1074 + (j : Int) - (-1074 : Int)).toNat = j by omega]
  obtain ⟨b1, b2⟩ := kpt_lt (-1074) h0
  rw [eK] at b1 b2
  have e52 : (2 : Nat) ^ 52 = 4503599627370496 := by decide
  have e53 : (2 : Nat) ^ 53 = 9007199254740992 := by decide
  rw [e53] at b1
  rw [e52] at b2
  have hjK : j ≤ K := by
    have : n < 2 ^ (53 + K) := by
      have : 2 ^ (53 + K) = 9007199254740992 * 2 ^ K := by rw [Nat.pow_add, e53]
      have : 0 < 2 ^ K := Nat.pow_pos (by decide)
      omega
    have := (Nat.log2_lt h0).2 this
    omega
  have hlt : j * 4503599627370496 + rn n j < 9218868437227405312 := by
    rcases Nat.lt_or_ge j 2045 with h1 | h1
    · omega
    · have hjk : j = K := by omega
      subst hjk
      have hp : 0 < 2 ^ j := Nat.pow_pos (by decide)
      have h3 : n / 2 ^ j ≤ 9007199254740991 := by
        apply Nat.le_of_lt_succ
        rw [Nat.div_lt_iff_lt_mul hp]
        generalize 2 ^ j = D at *; omega
      rcases Nat.lt_or_ge (n / 2 ^ j) 9007199254740991 with h4 | h4
      · have := (rn_le n j).2
        omega
      · have h5 : n = 9007199254740991 * 2 ^ j := by
          apply Nat.le_antisymm h
          have := (Nat.le_div_iff_mul_le hp).1 h4
          exact this
        rw [h5, rn_exact]; omega
  have er : rung n (-1074) = j * 4503599627370496 + rn n j := by
    unfold rung
    rw [eL, eK, show (-1074 + (j : Int) + 1074).toNat = j by omega]
    exact Nat.min_eq_left (by omega)
  rw [er]
  obtain ⟨c1, c2⟩ := fV_pat neg (j := j) (k := rn n j) b1 (fun hne => b2 (by rw [eL]; omega)) hlt
  refine ⟨c1, ?_⟩
  rw [c2, signed_nat, signed_nat]
  unfold R53
  rw [hj, Nat.pow_zero, Nat.mul_one]
end Go.Eng
namespace Go.Proofs
open Go Go.Eng
end Go.Proofs
