import Derived.Test.YtedmhkimbbkdgaaGreatFmtA28
import Derived.Test.YtedmhkimbbkdgaaGreatFmtA23
/- Here stand lemmas: sums and products of floats and what they lost. -/
set_option linter.unusedVariables false
set_option linter.unusedVariables false
namespace Go.Eng
open Go
/-- A whole number of at most 53 bits, with noughts behind. -/
def Fl (v : Int) : Prop := ∃ m t : Nat, v.natAbs = m * 2 ^ t ∧ m ≤ 9007199254740992
/-- 2^k divides. -/
def Dv (k : Nat) (x : Int) : Prop := ∃ z : Int, x = z * ((2 ^ k : Nat) : Int)
theorem Dv.zero {k : Nat} : Dv k 0 := ⟨0, by rw [Int.zero_mul]⟩
theorem Dv.add {k : Nat} {x y : Int} (a : Dv k x) (b : Dv k y) : Dv k (x + y) := by
  obtain ⟨z, rfl⟩ := a; obtain ⟨w, rfl⟩ := b; exact ⟨z + w, by rw [Int.add_mul]⟩
theorem Dv.neg {k : Nat} {x : Int} (a : Dv k x) : Dv k (-x) := by
  obtain ⟨z, rfl⟩ := a; exact ⟨-z, by rw [Int.neg_mul]⟩
theorem Dv.sub {k : Nat} {x y : Int} (a : Dv k x) (b : Dv k y) : Dv k (x - y) := by
  rw [Int.sub_eq_add_neg]; exact a.add b.neg
theorem Dv.mono {j k : Nat} {x : Int} (a : Dv k x) (h : j ≤ k) : Dv j x := by
  obtain ⟨z, rfl⟩ := a
  obtain ⟨d, rfl⟩ : ∃ d, k = j + d := ⟨k - j, by omega⟩
  exact ⟨z * ((2 ^ d : Nat) : Int), by rw [Nat.pow_add, Int.natCast_mul, Int.mul_assoc, Int.mul_comm ((2 ^ j : Nat) : Int)]⟩
theorem Dv.abs {k : Nat} {x : Int} (a : Dv k x) : ∃ m : Nat, x.natAbs = m * 2 ^ k := by
  obtain ⟨z, rfl⟩ := a
  exact ⟨z.natAbs, by rw [Int.natAbs_mul, Int.natAbs_natCast]⟩
theorem Dv.of_abs {k m : Nat} {x : Int} (h : x.natAbs = m * 2 ^ k) : Dv k x := by
  by_cases hx : x < 0
  · exact ⟨-(m : Int), by rw [Int.neg_mul, ← Int.natCast_mul, ← h]; omega⟩
  · exact ⟨(m : Int), by rw [← Int.natCast_mul, ← h]; omega⟩
theorem Dv.ge {k : Nat} {x : Int} (a : Dv k x) (h : x ≠ 0) : 2 ^ k ≤ x.natAbs := by
  obtain ⟨m, e⟩ := a.abs
  have : m ≠ 0 := by intro k; rw [k, Nat.zero_mul] at e; omega
  rw [e]
  exact Nat.le_mul_of_pos_left _ (by omega)
theorem Fl.zero : Fl 0 := ⟨0, 0, rfl, by decide⟩
theorem Fl.neg {v : Int} (h : Fl v) : Fl (-v) := by
  obtain ⟨m, t, a, b⟩ := h; exact ⟨m, t, by rw [Int.natAbs_neg]; exact a, b⟩
theorem Fl.of {k : Nat} {x : Int} (a : Dv k x) (h : x.natAbs ≤ 9007199254740992 * 2 ^ k) : Fl x := by
  obtain ⟨m, e⟩ := a.abs
  refine ⟨m, k, e, ?_⟩
  rw [e] at h
  exact Nat.le_of_mul_le_mul_right h (Nat.pow_pos (by decide))
theorem Fl.dv {v : Int} (h : Fl v) : ∃ t, Dv t v ∧ v.natAbs ≤ 9007199254740992 * 2 ^ t := by
  obtain ⟨m, t, a, b⟩ := h
  exact ⟨t, Dv.of_abs a, by rw [a]; exact Nat.mul_le_mul_right _ b⟩
/-- A great float is a multiple of its last place. -/
theorem Fl.big {v : Int} (h : Fl v) {k : Nat} (hk : 4503599627370496 * 2 ^ k ≤ v.natAbs) : Dv k v := by
  obtain ⟨m, t, a, b⟩ := h
  rcases Nat.lt_or_ge t k with hlt | hge
  · obtain ⟨d, rfl⟩ : ∃ d, k = t + (d + 1) := ⟨k - t - 1, by omega⟩
    have hp : 0 < 2 ^ t := Nat.pow_pos (by decide)
    rw [a, Nat.pow_add, Nat.mul_comm (2 ^ t), ← Nat.mul_assoc] at hk
    have h1 := Nat.le_of_mul_le_mul_right hk hp
    have hd : 0 < 2 ^ d := Nat.pow_pos (by decide)
    rw [Nat.pow_succ] at h1
    have h2 : 2 ^ d = 1 := by omega
    have hd0 : d = 0 := by
      rcases Nat.eq_zero_or_pos d with e | e
      · exact e
      · have : 2 ^ 1 ≤ 2 ^ d := Nat.pow_le_pow_right (by decide) e
        omega
    subst hd0
    have hm : m = 4503599627370496 * 2 := by omega
    refine Dv.of_abs (m := 4503599627370496) ?_
    rw [a, hm, Nat.zero_add, Nat.pow_succ, Nat.mul_assoc, Nat.mul_comm 2]
  · exact (Dv.of_abs a).mono hge
theorem rnd_cases (v : Int) : rndI v = v ∨ ∃ j : Nat, 9007199254740992 * 2 ^ j ≤ v.natAbs ∧ v.natAbs < 18014398509481984 * 2 ^ j ∧ Dv (j + 1) (rndI v) ∧ (rndI v - v).natAbs ≤ 2 ^ j := by
  obtain ⟨s, hs⟩ := sgv_of v
  generalize hn : v.natAbs = n at *
  have e52 : (2 : Nat) ^ 52 = 4503599627370496 := by decide
  have e53 : (2 : Nat) ^ 53 = 9007199254740992 := by decide
  rcases Nat.lt_or_ge n (2 ^ 53) with h | h
  · left; rw [hs, rndI_sgv, R53_small h]
  right
  have h0 : n ≠ 0 := by omega
  have hl := (Nat.log2_eq_iff h0).1 rfl
  have h53 : 53 ≤ n.log2 := by
    apply Nat.le_of_not_lt
    intro k
    have := (Nat.log2_lt h0).1 k
    omega
  obtain ⟨j, hj⟩ : ∃ j, n.log2 = 53 + j := ⟨n.log2 - 53, by omega⟩
  rw [hj] at hl
  have hn1 := rn_near n (j + 1)
  have hR := R53_at (n := n) (j := j + 1) (by rw [show 52 + (j + 1) = 53 + j by omega]; exact hl.1) (by rw [show 53 + (j + 1) = 53 + j + 1 by omega]; exact hl.2)
  rw [Nat.pow_succ, Nat.pow_add, e53] at hl
  have hD : rndI v = sgv s (R53 n) := by rw [hs, rndI_sgv]
  refine ⟨j, hl.1, by omega, ?_, ?_⟩
  · rw [hD]
    refine Dv.of_abs (m := rn n (j + 1)) ?_
    rw [sgv_abs, hR]
  · have ha : (sgv s (R53 n) - sgv s n).natAbs = ((R53 n : Int) - (n : Int)).natAbs := by
      unfold sgv; cases s
      · rfl
      · simp only [if_true]; omega
    rw [hD, hs, ha]
    rw [← hR, Nat.pow_succ] at hn1
    omega
theorem rnd_fl (v : Int) : Fl (rndI v) := by
  obtain ⟨s, hs⟩ := sgv_of v
  rw [hs, rndI_sgv]
  generalize v.natAbs = n
  by_cases h0 : n < 2 ^ 53
  · rw [R53_small h0]
    exact ⟨n, 0, by rw [sgv_abs, Nat.pow_zero, Nat.mul_one], by have e53 : (2 : Nat) ^ 53 = 9007199254740992 := by decide
                                                                omega⟩
  · have hn0 : n ≠ 0 := by have : 0 < 2 ^ 53 := by decide
                           omega
    have hl := (Nat.log2_eq_iff hn0).1 rfl
    refine ⟨rn n (n.log2 - 52), n.log2 - 52, by rw [sgv_abs]; rfl, ?_⟩
    have hb := (rn_le n (n.log2 - 52)).2
    have h53 : 52 ≤ n.log2 := by
      apply Nat.le_of_not_lt
      intro k
      have := (Nat.log2_lt hn0).1 k
      have : 2 ^ 52 ≤ 2 ^ 53 := by decide
      omega
    have : n / 2 ^ (n.log2 - 52) < 2 ^ 53 := by
      rw [Nat.div_lt_iff_lt_mul (Nat.pow_pos (by decide)), ← Nat.pow_add, show 53 + (n.log2 - 52) = n.log2 + 1 by omega]
      exact hl.2
    have e53 : (2 : Nat) ^ 53 = 9007199254740992 := by decide
    omega
theorem rnd_exact {v : Int} (h : Fl v) : rndI v = v := by
  obtain ⟨m, t, a, b⟩ := h
  obtain ⟨s, hs⟩ := sgv_of v
  rw [hs, rndI_sgv, a]
  have e53 : (2 : Nat) ^ 53 = 9007199254740992 := by decide
  rw [R53_exact (by omega)]
/-- Nothing of 53 bits is nearer. -/
theorem rnd_nearest {f : Int} (hf : Fl f) (v : Int) : (rndI v - v).natAbs ≤ (f - v).natAbs := by
  rcases rnd_cases v with e | ⟨j, h1, h2, h3, h4⟩
  · rw [e, Int.sub_self]; exact Nat.zero_le _
  apply Nat.le_of_not_lt
  intro hlt
  have hp : 0 < 2 ^ j := Nat.pow_pos (by decide)
  have hpp : 2 ^ (j + 1) = 2 * 2 ^ j := by rw [Nat.pow_succ, Nat.mul_comm]
  rcases Nat.lt_or_ge f.natAbs (9007199254740992 * 2 ^ j) with k | k
  · have hD : Dv j f := hf.big (by omega)
    have : f.natAbs + 2 ^ j ≤ 9007199254740992 * 2 ^ j := by
      obtain ⟨m, e⟩ := hD.abs
      rw [e] at k ⊢
      have := Nat.lt_of_mul_lt_mul_right k
      have h5 : (m + 1) * 2 ^ j ≤ 9007199254740992 * 2 ^ j := Nat.mul_le_mul_right _ this
      rw [Nat.add_mul, Nat.one_mul] at h5
      exact h5
    omega
  · have hD : Dv (j + 1) f := hf.big (by rw [hpp]; omega)
    have hd := (hD.sub h3)
    by_cases h0 : f - rndI v = 0
    · have : f = rndI v := by omega
      rw [this] at hlt; omega
    · have := hd.ge h0
      rw [hpp] at this
      omega
theorem rnd_err {x y : Int} (hx : Fl x) : (rndI (x + y) - (x + y)).natAbs ≤ y.natAbs := by
  have := rnd_nearest hx (x + y)
  have e : (x - (x + y)).natAbs = y.natAbs := by omega
  omega
theorem rnd_err' {x y : Int} (hy : Fl y) : (rndI (x + y) - (x + y)).natAbs ≤ x.natAbs := by
  rw [Int.add_comm x y]; exact rnd_err hy
/-- What a multiple of 2^k is rounded to is one too. -/
theorem rnd_dv {k : Nat} {v : Int} (h : Dv k v) : Dv k (rndI v) := by
  rcases rnd_cases v with e | ⟨j, h1, h2, h3, h4⟩
  · rw [e]; exact h
  rcases Nat.lt_or_ge (j + 1) k with c | c
  · have hF : Fl v := Fl.of h (by
      have : 2 ^ (j + 1) ≤ 2 ^ k := Nat.pow_le_pow_right (by decide) (by omega)
      rw [Nat.pow_succ] at this
      omega)
    rw [rnd_exact hF]; exact h
  · exact h3.mono c
/-- What a sum loses is a float. -/
theorem err_fl {x y : Int} (hx : Fl x) (hy : Fl y) : Fl (rndI (x + y) - (x + y)) := by
  obtain ⟨i, a1, a2⟩ := hx.dv
  obtain ⟨j, b1, b2⟩ := hy.dv
  rcases Nat.le_total i j with c | c
  · have hd : Dv i (x + y) := a1.add (b1.mono c)
    exact Fl.of ((rnd_dv hd).sub hd) (Nat.le_trans (rnd_err' hy) a2)
  · have hd : Dv j (x + y) := (a1.mono c).add b1
    exact Fl.of ((rnd_dv hd).sub hd) (Nat.le_trans (rnd_err hx) b2)
/-- The sum, less the greater one, is a float. -/
theorem fast_fl {x y : Int} (hx : Fl x) (hy : Fl y) (h : y.natAbs ≤ x.natAbs) : Fl (rndI (x + y) - x) := by
  rcases rnd_cases (x + y) with e | ⟨j, h1, h2, h3, h4⟩
  · rw [e]; have : x + y - x = y := by omega
    rw [this]; exact hy
  have hp : 0 < 2 ^ j := Nat.pow_pos (by decide)
  have hpp : 2 ^ (j + 1) = 2 * 2 ^ j := by rw [Nat.pow_succ, Nat.mul_comm]
  have hxj : Dv j x := hx.big (by omega)
  have hD : Dv j (rndI (x + y) - x) := (h3.mono (by omega)).sub hxj
  by_cases hs : (x + y).natAbs = x.natAbs + y.natAbs
  · refine Fl.of hD ?_
    obtain ⟨m, em⟩ := hD.abs
    have h5 : m * 2 ^ j < (9007199254740992 + 1) * 2 ^ j := by rw [Nat.add_mul, Nat.one_mul, ← em]; omega
    have := Nat.lt_of_mul_lt_mul_right h5
    rw [em]; exact Nat.mul_le_mul_right _ (by omega)
  · have hxD : Dv (j + 1) x := hx.big (by rw [hpp]; omega)
    by_cases k : 9007199254740992 * 2 ^ j ≤ y.natAbs
    · have hyD : Dv (j + 1) y := hy.big (by rw [hpp]; omega)
      rw [rnd_exact (Fl.of (hxD.add hyD) (by rw [hpp]; omega))]
      have : x + y - x = y := by omega
      rw [this]; exact hy
    · exact Fl.of (h3.sub hxD) (by rw [hpp]; omega)
/-- Knuth: six operations tell it of any two. -/
theorem two_sum {x y : Int} (hx : Fl x) (hy : Fl y) :
    rndI (rndI (x - rndI (rndI (x + y) - rndI (rndI (x + y) - x))) + rndI (y - rndI (rndI (x + y) - x))) = x + y - rndI (x + y) := by
  have he : Fl (rndI (x + y) - (x + y)) := err_fl hx hy
  have fin : rndI (x + y - rndI (x + y)) = x + y - rndI (x + y) := by
    have e : x + y - rndI (x + y) = -(rndI (x + y) - (x + y)) := by omega
    rw [e, rnd_exact he.neg]
  rcases Nat.lt_or_ge x.natAbs y.natAbs with h | h
  · have e1 := rnd_err' (x := x) hy
    have hs := rnd_fl (x + y)
    have hnear := rnd_nearest (f := if 0 ≤ x + y then (x.natAbs : Int) else -(x.natAbs : Int)) (by
      have hxa : Fl (x.natAbs : Int) := by obtain ⟨m, t, a, b⟩ := hx; exact ⟨m, t, by rw [Int.natAbs_natCast]; exact a, b⟩
      split
      · exact hxa
      · exact hxa.neg) (x + y)
    generalize hs' : rndI (x + y) = s at *
    have h3 := err_fl hy he
    have h1 := fast_fl hy he (by omega)
    have e2 : y + (s - (x + y)) = s - x := by omega
    rw [e2] at h1 h3
    have hw : Fl (s - rndI (s - x)) := by
      rcases Nat.lt_or_ge s.natAbs x.natAbs with c | c
      · have hlt : (x + y).natAbs < x.natAbs := by
          apply Nat.lt_of_not_le
          intro k
          split at hnear <;> omega
        have hF : Fl (x + y) := by
          obtain ⟨i, a1, a2⟩ := hx.dv
          obtain ⟨j, b1, b2⟩ := hy.dv
          rcases Nat.le_total i j with c | c
          · exact Fl.of (a1.add (b1.mono c)) (by omega)
          · exact Fl.of ((a1.mono c).add b1) (by omega)
        have hse : s = x + y := by rw [← hs', rnd_exact hF]
        have : s - x = y := by omega
        rw [this, rnd_exact hy, hse]
        have : x + y - y = x := by omega
        rw [this]; exact hx
      · have := fast_fl hs hx.neg (by rw [Int.natAbs_neg]; exact c)
        rw [← Int.sub_eq_add_neg] at this
        have := this.neg
        rw [Int.neg_sub] at this
        exact this
    generalize rndI (s - x) = v at *
    rw [rnd_exact hw]
    have e3 : x - (s - v) = v - (s - x) := by omega
    have e4 : y - v = -(v - y) := by omega
    rw [e3, rnd_exact h3, e4, rnd_exact h1.neg]
    have e5 : v - (s - x) + -(v - y) = x + y - s := by omega
    rw [e5]; exact fin
  · have h1 := fast_fl hx hy h
    rw [rnd_exact h1]
    generalize rndI (x + y) = s at *
    have e1 : s - (s - x) = x := by omega
    have e2 : x - x = 0 := by omega
    have e3 : y - (s - x) = x + y - s := by omega
    rw [e1, rnd_exact hx, e2, rnd_exact Fl.zero, e3, fin, Int.zero_add, fin]
end Go.Eng
set_option linter.unusedVariables false
namespace Go.Eng
open Go
theorem Dv.mul {i j : Nat} {x y : Int} (a : Dv i x) (b : Dv j y) : Dv (i + j) (x * y) := by
  obtain ⟨z, rfl⟩ := a; obtain ⟨w, rfl⟩ := b
  exact ⟨z * w, by rw [Nat.pow_add, Int.natCast_mul]; ac_rfl⟩
theorem Dv.split {i W : Nat} {x : Int} (a : Dv (i + W) x) : ∃ z, x = z * ((2 ^ W : Nat) : Int) ∧ Dv i z := by
  obtain ⟨z, rfl⟩ := a
  exact ⟨z * ((2 ^ i : Nat) : Int), by rw [Nat.pow_add, Int.natCast_mul, Int.mul_assoc], ⟨z, rfl⟩⟩
end Go.Eng
namespace Go.Proofs
open Go Go.Eng
end Go.Proofs
