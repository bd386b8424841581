import Derived.Test.YtjiinenefbjfcaaGreatFmtA28
import Derived.Test.YtjiinenefbjfcaaGreatFmtA23
/- Here stand lemmas: sums and products of floats and what they lost. -/
set_option linter.unusedVariables false
set_option linter.unusedVariables false
namespace Go.Eng
open Go
/-- A whole number of at most 53 bits, with noughts behind. -/
def Fl (v : Int) : Prop := ∃ m t : Nat, v.natAbs = m * 2 ^ t ∧ m ≤ 9007199254740992
/-- 2^k divides. -/
def Dv (k : Nat) (x : Int) : Prop := ∃ z : Int, x = z * ((2 ^ k : Nat) : Int)
theorem Dv.zero {k : Nat} : Dv k 0 := ⟨0, by rw [Int.zero_mul]⟩
theorem Dv.add {k : Nat} {x y : Int} (a : Dv k x) (b : Dv k y) : Dv k (x + y) := by
  obtain ⟨z, rfl⟩ := a; obtain ⟨w, rfl⟩ := b; exact ⟨z + w, by rw [Int.add_mul]⟩
theorem Dv.neg {k : Nat} {x : Int} (a : Dv k x) : Dv k (-x) := by
  obtain ⟨z, rfl⟩ := a; exact ⟨-z, by rw [Int.neg_mul]⟩
theorem Dv.sub {k : Nat} {x y : Int} (a : Dv k x) (b : Dv k y) : Dv k (x - y) := by
  rw [Int.sub_eq_add_neg]; exact a.add b.neg
theorem Dv.mono {j k : Nat} {x : Int} (a : Dv k x) (h : j ≤ k) : Dv j x := by
  obtain ⟨z, rfl⟩ := a
  obtain ⟨d, rfl⟩ : ∃ d, k = j + d := ⟨k - j, by omega⟩
  exact ⟨z * ((2 ^ d : Nat) : Int), by rw [Nat.pow_add, Int.natCast_mul, Int.mul_assoc, Int.mul_comm ((2 ^ j : Nat) : Int)]⟩
theorem Dv.abs {k : Nat} {x : Int} (a : Dv k x) : ∃ m : Nat, x.natAbs = m * 2 ^ k := by
  obtain ⟨z, rfl⟩ := a
  exact ⟨z.natAbs, by rw [Int.natAbs_mul, Int.natAbs_natCast]⟩
theorem Dv.of_abs {k m : Nat} {x : Int} (h : x.natAbs = m * 2 ^ k) : Dv k x := by
  by_cases hx : x < 0
  · exact ⟨-(m : Int), by rw [Int.neg_mul, ← Int.natCast_mul, ← h]; omega⟩
  · exact ⟨(m : Int), by rw [← Int.natCast_mul, ← h]; omega⟩
theorem Dv.ge {k : Nat} {x : Int} (a : Dv k x) (h : x ≠ 0) : 2 ^ k ≤ x.natAbs := by
  obtain ⟨m, e⟩ := a.abs
  have : m ≠ 0 := by intro k; rw [k, Nat.zero_mul] at e; omega
  rw [e]
  exact Nat.le_mul_of_pos_left _ (by omega)
theorem Fl.zero : Fl 0 := ⟨0, 0, rfl, by decide⟩
theorem Fl.neg {v : Int} (h : Fl v) : Fl (-v) := by
  obtain ⟨m, t, a, b⟩ := h; exact ⟨m, t, by rw [Int.natAbs_neg]; exact a, b⟩
theorem Fl.of {k : Nat} {x : Int} (a : Dv k x) (h : x.natAbs ≤ 9007199254740992 * 2 ^ k) : Fl x := by
  obtain ⟨m, e⟩ := a.abs
  refine ⟨m, k, e, ?_⟩
  rw [e] at h
  exact Nat.le_of_mul_le_mul_right h (Nat.pow_pos (by decide))
theorem Fl.dv {v : Int} (h : Fl v) : ∃ t, Dv t v ∧ v.natAbs ≤ 9007199254740992 * 2 ^ t := by
  obtain ⟨m, t, a, b⟩ := h
  exact ⟨t, Dv.of_abs a, by rw [a]; exact Nat.mul_le_mul_right _ b⟩
/-- A great float is a multiple of its last place. -/
theorem Fl.big {v : Int} (h : Fl v) {k : Nat} (hk : 4503599627370496 * 2 ^ k ≤ v.natAbs) : Dv k v := by
  obtain ⟨m, t, a, b⟩ := h
  rcases Nat.lt_or_ge t k with hlt | hge
  · obtain ⟨d, rfl⟩ : ∃ d, k = t + (d + 1) := ⟨k - t - 1, by omega⟩
    have hp : 0 < 2 ^ t := Nat.pow_pos (by decide)
    rw [a, Nat.pow_add, Nat.mul_comm (2 ^ t), ← Nat.mul_assoc] at hk
    have h1 := Nat.le_of_mul_le_mul_right hk hp
    have hd : 0 < 2 ^ d := Nat.pow_pos (by decide)
    rw [Nat.pow_succ] at h1
    have h2 : 2 ^ d = 1 := by omega
    have hd0 : d = 0 := by
      rcases Nat.eq_zero_or_pos d with e | e
      · exact e
      · have : 2 ^ 1 ≤ 2 ^ d := Nat.pow_le_pow_right (by decide) e
        omega
    subst hd0
    have hm : m = 4503599627370496 * 2 := by omega
    refine Dv.of_abs (m := 4503599627370496) ?_
    rw [a, hm, Nat.zero_add, Nat.pow_succ, Nat.mul_assoc, Nat.mul_comm 2]
  · exact (Dv.of_abs a).mono hge
theorem rnd_cases (v : Int) : rndI v = v ∨ ∃ j : Nat, 9007199254740992 * 2 ^ j ≤ v.natAbs ∧ v.natAbs < 18014398509481984 * 2 ^ j ∧ Dv (j + 1) (rndI v) ∧ (rndI v - v).natAbs ≤ 2 ^ j := by
  obtain ⟨s, hs⟩ := sgv_of v
  generalize hn : v.natAbs = n at *
  have e52 : (2 : Nat) ^ 52 = 4503599627370496 := by decide
  have e53 : (2 : Nat) ^ 53 = 9007199254740992 := by decide
  rcases Nat.lt_or_ge n (2 ^ 53) with h | h
  · left; rw [hs, rndI_sgv, R53_small h]
  right
  have h0 : n ≠ 0 := by omega
  have hl := (Nat.log2_eq_iff h0).1 rfl
  have h53 : 53 ≤ n.log2 := by
    apply Nat.le_of_not_lt
    intro k
    have := (Nat.log2_lt h0).1 k
    omega
  obtain ⟨j, hj⟩ : ∃ j, n.log2 = 53 + j := ⟨n.log2 - 53, by omega⟩
  rw [hj] at hl
  have hn1 := rn_near n (j + 1)
  have hR := R53_at (n := n) (j := j + 1) (by rw [show 52 + (j + 1) = 53 + j by omega]; exact hl.1) (by rw [show 53 + (j + 1) = 53 + j + 1 by omega]; exact hl.2)
  rw [Nat.pow_succ, Nat.pow_add, e53] at hl
  have hD : rndI v = sgv s (R53 n) := by rw [hs, rndI_sgv]
  refine ⟨j, hl.1, by omega, ?_, ?_⟩
  · rw [hD]
    refine Dv.of_abs (m := rn n (j + 1)) ?_
    rw [sgv_abs, hR]
  · have ha : (sgv s (R53 n) - sgv s n).natAbs = ((R53 n : Int) - (n : Int)).natAbs := by
      unfold sgv; cases s
      · rfl
      · simp only [if_true]; omega
    rw [hD, hs, ha]
    rw [← hR, Nat.pow_succ] at hn1
    omega
theorem rnd_fl (v : Int) : Fl (rndI v) := by
  obtain ⟨s, hs⟩ := sgv_of v
  rw [hs, rndI_sgv]
  generalize v.natAbs = n
  by_cases h0 : n < 2 ^ 53
  · rw [R53_small h0]
    exact ⟨n, 0, by rw [sgv_abs, Nat.pow_zero, Nat.mul_one], by have e53 : (2 : Nat) ^ 53 = 9007199254740992 := by decide
                                                                omega⟩
  · have hn0 : n ≠ 0 := by have : 0 < 2 ^ 53 := by decide
                           omega
    have hl := (Nat.log2_eq_iff hn0).1 rfl
    refine ⟨rn n (n.log2 - 52), n.log2 - 52, by rw [sgv_abs]; rfl, ?_⟩
    have hb := (rn_le n (n.log2 - 52)).2
    have h53 : 52 ≤ n.log2 := by
      apply Nat.le_of_not_lt
      intro k
      have := (Nat.log2_lt hn0).1 k
      have : 2 ^ 52 ≤ 2 ^ 53 := by decide
      omega
    have : n / 2 ^ (n.log2 - 52) < 2 ^ 53 := by
      rw [Nat.div_lt_iff_lt_mul (Nat.pow_pos (by decide)), ← Nat.pow_add, show 53 + (n.log2 - 52) = n.log2 + 1 by omega]
      exact hl.2
    have e53 : (2 : Nat) ^ 53 = 9007199254740992 := by decide
    omega
theorem rnd_exact {v : Int} (h : Fl v) : rndI v = v := by
  obtain ⟨m, t, a, b⟩ := h
  obtain ⟨s, hs⟩ := sgv_of v
  rw [hs, rndI_sgv, a]
  have e53 : (2 : Nat) ^ 53 = 9007199254740992 := by decide
  rw [R53_exact (by omega)]
/-- Nothing of 53 bits is nearer. -/
theorem rnd_nearest {f : Int} (hf : Fl f) (v : Int) : (rndI v - v).natAbs ≤ (f - v).natAbs := by
  rcases rnd_cases v with e | ⟨j, h1, h2, h3, h4⟩
  · rw [e, Int.sub_self]; exact Nat.zero_le _
  apply Nat.le_of_not_lt
  intro hlt
  have hp : 0 < 2 ^ j := Nat.pow_pos (by decide)
  have hpp : 2 ^ (j + 1) = 2 * 2 ^ j := by rw [Nat.pow_succ, Nat.mul_comm]
  rcases Nat.lt_or_ge f.natAbs (9007199254740992 * 2 ^ j) with k | k
  · have hD : Dv j f := hf.big (by omega)
    have : f.natAbs + 2 ^ j ≤ 9007199254740992 * 2 ^ j := by
      obtain ⟨m, e⟩ := hD.abs
      rw [e] at k ⊢
      have := Nat.lt_of_mul_lt_mul_right k
      have h5 : (m + 1) * 2 ^ j ≤ 9007199254740992 * 2 ^ j := Nat.mul_le_mul_right _ this
      rw [Nat.add_mul, Nat.one_mul] at h5
      exact h5
    omega
  · have hD : Dv (j + 1) f := hf.big (by rw [hpp]; omega)
    have hd := (hD.sub h3)
    by_cases h0 : f - rndI v = 0
    · have : f = rndI v := by omega
      rw [this] at hlt; omega
    · have := hd.ge h0
      rw [hpp] at this
      omega
theorem rnd_err {x y : Int} (hx : Fl x) : (rndI (x + y) - (x + y)).natAbs ≤ y.natAbs := by
  have := rnd_nearest hx (x + y)
  have e : (x - (x + y)).natAbs = y.natAbs := by omega
  omega
theorem rnd_err' {x y : Int} (hy : Fl y) : (rndI (x + y) - (x + y)).natAbs ≤ x.natAbs := by
  rw [Int.add_comm x y]; exact rnd_err hy
/-- What a multiple of 2^k is rounded to is one too. -/
theorem rnd_dv {k : Nat} {v : Int} (h : Dv k v) : Dv k (rndI v) := by
  rcases rnd_cases v with e | ⟨j, h1, h2, h3, h4⟩
  · rw [e]; exact h
  rcases Nat.lt_or_ge (j + 1) k with c | c
  · have hF : Fl v := Fl.of h (by
      have : 2 ^ (j + 1) ≤ 2 ^ k := Nat.pow_le_pow_right (by decide) (by omega)
      rw [Nat.pow_succ] at this
      omega)
    rw [rnd_exact hF]; exact h
  · exact h3.mono c
/-- What a sum loses is a float. -/
theorem err_fl {x y : Int} (hx : Fl x) (hy : Fl y) : Fl (rndI (x + y) - (x + y)) := by
  obtain ⟨i, a1, a2⟩ := hx.dv
  obtain ⟨j, b1, b2⟩ := hy.dv
  rcases Nat.le_total i j with c | c
  · have hd : Dv i (x + y) := a1.add (b1.mono c)
    exact Fl.of ((rnd_dv hd).sub hd) (Nat.le_trans (rnd_err' hy) a2)
  · have hd : Dv j (x + y) := (a1.mono c).add b1
    exact Fl.of ((rnd_dv hd).sub hd) (Nat.le_trans (rnd_err hx) b2)
/-- The sum, less the greater one, is a float. -/
theorem fast_fl {x y : Int} (hx : Fl x) (hy : Fl y) (h : y.natAbs ≤ x.natAbs) : Fl (rndI (x + y) - x) := by
  rcases rnd_cases (x + y) with e | ⟨j, h1, h2, h3, h4⟩
  · rw [e]; have : x + y - x = y := by omega
    rw [this]; exact hy
  have hp : 0 < 2 ^ j := Nat.pow_pos (by decide)
  have hpp : 2 ^ (j + 1) = 2 * 2 ^ j := by rw [Nat.pow_succ, Nat.mul_comm]
  have hxj : Dv j x := hx.big (by omega)
  have hD : Dv j (rndI (x + y) - x) := (h3.mono (by omega)).sub hxj
  by_cases hs : (x + y).natAbs = x.natAbs + y.natAbs
  · refine Fl.of hD ?_
    obtain ⟨m, em⟩ := hD.abs
    have h5 : m * 2 ^ j < (9007199254740992 + 1) * 2 ^ j := by rw [Nat.add_mul, Nat.one_mul, ← em]; omega
    have := Nat.lt_of_mul_lt_mul_right h5
    rw [em]; exact Nat.mul_le_mul_right _ (by omega)
  · have hxD : Dv (j + 1) x := hx.big (by rw [hpp]; omega)
    by_cases k : 9007199254740992 * 2 ^ j ≤ y.natAbs
    · have hyD : Dv (j + 1) y := hy.big (by rw [hpp]; omega)
      rw [rnd_exact (Fl.of (hxD.add hyD) (by rw [hpp]; omega))]
      have : x + y - x = y := by omega
      rw [this]; exact hy
    · exact Fl.of (h3.sub hxD) (by rw [hpp]; omega)
/-- Dekker: three operations tell what a sum lost, the greater one first. -/
theorem fast_two {x y : Int} (hx : Fl x) (hy : Fl y) (h : y.natAbs ≤ x.natAbs) : rndI (y - rndI (rndI (x + y) - x)) = x + y - rndI (x + y) := by
  rw [rnd_exact (fast_fl hx hy h)]
  have e : y - (rndI (x + y) - x) = -(rndI (x + y) - (x + y)) := by omega
  rw [e, rnd_exact (err_fl hx hy).neg]; omega
/-- Knuth: six operations tell it of any two. -/
theorem two_sum {x y : Int} (hx : Fl x) (hy : Fl y) :
    rndI (rndI (x - rndI (rndI (x + y) - rndI (rndI (x + y) - x))) + rndI (y - rndI (rndI (x + y) - x))) = x + y - rndI (x + y) := by
  have he : Fl (rndI (x + y) - (x + y)) := err_fl hx hy
  have fin : rndI (x + y - rndI (x + y)) = x + y - rndI (x + y) := by
    have e : x + y - rndI (x + y) = -(rndI (x + y) - (x + y)) := by omega
    rw [e, rnd_exact he.neg]
  rcases Nat.lt_or_ge x.natAbs y.natAbs with h | h
  · have e1 := rnd_err' (x := x) hy
    have hs := rnd_fl (x + y)
    have hnear := rnd_nearest (f := if 0 ≤ x + y then (x.natAbs : Int) else -(x.natAbs : Int)) (by
      have hxa : Fl (x.natAbs : Int) := by obtain ⟨m, t, a, b⟩ := hx; exact ⟨m, t, by rw [Int.natAbs_natCast]; exact a, b⟩
      split
      · exact hxa
      · exact hxa.neg) (x + y)
    generalize hs' : rndI (x + y) = s at *
    have h3 := err_fl hy he
    have h1 := fast_fl hy he (by omega)
    have e2 : y + (s - (x + y)) = s - x := by omega
    rw [e2] at h1 h3
    have hw : Fl (s - rndI (s - x)) := by
      rcases Nat.lt_or_ge s.natAbs x.natAbs with c | c
      · have hlt : (x + y).natAbs < x.natAbs := by
          apply Nat.lt_of_not_le
          intro k
          split at hnear <;> omega
        have hF : Fl (x + y) := by
          obtain ⟨i, a1, a2⟩ := hx.dv
          obtain ⟨j, b1, b2⟩ := hy.dv
          rcases Nat.le_total i j with c | c
          · exact Fl.of (a1.add (b1.mono c)) (by omega)
          · exact Fl.of ((a1.mono c).add b1) (by omega)
        have hse : s = x + y := by rw [← hs', rnd_exact hF]
        have : s - x = y := by omega
        rw [this, rnd_exact hy, hse]
        have : x + y - y = x := by omega
        rw [this]; exact hx
      · have := fast_fl hs hx.neg (by rw [Int.natAbs_neg]; exact c)
        rw [← Int.sub_eq_add_neg] at this
        have := this.neg
        rw [Int.neg_sub] at this
        exact this
    generalize rndI (s - x) = v at *
    rw [rnd_exact hw]
    have e3 : x - (s - v) = v - (s - x) := by omega
    have e4 : y - v = -(v - y) := by omega
    rw [e3, rnd_exact h3, e4, rnd_exact h1.neg]
    have e5 : v - (s - x) + -(v - y) = x + y - s := by omega
    rw [e5]; exact fin
  · have h1 := fast_fl hx hy h
    rw [rnd_exact h1]
    generalize rndI (x + y) = s at *
    have e1 : s - (s - x) = x := by omega
    have e2 : x - x = 0 := by omega
    have e3 : y - (s - x) = x + y - s := by omega
    rw [e1, rnd_exact hx, e2, rnd_exact Fl.zero, e3, fin, Int.zero_add, fin]
end Go.Eng
set_option linter.unusedVariables false
namespace Go.Eng
open Go
theorem rnd_scale (v : Int) (k : Nat) : rndI (v * ((2 ^ k : Nat) : Int)) = rndI v * ((2 ^ k : Nat) : Int) := by
  obtain ⟨s, hs⟩ := sgv_of v
  have e : sgv s v.natAbs * ((2 ^ k : Nat) : Int) = sgv s (v.natAbs * 2 ^ k) := by
    unfold sgv
    cases s
    · simp only [Bool.false_eq_true, if_false]; rw [Int.natCast_mul]
    · simp only [if_true]; rw [Int.natCast_mul, Int.neg_mul]
  have e2 : sgv s (R53 v.natAbs) * ((2 ^ k : Nat) : Int) = sgv s (R53 v.natAbs * 2 ^ k) := by
    unfold sgv
    cases s
    · simp only [Bool.false_eq_true, if_false]; rw [Int.natCast_mul]
    · simp only [if_true]; rw [Int.natCast_mul, Int.neg_mul]
  have h1 : rndI v = sgv s (R53 v.natAbs) := by
    have := rndI_sgv s v.natAbs
    rw [← hs] at this; exact this
  have h2 : v * ((2 ^ k : Nat) : Int) = sgv s (v.natAbs * 2 ^ k) := by
    rw [← e, ← hs]
  rw [h2, rndI_sgv, R53_scale, h1, e2]
/-- Dekker's product of two of 53 bits, cut in halves. -/
theorem dek {d : Nat} {V HH LH HL LL : Int} (hV : V = HH + LH + HL + LL) (b1 : 20282409603651670423947251286016 * 2 ^ d ≤ V.natAbs) (b2 : V.natAbs < 81129638414606681695789005144064 * 2 ^ d)
    (d1 : Dv (54 + d) HH) (d2 : Dv (27 + d) LH) (d3 : Dv (27 + d) HL) (d4 : Dv d LL) (n2 : LH.natAbs ≤ 604462909807314587353088 * 2 ^ d) (n3 : HL.natAbs ≤ 604462909807314587353088 * 2 ^ d) (n4 : LL.natAbs ≤ 4503599627370496 * 2 ^ d) :
    rndI (rndI V - HH) = rndI V - HH ∧ rndI (rndI V - HH - LH) = rndI V - HH - LH ∧ rndI (rndI V - HH - LH - HL) = rndI V - HH - LH - HL ∧ rndI (LL - (rndI V - HH - LH - HL)) = V - rndI V ∧ (rndI V - V).natAbs ≤ 4503599627370496 * 2 ^ d := by
  have hD : 0 < 2 ^ d := Nat.pow_pos (by decide)
  have p27 : 2 ^ (27 + d) = 134217728 * 2 ^ d := by rw [Nat.pow_add]
  have p52 : 2 ^ (52 + d) = 4503599627370496 * 2 ^ d := by rw [Nat.pow_add]
  have p54 : 2 ^ (54 + d) = 18014398509481984 * 2 ^ d := by rw [Nat.pow_add]
  obtain ⟨e1, e2⟩ : Dv (52 + d) (rndI V) ∧ (rndI V - V).natAbs ≤ 4503599627370496 * 2 ^ d := by
    rcases rnd_cases V with e | ⟨j, j1, j2, j3, j4⟩
    · refine ⟨(rnd_fl V).big ?_, by rw [e, Int.sub_self]; exact Nat.zero_le _⟩
      rw [e, p52]; omega
    · have hj1 : j ≤ 52 + d := by
        apply Nat.le_of_not_lt
        intro k
        have h5 : 2 ^ (52 + d + 1) ≤ 2 ^ j := Nat.pow_le_pow_right (by decide) k
        rw [Nat.pow_succ, p52] at h5
        omega
      have hj2 : 52 + d ≤ j + 1 := by
        apply Nat.le_of_not_lt
        intro k
        have h5 : 2 ^ (j + 1 + 1) ≤ 2 ^ (52 + d) := Nat.pow_le_pow_right (by decide) (by omega)
        rw [Nat.pow_succ, Nat.pow_succ, p52] at h5
        omega
      refine ⟨j3.mono hj2, Nat.le_trans j4 ?_⟩
      rw [← p52]
      exact Nat.pow_le_pow_right (by decide) hj1
  generalize rndI V = p at *
  have t1 : Dv (52 + d) (p - HH) := e1.sub (d1.mono (by omega))
  have t2 : Dv (27 + d) (p - HH - LH) := (t1.mono (by omega)).sub d2
  have t3 : Dv (27 + d) (p - HH - LH - HL) := t2.sub d3
  have t4 : Dv d (LL - (p - HH - LH - HL)) := d4.sub (t3.mono (by omega))
  have r1 := rnd_exact (Fl.of t1 (by rw [p52]; generalize 2 ^ d = D at *; omega))
  have r2 := rnd_exact (Fl.of t2 (by rw [p27]; generalize 2 ^ d = D at *; omega))
  have r3 := rnd_exact (Fl.of (t3.mono (show d ≤ 27 + d by omega)) (by generalize 2 ^ d = D at *; omega))
  have r4 := rnd_exact (Fl.of t4 (by generalize 2 ^ d = D at *; omega))
  exact ⟨r1, r2, r3, by rw [r4]; omega, e2⟩
theorem velt_fine {X : Int} {m t : Nat} (h1 : 4503599627370496 ≤ m) (hm : m < 9007199254740992) (hX : X.natAbs = m * 2 ^ t) :
    ∃ h : Int, ∃ q l : Nat, q ≤ 67108864 ∧ l ≤ 67108864 ∧ h.natAbs = q * 2 ^ (27 + t) ∧ (X - h).natAbs = l * 2 ^ t ∧
      (rndI (134217729 * X) - X).natAbs ≤ 201326592 * X.natAbs ∧ (X - h).natAbs ≤ X.natAbs ∧ rndI (134217729 * X) - rndI (rndI (134217729 * X) - X) = h ∧ rndI h = h ∧ rndI (X - h) = X - h := by
  have e52 : (2 : Nat) ^ 52 = 4503599627370496 := by decide
  have e53 : (2 : Nat) ^ 53 = 9007199254740992 := by decide
  obtain ⟨h, q, l, q1, l1, a1, a2, a3, a4, a5, a6⟩ := velt_int (X := X) (M := m) (s := 0) (t := t) (by omega) (by omega) (by rw [hX, Nat.pow_zero, Nat.mul_one])
  rw [Nat.pow_zero, Nat.mul_one] at a1 a2
  refine ⟨h, q, l, by omega, by omega, a1, a2, a3, ?_, a4, a5, a6⟩
  rw [a2, hX]
  exact Nat.mul_le_mul_right _ (by omega)
end Go.Eng
namespace Go.Proofs
open Go Go.Eng
/-- A product's value, where it is a whole number. -/
theorem mulP_fV {a b V : Int} (fa : isFin a = true) (fb : isFin b = true) {K : Nat} (hK : K ≤ 2045) {W : Nat} (hW : W = 1074) (hV : fV a * fV b = V * ((2 ^ W : Nat) : Int)) (h : V.natAbs < 3 * 2 ^ (51 + K)) : isFin (mulP a b) = true ∧ fV (mulP a b) = rndI V := by
  obtain ⟨a1, a2⟩ := fin_not fa
  obtain ⟨b1, b2⟩ := fin_not fb
  have e : mulP a b = pat (decide (a < 0) ^^ decide (b < 0)) (rung (fV a * fV b).natAbs (-2148)) := by
    unfold mulP timesP zr fW
    rw [a1, a2, b1, b2, fa, fb]; rfl
  have hW0 : 0 < 2 ^ W := Nat.pow_pos (by decide)
  have key : rung (fV a * fV b).natAbs (-2148) = rung V.natAbs (-1074) := by
    rw [hV, Int.natAbs_mul, Int.natAbs_natCast]
    by_cases h0 : V.natAbs = 0
    · rw [h0, Nat.zero_mul, rung_zero2, rung_zero]
    · rw [rung_scale W (-2148) h0, hW]; rfl
  rw [e, key]
  obtain ⟨c1, c2⟩ := rung_fV (decide (a < 0) ^^ decide (b < 0)) hK h
  refine ⟨c1, ?_⟩
  rw [c2]
  by_cases h0 : V = 0
  · subst h0
    rw [show (0 : Int).natAbs = 0 from rfl, R53_zero]
    have : rndI 0 = 0 := rnd_exact Fl.zero
    rw [this]
    cases (decide (a < 0) ^^ decide (b < 0)) <;> rfl
  · have hne : fV a * fV b ≠ 0 := by
      rw [hV]; exact Int.mul_ne_zero h0 (by omega)
    have ha0 : fV a ≠ 0 := fun e => hne (by rw [e, Int.zero_mul])
    have hb0 : fV b ≠ 0 := fun e => hne (by rw [e, Int.mul_zero])
    have sa : decide (fV a < 0) = decide (a < 0) := signed_neg fun k => ha0 (fV_zero.2 k)
    have sb : decide (fV b < 0) = decide (b < 0) := signed_neg fun k => hb0 (fV_zero.2 k)
    have sv : (decide (a < 0) ^^ decide (b < 0)) = decide (V < 0) := by
      rw [← sa, ← sb]
      have hWi : (0 : Int) < ((2 ^ W : Nat) : Int) := by omega
      by_cases ca : fV a < 0 <;> by_cases cb : fV b < 0
      · have h1 : 0 < fV a * fV b := Int.mul_pos_of_neg_of_neg ca cb
        rw [hV] at h1
        have := Int.pos_of_mul_pos_left h1 hWi
        simp [ca, cb]; omega
      · have h1 : fV a * fV b < 0 := Int.mul_neg_of_neg_of_pos ca (by omega)
        rw [hV] at h1
        have : V < 0 := by
          apply Int.lt_of_not_ge
          intro k
          have := Int.mul_nonneg k (Int.le_of_lt hWi)
          omega
        simp [ca, cb, this]
      · have h1 : fV a * fV b < 0 := Int.mul_neg_of_pos_of_neg (by omega) cb
        rw [hV] at h1
        have : V < 0 := by
          apply Int.lt_of_not_ge
          intro k
          have := Int.mul_nonneg k (Int.le_of_lt hWi)
          omega
        simp [ca, cb, this]
      · have h1 : 0 < fV a * fV b := Int.mul_pos (by omega) (by omega)
        rw [hV] at h1
        have : 0 < V := by
          apply Int.lt_of_not_ge
          intro k
          have := Int.mul_nonpos_of_nonpos_of_nonneg k (Int.le_of_lt hWi)
          omega
        simp [ca, cb]; omega
    rw [sv]; rfl
end Go.Proofs
set_option linter.unusedVariables false
namespace Go.Eng
open Go
theorem Dv.mul {i j : Nat} {x y : Int} (a : Dv i x) (b : Dv j y) : Dv (i + j) (x * y) := by
  obtain ⟨z, rfl⟩ := a; obtain ⟨w, rfl⟩ := b
  exact ⟨z * w, by rw [Nat.pow_add, Int.natCast_mul]; ac_rfl⟩
theorem Dv.split {i W : Nat} {x : Int} (a : Dv (i + W) x) : ∃ z, x = z * ((2 ^ W : Nat) : Int) ∧ Dv i z := by
  obtain ⟨z, rfl⟩ := a
  exact ⟨z * ((2 ^ i : Nat) : Int), by rw [Nat.pow_add, Int.natCast_mul, Int.mul_assoc], ⟨z, rfl⟩⟩
theorem abs_scale {x z : Int} {W : Nat} (h : x = z * ((2 ^ W : Nat) : Int)) : x.natAbs = z.natAbs * 2 ^ W := by
  rw [h, Int.natAbs_mul, Int.natAbs_natCast]
end Go.Eng
namespace Go.Proofs
open Go Go.Eng
/-- One of the four products of the halves. -/
theorem part_law {x y : Int} {d W i j p q P : Nat} (hx : x.natAbs = p * 2 ^ i) (hy : y.natAbs = q * 2 ^ j) (hp : p ≤ 67108864) (hq : q ≤ 67108864) {c : Nat} (hij : i + j = c + d + W) :
    ∃ Z, x * y = Z * ((2 ^ W : Nat) : Int) ∧ Dv (c + d) Z ∧ Z.natAbs ≤ 4503599627370496 * 2 ^ (c + d) ∧ Fl Z := by
  have h := (Dv.of_abs hx).mul (Dv.of_abs hy)
  rw [hij] at h
  obtain ⟨Z, e1, e2⟩ := h.split
  have hn := abs_scale e1
  rw [Int.natAbs_mul, hx, hy] at hn
  have e3 : p * 2 ^ i * (q * 2 ^ j) = p * q * 2 ^ (c + d) * 2 ^ W := by
    rw [Nat.mul_assoc (p * q), ← Nat.pow_add, ← hij, Nat.pow_add]; ac_rfl
  rw [e3] at hn
  have hn := Nat.eq_of_mul_eq_mul_right (Nat.pow_pos (by decide)) hn
  have hpq : p * q ≤ 67108864 * 67108864 := Nat.mul_le_mul hp hq
  have hb : Z.natAbs ≤ 4503599627370496 * 2 ^ (c + d) := by rw [← hn]; exact Nat.mul_le_mul_right _ hpq
  exact ⟨Z, e1, e2, hb, Fl.of e2 (Nat.le_trans hb (Nat.mul_le_mul_right _ (by decide)))⟩
theorem just_of {a b h l V : Int} {W : Nat} (fa : isFin a = true) (fb : isFin b = true) (fh : isFin h = true) (fl : isFin l = true) (hW : W = 1074) (hV : fV a * fV b = V * ((2 ^ W : Nat) : Int)) (hs : fV h + fV l = V) : (isFin a && isFin b && justP 2148 h l (fV a * fV b)) = true := by
  have e : 2148 - 1074 = W := by omega
  unfold justP
  rw [e, fa, fb, fh, fl, hs, hV, decide_eq_true rfl]; rfl
end Go.Proofs
set_option linter.unusedVariables false
namespace Go.Eng
open Go
/-- The error of rounding, against the number. -/
theorem rnd_rel (v : Int) : 9007199254740992 * (rndI v - v).natAbs ≤ v.natAbs := by
  rcases rnd_cases v with e | ⟨j, j1, j2, j3, j4⟩
  · rw [e, Int.sub_self]; exact Nat.zero_le _
  · generalize 2 ^ j = D at *; omega
/-- The rungs up to the greatest float. -/
theorem rung_top (neg : Bool) {n K : Nat} (hK : K ≤ 2045) (h : n ≤ 9007199254740991 * 2 ^ K) : isFin (pat neg (rung n (-1074))) = true ∧ fV (pat neg (rung n (-1074))) = Ieee.signed neg (R53 n) 0 := by
  by_cases h0 : n = 0
  · subst h0
    rw [rung_zero, R53_zero]
    have := fV_pat neg (j := 0) (k := 0) (by omega) (by omega) (by omega)
    rw [Nat.zero_mul, Nat.zero_add] at this
    exact this
  obtain ⟨j, hj⟩ : ∃ j, n.log2 - 52 = j := ⟨_, rfl⟩
  have eL : lastP n (-1074) = -1074 + (j : Int) := by unfold lastP; omega
  have eK : kpt n (-1074) = rn n j := by
    unfold kpt
    rw [eL, show ((-1074 : Int) - (-1074 + (j : Int))).toNat = 0 by omega, Nat.pow_zero, Nat.mul_one, show (-1074 + (j : Int) - (-1074 : Int)).toNat = j by omega]
  obtain ⟨b1, b2⟩ := kpt_lt (-1074) h0
  rw [eK] at b1 b2
  have e52 : (2 : Nat) ^ 52 = 4503599627370496 := by decide
  have e53 : (2 : Nat) ^ 53 = 9007199254740992 := by decide
  rw [e53] at b1
  rw [e52] at b2
  have hjK : j ≤ K := by
    have : n < 2 ^ (53 + K) := by
      have : 2 ^ (53 + K) = 9007199254740992 * 2 ^ K := by rw [Nat.pow_add, e53]
      have : 0 < 2 ^ K := Nat.pow_pos (by decide)
      omega
    have := (Nat.log2_lt h0).2 this
    omega
  have hlt : j * 4503599627370496 + rn n j < 9218868437227405312 := by
    rcases Nat.lt_or_ge j 2045 with h1 | h1
    · omega
    · have hjk : j = K := by omega
      subst hjk
      have hp : 0 < 2 ^ j := Nat.pow_pos (by decide)
      have h3 : n / 2 ^ j ≤ 9007199254740991 := by
        apply Nat.le_of_lt_succ
        rw [Nat.div_lt_iff_lt_mul hp]
        generalize 2 ^ j = D at *; omega
      rcases Nat.lt_or_ge (n / 2 ^ j) 9007199254740991 with h4 | h4
      · have := (rn_le n j).2
        omega
      · have h5 : n = 9007199254740991 * 2 ^ j := by
          apply Nat.le_antisymm h
          have := (Nat.le_div_iff_mul_le hp).1 h4
          exact this
        rw [h5, rn_exact]; omega
  have er : rung n (-1074) = j * 4503599627370496 + rn n j := by
    unfold rung
    rw [eL, eK, show (-1074 + (j : Int) + 1074).toNat = j by omega]
    exact Nat.min_eq_left (by omega)
  rw [er]
  obtain ⟨c1, c2⟩ := fV_pat neg (j := j) (k := rn n j) b1 (fun hne => b2 (by rw [eL]; omega)) hlt
  refine ⟨c1, ?_⟩
  rw [c2, signed_nat, signed_nat]
  unfold R53
  rw [hj, Nat.pow_zero, Nat.mul_one]
theorem addP_top {a b : Int} (fa : isFin a = true) (fb : isFin b = true) {K : Nat} (hK : K ≤ 2045) (h : (fV a + fV b).natAbs ≤ 9007199254740991 * 2 ^ K) : isFin (addP a b) = true ∧ fV (addP a b) = rndI (fV a + fV b) := by
  obtain ⟨a1, a2⟩ := fin_not fa
  obtain ⟨b1, b2⟩ := fin_not fb
  have e : addP a b = pat (if fV a + fV b = 0 then decide (a < 0) && decide (b < 0) else decide (fV a + fV b < 0)) (rung (fV a + fV b).natAbs (-1074)) := by
    unfold addP plusP fW
    rw [a1, a2, b1, b2, fa, fb]; rfl
  rw [e]
  obtain ⟨c1, c2⟩ := rung_top (if fV a + fV b = 0 then decide (a < 0) && decide (b < 0) else decide (fV a + fV b < 0)) hK h
  exact ⟨c1, by rw [c2, sgn_rnd]⟩
theorem bnd2 {x : Int} {m : Nat} (h : 2 * x.natAbs ≤ m) : -(m : Int) ≤ 2 * x ∧ 2 * x ≤ (m : Int) := by omega
theorem nab {x : Int} {m : Nat} (h1 : -(m : Int) ≤ x) (h2 : x ≤ (m : Int)) : x.natAbs ≤ m := by omega
theorem nabl {x : Int} {m : Nat} (h1 : -(m : Int) < x) (h2 : x < (m : Int)) : x.natAbs < m := by omega
/-- The error, where the number is at most 2^53 units. -/
theorem rnd_q {v : Int} {Q : Nat} (h1 : -(9007199254740992 * (Q : Int)) ≤ v) (h2 : v ≤ 9007199254740992 * (Q : Int)) : -(Q : Int) ≤ rndI v - v ∧ rndI v - v ≤ (Q : Int) := by
  have h := rnd_rel v
  generalize rndI v - v = e at *
  omega
end Go.Eng
namespace Go.Proofs
open Go Go.Eng
theorem flt_fV (b : Int) : Fl (fV b) := by
  refine ⟨fM b, (fX b + 1074).toNat, ?_, ?_⟩
  · unfold fV; rw [signed_abs]
  · have := fM_lt b; omega
/-- A float below a power of 2 is at most the float ahead of it. -/
theorem top_fl {a : Int} {K : Nat} (hK : 1 ≤ K) (h : (fV a).natAbs < 4503599627370496 * 2 ^ K) : 2 * (fV a).natAbs ≤ 9007199254740991 * 2 ^ K := by
  have hX : (fV a).natAbs = fM a * 2 ^ (fX a + 1074).toNat := by unfold fV; rw [signed_abs]
  have lA := fM_lt a
  have hn : fM a < 4503599627370496 → (fX a + 1074).toNat = 0 := by
    unfold fM fX
    split
    · intro _; omega
    · intro k; omega
  generalize (fX a + 1074).toNat = T at *
  rw [hX] at h ⊢
  rcases Nat.lt_or_ge T K with c | c
  · obtain ⟨d, rfl⟩ : ∃ d, K = T + 1 + d := ⟨K - T - 1, by omega⟩
    rw [show 2 ^ (T + 1 + d) = 2 ^ T * 2 * 2 ^ d by rw [Nat.pow_add, Nat.pow_succ]]
    have hd : 1 ≤ 2 ^ d := Nat.pow_pos (by decide)
    have h1 : fM a * 2 ^ T ≤ 9007199254740991 * 2 ^ T := Nat.mul_le_mul_right _ (by omega)
    have h2 : 9007199254740991 * (2 ^ T * 2 * 1) ≤ 9007199254740991 * (2 ^ T * 2 * 2 ^ d) := Nat.mul_le_mul_left _ (Nat.mul_le_mul_left _ hd)
    generalize fM a * 2 ^ T = u at *
    generalize 9007199254740991 * (2 ^ T * 2 * 2 ^ d) = w at *
    generalize 2 ^ T = D at *
    omega
  · exfalso
    obtain ⟨d, rfl⟩ : ∃ d, T = K + d := ⟨T - K, by omega⟩
    have hm : 4503599627370496 ≤ fM a := by
      apply Nat.le_of_not_lt
      intro k
      have := hn k
      omega
    rw [Nat.pow_add] at h
    have h1 : 4503599627370496 * (2 ^ K * 2 ^ d) ≤ fM a * (2 ^ K * 2 ^ d) := Nat.mul_le_mul_right _ hm
    have h2 : 4503599627370496 * (2 ^ K * 1) ≤ 4503599627370496 * (2 ^ K * 2 ^ d) := Nat.mul_le_mul_left _ (Nat.mul_le_mul_left _ (Nat.pow_pos (by decide)))
    omega
theorem ok_of {a b h l : Int} (fa : isFin a = true) (fb : isFin b = true) (fh : isFin h = true) (fl : isFin l = true) (hs : fV h + fV l = fV a + fV b) : sumOk h l a b = true := by
  unfold sumOk justP
  rw [fa, fb, fh, fl, hs, show 1074 - 1074 = 0 from rfl, Nat.pow_zero, show ((1 : Nat) : Int) = 1 from rfl, Int.mul_one, decide_eq_true rfl]; rfl
/-- Knuth's sum, up to the greatest float. -/
theorem two_top {a b : Int} (fa : isFin a = true) (fb : isFin b = true) {K : Nat} (hK : K ≤ 2045) (ba : 2 * (fV a).natAbs ≤ 9007199254740991 * 2 ^ K) (bb : 2 * (fV b).natAbs ≤ 9007199254740991 * 2 ^ K) :
    isFin (sumH a b) = true ∧ fV (sumH a b) = rndI (fV a + fV b) ∧ sumOk (sumH a b) (sumL a b) a b = true := by
  have ts := two_sum (flt_fV a) (flt_fV b)
  obtain ⟨a1, a2⟩ := bnd2 ba
  obtain ⟨b1, b2⟩ := bnd2 bb
  clear ba bb
  have e51 : 2 ^ (51 + K) = 2251799813685248 * 2 ^ K := by rw [Nat.pow_add]
  have hQ : 0 < 2 ^ K := Nat.pow_pos (by decide)
  have hT : ∀ {x y : Int}, isFin x = true → isFin y = true → -(9007199254740991 * ((2 ^ K : Nat) : Int)) ≤ fV x + fV y → fV x + fV y ≤ 9007199254740991 * ((2 ^ K : Nat) : Int) → isFin (addP x y) = true ∧ fV (addP x y) = rndI (fV x + fV y) :=
    fun fx fy g1 g2 => addP_top fx fy hK (nab (by rw [Int.natCast_mul]; exact g1) (by rw [Int.natCast_mul]; exact g2))
  have hA : ∀ {x y : Int}, isFin x = true → isFin y = true → -(6755399441055744 * ((2 ^ K : Nat) : Int)) < fV x + fV y → fV x + fV y < 6755399441055744 * ((2 ^ K : Nat) : Int) → isFin (addP x y) = true ∧ fV (addP x y) = rndI (fV x + fV y) :=
    fun fx fy g1 g2 => addP_fV fx fy hK (nabl (by rw [e51]; omega) (by rw [e51]; omega))
  have hS : ∀ {x y : Int}, isFin x = true → isFin y = true → -(6755399441055744 * ((2 ^ K : Nat) : Int)) < fV x - fV y → fV x - fV y < 6755399441055744 * ((2 ^ K : Nat) : Int) → isFin (subP x y) = true ∧ fV (subP x y) = rndI (fV x - fV y) :=
    fun fx fy g1 g2 => subP_fV fx fy hK (nabl (by rw [e51]; omega) (by rw [e51]; omega))
  clear e51
  rw [Int.natCast_mul] at a1 a2 b1 b2
  generalize (2 ^ K : Nat) = Q at *
  have c9 : ((9007199254740991 : Nat) : Int) = 9007199254740991 := rfl
  rw [c9] at a1 a2 b1 b2
  obtain ⟨h1, h2⟩ := hT fa fb (by omega) (by omega)
  obtain ⟨p1, q1⟩ := rnd_q (v := fV a + fV b) (Q := Q) (by omega) (by omega)
  generalize hs : rndI (fV a + fV b) = s at *
  obtain ⟨v1, v2⟩ := hS h1 fa (by rw [h2]; omega) (by rw [h2]; omega)
  rw [h2] at v2
  obtain ⟨p2, q2⟩ := rnd_q (v := s - fV a) (Q := Q) (by omega) (by omega)
  generalize hv : rndI (s - fV a) = v at *
  obtain ⟨w1, w2⟩ := hS h1 v1 (by rw [h2, v2]; omega) (by rw [h2, v2]; omega)
  rw [h2, v2] at w2
  obtain ⟨p3, q3⟩ := rnd_q (v := s - v) (Q := Q) (by omega) (by omega)
  generalize hw : rndI (s - v) = w at *
  obtain ⟨x1, x2⟩ := hS fa w1 (by rw [w2]; omega) (by rw [w2]; omega)
  rw [w2] at x2
  obtain ⟨p4, q4⟩ := rnd_q (v := fV a - w) (Q := Q) (by omega) (by omega)
  generalize hx : rndI (fV a - w) = x at *
  obtain ⟨y1, y2⟩ := hS fb v1 (by rw [v2]; omega) (by rw [v2]; omega)
  rw [v2] at y2
  obtain ⟨p5, q5⟩ := rnd_q (v := fV b - v) (Q := Q) (by omega) (by omega)
  generalize hy : rndI (fV b - v) = y at *
  obtain ⟨z1, z2⟩ := hA x1 y1 (by rw [x2, y2]; omega) (by rw [x2, y2]; omega)
  rw [x2, y2, ts] at z2
  refine ⟨h1, h2, ok_of fa fb h1 z1 ?_⟩
  have e1 : fV (sumH a b) = s := h2
  have e2 : fV (sumL a b) = fV a + fV b - s := z2
  rw [e1, e2]; omega
/-- Dekker's sum of the greater one first, up to the greatest float. -/
theorem fast_top {a b : Int} (fa : isFin a = true) (fb : isFin b = true) {K : Nat} (hK : K ≤ 2045) (ba : 2 * (fV a).natAbs ≤ 9007199254740991 * 2 ^ K) (bb : 2 * (fV b).natAbs ≤ 9007199254740991 * 2 ^ K) (hab : (fV b).natAbs ≤ (fV a).natAbs ∨ fV a = 0) :
    sumOk (sumH a b) (subP b (subP (addP a b) a)) a b = true := by
  have ts : rndI (fV b - rndI (rndI (fV a + fV b) - fV a)) = fV a + fV b - rndI (fV a + fV b) := by
    rcases hab with h | h
    · exact fast_two (flt_fV a) (flt_fV b) h
    · rw [h, Int.zero_add, Int.sub_zero, rnd_exact (flt_fV b), rnd_exact (flt_fV b), Int.sub_self, rnd_exact Fl.zero]
  obtain ⟨a1, a2⟩ := bnd2 ba
  obtain ⟨b1, b2⟩ := bnd2 bb
  clear ba bb hab
  have e51 : 2 ^ (51 + K) = 2251799813685248 * 2 ^ K := by rw [Nat.pow_add]
  have hQ : 0 < 2 ^ K := Nat.pow_pos (by decide)
  have hT : ∀ {x y : Int}, isFin x = true → isFin y = true → -(9007199254740991 * ((2 ^ K : Nat) : Int)) ≤ fV x + fV y → fV x + fV y ≤ 9007199254740991 * ((2 ^ K : Nat) : Int) → isFin (addP x y) = true ∧ fV (addP x y) = rndI (fV x + fV y) :=
    fun fx fy g1 g2 => addP_top fx fy hK (nab (by rw [Int.natCast_mul]; exact g1) (by rw [Int.natCast_mul]; exact g2))
  have hS : ∀ {x y : Int}, isFin x = true → isFin y = true → -(6755399441055744 * ((2 ^ K : Nat) : Int)) < fV x - fV y → fV x - fV y < 6755399441055744 * ((2 ^ K : Nat) : Int) → isFin (subP x y) = true ∧ fV (subP x y) = rndI (fV x - fV y) :=
    fun fx fy g1 g2 => subP_fV fx fy hK (nabl (by rw [e51]; omega) (by rw [e51]; omega))
  clear e51
  rw [Int.natCast_mul] at a1 a2 b1 b2
  generalize (2 ^ K : Nat) = Q at *
  have c9 : ((9007199254740991 : Nat) : Int) = 9007199254740991 := rfl
  rw [c9] at a1 a2 b1 b2
  obtain ⟨h1, h2⟩ := hT fa fb (by omega) (by omega)
  obtain ⟨p1, q1⟩ := rnd_q (v := fV a + fV b) (Q := Q) (by omega) (by omega)
  generalize hs : rndI (fV a + fV b) = s at *
  obtain ⟨v1, v2⟩ := hS h1 fa (by rw [h2]; omega) (by rw [h2]; omega)
  rw [h2] at v2
  obtain ⟨p2, q2⟩ := rnd_q (v := s - fV a) (Q := Q) (by omega) (by omega)
  generalize hv : rndI (s - fV a) = v at *
  obtain ⟨y1, y2⟩ := hS fb v1 (by rw [v2]; omega) (by rw [v2]; omega)
  rw [v2, ts] at y2
  refine ok_of fa fb h1 y1 ?_
  have e1 : fV (sumH a b) = s := h2
  rw [e1, y2]; omega
end Go.Proofs
set_option linter.unusedVariables false
namespace Go.Eng
open Go
/-- A float's digits brought to 53 bits. -/
theorem norm53 {m : Nat} (h0 : m ≠ 0) (hm : m < 9007199254740992) : ∃ s, 4503599627370496 ≤ m * 2 ^ s ∧ m * 2 ^ s < 9007199254740992 ∧ (4503599627370496 ≤ m → s = 0) := by
  have h := (Nat.log2_eq_iff h0).1 rfl
  have hl : m.log2 ≤ 52 := by
    have : m.log2 < 53 := (Nat.log2_lt h0).2 (by have : (2 : Nat) ^ 53 = 9007199254740992 := by decide
                                                 omega)
    omega
  refine ⟨52 - m.log2, ?_, ?_, fun k => ?_⟩
  · have a2 : 2 ^ m.log2 * 2 ^ (52 - m.log2) ≤ m * 2 ^ (52 - m.log2) := Nat.mul_le_mul_right _ h.1
    rw [← Nat.pow_add, show m.log2 + (52 - m.log2) = 52 by omega] at a2
    exact a2
  · have a1 : m * 2 ^ (52 - m.log2) < 2 ^ (m.log2 + 1) * 2 ^ (52 - m.log2) := Nat.mul_lt_mul_of_pos_right h.2 (Nat.pow_pos (by decide))
    rw [← Nat.pow_add, show m.log2 + 1 + (52 - m.log2) = 53 by omega] at a1
    exact a1
  · have : 52 ≤ m.log2 := (Nat.le_log2 h0).2 (by have : (2 : Nat) ^ 52 = 4503599627370496 := by decide
                                                 omega)
    omega
theorem unsc {F : Nat} (hF : 0 < F) {x y : Int} (h : x * (F : Int) = y * (F : Int)) : x = y := Int.eq_of_mul_eq_mul_right (by omega) h
theorem unle {F c x y : Nat} (hF : 0 < F) (h : x * F * c ≤ y * F) : x * c ≤ y := by
  apply Nat.le_of_mul_le_mul_right _ hF
  rw [Nat.mul_right_comm]; exact h
theorem abs_mulF (x : Int) (F : Nat) : (x * (F : Int)).natAbs = x.natAbs * F := by rw [Int.natAbs_mul, Int.natAbs_natCast]
end Go.Eng
namespace Go.Proofs
open Go Go.Eng
/-- The cut of any float, its digits brought to 53 bits. -/
theorem split_any {a : Int} (fa : isFin a = true) {K s : Nat} (hK : K ≤ 2045) (hb : (fV a).natAbs < 2 ^ (25 + K)) (m1 : 4503599627370496 ≤ fM a * 2 ^ s) (m2 : fM a * 2 ^ s < 9007199254740992) :
    isFin (splH a) = true ∧ isFin (splL a) = true ∧ fV (splH a) + fV (splL a) = fV a ∧
      ∃ q l : Nat, q ≤ 67108864 ∧ l ≤ 67108864 ∧ (fV (splH a) * ((2 ^ s : Nat) : Int)).natAbs = q * 2 ^ (27 + (fX a + 1074).toNat) ∧ (fV (splL a) * ((2 ^ s : Nat) : Int)).natAbs = l * 2 ^ (fX a + 1074).toNat := by
  have hX : (fV a).natAbs = fM a * 2 ^ (fX a + 1074).toNat := by unfold fV; rw [signed_abs]
  have hF : 0 < 2 ^ s := Nat.pow_pos (by decide)
  obtain ⟨h, q, l, q1, l1, a1, a2, a3, a4, a5, a6, a7⟩ := velt_fine (X := fV a * ((2 ^ s : Nat) : Int)) (t := (fX a + 1074).toNat) m1 m2 (by rw [abs_mulF, hX]; ac_rfl)
  have e1 : 134217729 * (fV a * ((2 ^ s : Nat) : Int)) = 134217729 * fV a * ((2 ^ s : Nat) : Int) := by rw [Int.mul_assoc]
  rw [e1, rnd_scale, ← Int.sub_mul] at a3 a5
  rw [rnd_scale, ← Int.sub_mul] at a5
  rw [← a5] at a1 a2 a4 a6 a7
  rw [← Int.sub_mul] at a2 a4 a7
  rw [rnd_scale] at a6 a7
  replace a6 := unsc hF a6
  replace a7 := unsc hF a7
  have b3 : (rndI (134217729 * fV a) - fV a).natAbs ≤ 201326592 * (fV a).natAbs := by
    rw [abs_mulF, abs_mulF, ← Nat.mul_assoc] at a3
    exact Nat.le_of_mul_le_mul_right a3 hF
  have b4 : (fV a - (rndI (134217729 * fV a) - rndI (rndI (134217729 * fV a) - fV a))).natAbs ≤ (fV a).natAbs := by
    rw [abs_mulF, abs_mulF] at a4
    exact Nat.le_of_mul_le_mul_right a4 hF
  clear a3 a4 a5
  generalize hx : (fV a).natAbs = x at *
  have e26 : 2 ^ (51 + K) = 67108864 * 2 ^ (25 + K) := by rw [show 51 + K = 26 + (25 + K) by omega, Nat.pow_add]
  obtain ⟨c1, c2⟩ := mulFAC_fV fa hK (by rw [hx]; omega)
  obtain ⟨d1, d2⟩ := subP_fV c1 fa hK (by rw [c2]; omega)
  have hh : fV (mulP FAC a) - fV (subP (mulP FAC a) a) = rndI (134217729 * fV a) - rndI (rndI (134217729 * fV a) - fV a) := by rw [c2, d2, c2]
  generalize rndI (134217729 * fV a) - rndI (rndI (134217729 * fV a) - fV a) = g at *
  obtain ⟨g1, g2⟩ := subP_fV c1 d1 hK (by rw [hh]; omega)
  rw [hh, a6] at g2
  obtain ⟨k1, k2⟩ := subP_fV fa g1 hK (by rw [g2]; omega)
  rw [g2, a7] at k2
  have eH : fV (splH a) = g := g2
  have eL : fV (splL a) = fV a - g := k2
  exact ⟨g1, k1, by rw [eH, eL]; omega, q, l, q1, l1, by rw [eH]; exact a1, by rw [eL]; exact a2⟩
/-- One of the four products of the halves, brought to 53 bits. -/
theorem part_any {x y : Int} {d W i j p q s s' : Nat} (hx : (x * ((2 ^ s : Nat) : Int)).natAbs = p * 2 ^ i) (hy : (y * ((2 ^ s' : Nat) : Int)).natAbs = q * 2 ^ j) (hp : p ≤ 67108864) (hq : q ≤ 67108864) {c : Nat} (hij : i + j = c + d + W)
    (hs : (s = 0 ∧ s' = 0) ∨ (s' = 0 ∧ d + W ≤ j) ∨ (s = 0 ∧ d + W ≤ i)) :
    ∃ Z, x * y = Z * ((2 ^ W : Nat) : Int) ∧ rndI Z = Z ∧ Dv (c + d) (Z * ((2 ^ (s + s') : Nat) : Int)) ∧ (Z * ((2 ^ (s + s') : Nat) : Int)).natAbs ≤ 4503599627370496 * 2 ^ (c + d) := by
  have hd : Dv (d + W) (x * y) := by
    have D0 : ∀ z : Int, Dv 0 z := fun z => ⟨z, by rw [Nat.pow_zero]; exact (Int.mul_one z).symm⟩
    rcases hs with ⟨rfl, rfl⟩ | ⟨rfl, h⟩ | ⟨rfl, h⟩
    · rw [Nat.pow_zero, show ((1 : Nat) : Int) = 1 from rfl, Int.mul_one] at hx hy
      exact ((Dv.of_abs hx).mul (Dv.of_abs hy)).mono (by omega)
    · rw [Nat.pow_zero, show ((1 : Nat) : Int) = 1 from rfl, Int.mul_one] at hy
      exact ((D0 x).mul (Dv.of_abs hy)).mono (by omega)
    · rw [Nat.pow_zero, show ((1 : Nat) : Int) = 1 from rfl, Int.mul_one] at hx
      exact ((Dv.of_abs hx).mul (D0 y)).mono (by omega)
  obtain ⟨Z, z1, z2⟩ := hd.split
  obtain ⟨Y, y1, y2, y3, y4⟩ := part_law (P := 0) hx hy hp hq hij
  have hW : 0 < 2 ^ W := Nat.pow_pos (by decide)
  have e : Y = Z * ((2 ^ (s + s') : Nat) : Int) := by
    apply unsc hW
    rw [← y1, Nat.pow_add, Int.natCast_mul]
    have : x * ((2 ^ s : Nat) : Int) * (y * ((2 ^ s' : Nat) : Int)) = x * y * (((2 ^ s : Nat) : Int) * ((2 ^ s' : Nat) : Int)) := by ac_rfl
    rw [this, z1]; ac_rfl
  subst e
  refine ⟨Z, z1, ?_, y2, y3⟩
  have := rnd_exact y4
  rw [rnd_scale] at this
  exact unsc (Nat.pow_pos (by decide)) this
end Go.Proofs
set_option linter.unusedVariables false
namespace Go.Eng
open Go
theorem rel_int {x v : Int} {F D c P : Nat} (hF : 0 < F) (h1 : x.natAbs * F ≤ 604462909807314587353088 * D) (h2 : 20282409603651670423947251286016 * D ≤ v.natAbs * F) (hv : v.natAbs ≤ 5 * P) : -(P : Int) ≤ 1048576 * x ∧ 1048576 * x ≤ (P : Int) := by
  have h : x.natAbs * F * 33554432 ≤ v.natAbs * F := by
    generalize x.natAbs * F = u at *
    generalize v.natAbs * F = w at *
    omega
  have := unle hF h
  omega
theorem rel_rnd {v : Int} {P : Nat} (hv : v.natAbs ≤ 5 * P) : -(P : Int) ≤ 1048576 * (rndI v - v) ∧ 1048576 * (rndI v - v) ≤ (P : Int) := by
  have h := rnd_rel v
  generalize rndI v - v = e at *
  omega
theorem abs_int {v : Int} {m : Nat} (h : v.natAbs ≤ m) : -(m : Int) ≤ v ∧ v ≤ (m : Int) := by omega
end Go.Eng
namespace Go.Proofs
open Go Go.Eng
/-- TwoProd is exact: any two floats whose product is a whole number of least units. -/
theorem prod_any {a b V : Int} (fa : isFin a = true) (fb : isFin b = true) {s s' : Nat} (ma1 : 4503599627370496 ≤ fM a * 2 ^ s) (ma2 : fM a * 2 ^ s < 9007199254740992) (mb1 : 4503599627370496 ≤ fM b * 2 ^ s') (mb2 : fM b * 2 ^ s' < 9007199254740992)
    {W d : Nat} (hW : W = 1074) (hT : (fX a + 1074).toNat + (fX b + 1074).toNat = d + W) (hs0 : s = 0 ∨ (fX a + 1074).toNat = 0) (hs1 : s' = 0 ∨ (fX b + 1074).toNat = 0) {K : Nat} (hK : K ≤ 2045)
    (ba : (fV a).natAbs < 2 ^ (25 + K)) (bb : (fV b).natAbs < 2 ^ (25 + K)) (hV : fV a * fV b = V * ((2 ^ W : Nat) : Int)) (bV : V.natAbs ≤ 5 * 2 ^ (50 + K)) :
    isFin (prdH a b) = true ∧ fV (prdH a b) = rndI V ∧ prdOk a b = true := by
  have hA : (fV a).natAbs = fM a * 2 ^ (fX a + 1074).toNat := by unfold fV; rw [signed_abs]
  have hB : (fV b).natAbs = fM b * 2 ^ (fX b + 1074).toNat := by unfold fV; rw [signed_abs]
  obtain ⟨sa1, sa2, sa3, q, l, q1, l1, sa4, sa5⟩ := split_any fa hK ba ma1 ma2
  obtain ⟨sb1, sb2, sb3, q', l', q2, l2, sb4, sb5⟩ := split_any fb hK bb mb1 mb2
  generalize (fX a + 1074).toNat = i at *
  generalize (fX b + 1074).toNat = j at *
  have hsc : ∀ I J, i ≤ I → j ≤ J → (s = 0 ∧ s' = 0) ∨ (s' = 0 ∧ d + W ≤ J) ∨ (s = 0 ∧ d + W ≤ I) := by
    intro I J hI hJ
    omega
  obtain ⟨HH, u1, u2, u3, u4⟩ := part_any (c := 54) (d := d) (W := W) sa4 sb4 q1 q2 (by omega) (hsc _ _ (by omega) (by omega))
  obtain ⟨LH, v1, v2, v3, v4⟩ := part_any (c := 27) (d := d) (W := W) sa5 sb4 l1 q2 (by omega) (hsc _ _ (by omega) (by omega))
  obtain ⟨HL, w1, w2, w3, w4⟩ := part_any (c := 27) (d := d) (W := W) sa4 sb5 q1 l2 (by omega) (hsc _ _ (by omega) (by omega))
  obtain ⟨LL, x1, x2, x3, x4⟩ := part_any (c := 0) (d := d) (W := W) sa5 sb5 l1 l2 (by omega) (hsc _ _ (by omega) (by omega))
  clear hsc hs0 hs1
  rw [Nat.zero_add] at x3 x4
  have hW0 : ((2 ^ W : Nat) : Int) ≠ 0 := by have : 0 < 2 ^ W := Nat.pow_pos (by decide); omega
  have hsum : V = HH + LH + HL + LL := by
    apply Int.eq_of_mul_eq_mul_right hW0
    rw [← hV, Int.add_mul, Int.add_mul, Int.add_mul, ← u1, ← v1, ← w1, ← x1, ← sa3, ← sb3, Int.add_mul, Int.mul_add, Int.mul_add]
    omega
  have hF : 0 < 2 ^ (s + s') := Nat.pow_pos (by decide)
  have hab := abs_scale hV
  rw [Int.natAbs_mul, hA, hB] at hab
  have e3 : fM a * 2 ^ i * (fM b * 2 ^ j) = fM a * fM b * 2 ^ d * 2 ^ W := by
    rw [Nat.mul_assoc (fM a * fM b), ← Nat.pow_add, ← hT, Nat.pow_add]; ac_rfl
  rw [e3] at hab
  have hab := Nat.eq_of_mul_eq_mul_right (Nat.pow_pos (by decide)) hab
  have hVF : (V * ((2 ^ (s + s') : Nat) : Int)).natAbs = (fM a * 2 ^ s) * (fM b * 2 ^ s') * 2 ^ d := by
    rw [abs_mulF, ← hab, Nat.pow_add]; ac_rfl
  have g1 : 4503599627370496 * 4503599627370496 ≤ fM a * 2 ^ s * (fM b * 2 ^ s') := Nat.mul_le_mul ma1 mb1
  have g2 : fM a * 2 ^ s * (fM b * 2 ^ s') < 9007199254740992 * 9007199254740992 := Nat.mul_lt_mul_of_lt_of_le ma2 (Nat.le_of_lt mb2) (by decide)
  have b1 : 20282409603651670423947251286016 * 2 ^ d ≤ (V * ((2 ^ (s + s') : Nat) : Int)).natAbs := by rw [hVF]; exact Nat.mul_le_mul_right _ g1
  have b2 : (V * ((2 ^ (s + s') : Nat) : Int)).natAbs < 81129638414606681695789005144064 * 2 ^ d := by rw [hVF]; exact Nat.mul_lt_mul_of_pos_right g2 (Nat.pow_pos (by decide))
  clear hVF g1 g2 hab e3 hA hB
  have p27 : 2 ^ (27 + d) = 134217728 * 2 ^ d := by rw [Nat.pow_add]
  rw [p27] at v4 w4
  have hsF : V * ((2 ^ (s + s') : Nat) : Int) = HH * ((2 ^ (s + s') : Nat) : Int) + LH * ((2 ^ (s + s') : Nat) : Int) + HL * ((2 ^ (s + s') : Nat) : Int) + LL * ((2 ^ (s + s') : Nat) : Int) := by
    rw [hsum, Int.add_mul, Int.add_mul, Int.add_mul]
  obtain ⟨r1, r2, r3, r4, _⟩ := dek hsF b1 b2 u3 v3 w3 x3 (by omega) (by omega) x4
  rw [rnd_scale, ← Int.sub_mul, rnd_scale] at r1
  replace r1 := unsc hF r1
  rw [rnd_scale, ← Int.sub_mul, ← Int.sub_mul, rnd_scale] at r2
  replace r2 := unsc hF r2
  rw [rnd_scale, ← Int.sub_mul, ← Int.sub_mul, ← Int.sub_mul, rnd_scale] at r3
  replace r3 := unsc hF r3
  rw [rnd_scale, ← Int.sub_mul, ← Int.sub_mul, ← Int.sub_mul, ← Int.sub_mul, rnd_scale, ← Int.sub_mul] at r4
  replace r4 := unsc hF r4
  rw [abs_mulF] at b1 v4 w4 x4
  have e51 : 2 ^ (51 + K) = 2 * 2 ^ (50 + K) := by rw [show 51 + K = 1 + (50 + K) by omega, Nat.pow_add]
  have hM : ∀ {x y Z : Int}, isFin x = true → isFin y = true → fV x * fV y = Z * ((2 ^ W : Nat) : Int) → -(6 * ((2 ^ (50 + K) : Nat) : Int)) < Z → Z < 6 * ((2 ^ (50 + K) : Nat) : Int) → isFin (mulP x y) = true ∧ fV (mulP x y) = rndI Z :=
    fun fx fy hz g1 g2 => mulP_fV fx fy hK hW hz (nabl (by rw [e51]; omega) (by rw [e51]; omega))
  have hS : ∀ {x y : Int}, isFin x = true → isFin y = true → -(6 * ((2 ^ (50 + K) : Nat) : Int)) < fV x - fV y → fV x - fV y < 6 * ((2 ^ (50 + K) : Nat) : Int) → isFin (subP x y) = true ∧ fV (subP x y) = rndI (fV x - fV y) :=
    fun fx fy g1 g2 => subP_fV fx fy hK (nabl (by rw [e51]; omega) (by rw [e51]; omega))
  clear e51
  have hP : 0 < 2 ^ (50 + K) := Nat.pow_pos (by decide)
  generalize (2 ^ (50 + K) : Nat) = P at *
  obtain ⟨i1, i2⟩ := rel_int (c := 0) (P := P) hF (show LH.natAbs * 2 ^ (s + s') ≤ 604462909807314587353088 * 2 ^ d by omega) b1 bV
  obtain ⟨i3, i4⟩ := rel_int (c := 0) (P := P) hF (show HL.natAbs * 2 ^ (s + s') ≤ 604462909807314587353088 * 2 ^ d by omega) b1 bV
  obtain ⟨i5, i6⟩ := rel_int (c := 0) (P := P) hF (show LL.natAbs * 2 ^ (s + s') ≤ 604462909807314587353088 * 2 ^ d by omega) b1 bV
  obtain ⟨i7, i8⟩ := rel_rnd bV
  obtain ⟨i9, i10⟩ := abs_int bV
  clear b1 b2 v4 w4 x4 u4 bV u3 v3 w3 x3 hsF ba bb sa4 sa5 sb4 sb5 p27
  rw [show ((5 * P : Nat) : Int) = 5 * (P : Int) from Int.natCast_mul 5 P] at i9 i10
  obtain ⟨m1, m1v⟩ := hM fa fb hV (by omega) (by omega)
  obtain ⟨m2, m2v⟩ := hM sa1 sb1 u1 (by omega) (by omega)
  obtain ⟨m3, m3v⟩ := hM sa2 sb1 v1 (by omega) (by omega)
  obtain ⟨m4, m4v⟩ := hM sa1 sb2 w1 (by omega) (by omega)
  obtain ⟨m5, m5v⟩ := hM sa2 sb2 x1 (by omega) (by omega)
  rw [u2] at m2v
  rw [v2] at m3v
  rw [w2] at m4v
  rw [x2] at m5v
  generalize hp : rndI V = p at *
  obtain ⟨s1, s1v⟩ := hS m1 m2 (by rw [m1v, m2v]; omega) (by rw [m1v, m2v]; omega)
  rw [m1v, m2v, r1] at s1v
  obtain ⟨s2, s2v⟩ := hS s1 m3 (by rw [s1v, m3v]; omega) (by rw [s1v, m3v]; omega)
  rw [s1v, m3v, r2] at s2v
  obtain ⟨s3, s3v⟩ := hS s2 m4 (by rw [s2v, m4v]; omega) (by rw [s2v, m4v]; omega)
  rw [s2v, m4v, r3] at s3v
  obtain ⟨s4, s4v⟩ := hS m5 s3 (by rw [m5v, s3v]; omega) (by rw [m5v, s3v]; omega)
  rw [m5v, s3v, r4] at s4v
  have h1 : fV (prdH a b) = p := m1v
  have h2 : fV (prdL a b) = V - p := s4v
  exact ⟨m1, h1, just_of fa fb m1 s4 hW hV (show fV (prdH a b) + fV (prdL a b) = V by rw [h1, h2]; omega)⟩
end Go.Proofs
