import Derived.Test.YtkfafikejdhccaaGreatDoorA35
import Derived.Test.YtkfafikejdhccaaGreatDoorA39
import Derived.Test.YtkfafikejdhccaaGreatDoorA37
/- Here stand lemmas: compressing keeps the value. -/
set_option linter.unusedVariables false
set_option linter.unusedVariables false
namespace Go.Eng
open Go
/-- Halfway, the even one is taken. -/
theorem rn_tie (n d : Nat) (h : 2 * (rn n d * 2 ^ d) = 2 * n + 2 ^ d ∨ 2 * n = 2 * (rn n d * 2 ^ d) + 2 ^ d) : rn n d % 2 = 0 := by
  have hd := Nat.div_add_mod n (2 ^ d)
  have hm := Nat.mod_lt n (Nat.pow_pos (by decide : 0 < 2) : 0 < 2 ^ d)
  unfold rn at h ⊢
  rw [Nat.mul_comm] at hd
  generalize n % 2 ^ d = r at *
  generalize n / 2 ^ d = q at *
  generalize hp : 2 ^ d = p at *
  by_cases c : p < 2 * r ∨ p = 2 * r ∧ q % 2 = 1
  · rw [if_pos c] at h ⊢
    rw [Nat.add_mul, Nat.one_mul] at h
    omega
  · rw [if_neg c] at h ⊢
    rw [Nat.add_zero] at h ⊢
    omega
theorem rnd_tie (v : Int) : rndI v = v ∨ ∃ j : Nat, 9007199254740992 * 2 ^ j ≤ v.natAbs ∧ v.natAbs < 18014398509481984 * 2 ^ j ∧ Dv (j + 1) (rndI v) ∧ (rndI v - v).natAbs ≤ 2 ^ j ∧ ((rndI v - v).natAbs = 2 ^ j → Dv (j + 2) (rndI v)) := by
  obtain ⟨s, hs⟩ := sgv_of v
  generalize hn : v.natAbs = n at *
  have e53 : (2 : Nat) ^ 53 = 9007199254740992 := by decide
  rcases Nat.lt_or_ge n (2 ^ 53) with h | h
  · left; rw [hs, rndI_sgv, R53_small h]
  right
  have h0 : n ≠ 0 := by omega
  have hl := (Nat.log2_eq_iff h0).1 rfl
  have h53 : 53 ≤ n.log2 := by
    apply Nat.le_of_not_lt
    intro k
    have := (Nat.log2_lt h0).1 k
    omega
  obtain ⟨j, hj⟩ : ∃ j, n.log2 = 53 + j := ⟨n.log2 - 53, by omega⟩
  rw [hj] at hl
  have hn1 := rn_near n (j + 1)
  have hte := rn_tie n (j + 1)
  have hR := R53_at (n := n) (j := j + 1) (by rw [show 52 + (j + 1) = 53 + j by omega]; exact hl.1) (by rw [show 53 + (j + 1) = 53 + j + 1 by omega]; exact hl.2)
  rw [Nat.pow_succ, Nat.pow_add, e53] at hl
  have hD : rndI v = sgv s (R53 n) := by rw [hs, rndI_sgv]
  have ha : (sgv s (R53 n) - sgv s n).natAbs = ((R53 n : Int) - (n : Int)).natAbs := by
    unfold sgv; cases s
    · rfl
    · simp only [if_true]; omega
  have ha2 : (rndI v - v).natAbs = ((R53 n : Int) - (n : Int)).natAbs := by rw [hD, hs, ha]
  have hpp : 2 ^ (j + 1) = 2 * 2 ^ j := by rw [Nat.pow_succ, Nat.mul_comm]
  rw [← hR] at hn1 hte
  refine ⟨j, hl.1, by omega, ?_, ?_, fun he => ?_⟩
  · rw [hD]
    refine Dv.of_abs (m := rn n (j + 1)) ?_
    rw [sgv_abs, hR]
  · rw [ha2]; omega
  · rw [ha2] at he
    have ev := hte (by omega)
    rw [hD]
    refine Dv.of_abs (m := rn n (j + 1) / 2) ?_
    rw [sgv_abs, hR]
    have e2 : rn n (j + 1) = rn n (j + 1) / 2 * 2 := by omega
    rw [show j + 2 = (j + 1) + 1 by omega, Nat.pow_succ (m := j + 1), Nat.mul_comm (2 ^ (j + 1)) 2, ← Nat.mul_assoc, ← e2]
/-- Rounding goes past no power of 2. -/
theorem rnd_le {v : Int} {i : Nat} (h : v.natAbs ≤ 2 ^ i) : (rndI v).natAbs ≤ 2 ^ i := by
  rcases rnd_cases v with e | ⟨j, h1, h2, h3, h4⟩
  · rw [e]; exact h
  apply Nat.le_of_not_lt
  intro hlt
  obtain ⟨m, em⟩ := h3.abs
  have hp : 0 < 2 ^ j := Nat.pow_pos (by decide)
  have hji : j + 1 ≤ i := by
    apply Nat.le_of_not_lt
    intro k
    have : 2 ^ i ≤ 2 ^ j := Nat.pow_le_pow_right (by decide) (by omega)
    omega
  obtain ⟨d, rfl⟩ : ∃ d, i = d + (j + 1) := ⟨i - (j + 1), by omega⟩
  rw [Nat.pow_add] at h hlt
  rw [em] at hlt
  have hmd : 2 ^ d + 1 ≤ m := Nat.lt_of_mul_lt_mul_right hlt
  have h5 : (2 ^ d + 1) * 2 ^ (j + 1) ≤ m * 2 ^ (j + 1) := Nat.mul_le_mul_right _ hmd
  rw [Nat.add_mul, Nat.one_mul, ← em] at h5
  rw [Nat.pow_succ] at *
  generalize 2 ^ d * (2 ^ j * 2) = X at *
  omega
/-- Compressing, downward. -/
def downZ (q : Int) (acc : List Int) : List Int → Int × List Int
  | [] => (q, acc)
  | y :: r => if q + y - rndI (q + y) = 0 then downZ (rndI (q + y)) acc r else downZ (q + y - rndI (q + y)) (rndI (q + y) :: acc) r
/-- Floats far above one another. -/
def chZ (b : Nat) : List Int → Prop
  | [] => True
  | a :: r => ∃ i, b ≤ 2 ^ i ∧ Dv (i + 1) a ∧ 2251799813685248 * 2 ^ i ≤ a.natAbs ∧ chZ a.natAbs r
theorem chZ.mono {a b : Nat} {xs : List Int} (h : chZ b xs) (hab : a ≤ b) : chZ a xs := by
  cases xs with
  | nil => trivial
  | cons v r => obtain ⟨i, h1, h2⟩ := h; exact ⟨i, by omega, h2⟩
theorem chZ.vZ {xs : List Int} : ∀ {b : Nat}, chZ b xs → vZ b xs := by
  induction xs with
  | nil => intro b _; trivial
  | cons v r ih =>
    intro b h
    obtain ⟨i, h1, h2, h3, h4⟩ := h
    have hp : 0 < 2 ^ i := Nat.pow_pos (by decide)
    exact ⟨by omega, ⟨i + 1, by rw [Nat.pow_succ]; omega, h2⟩, ih h4⟩
/-- A descending expansion, below what is at hand. -/
def dsZ (q : Int) : List Int → Prop
  | [] => True
  | y :: r => (∃ k, y.natAbs < 2 ^ k ∧ Dv k q) ∧ y ≠ 0 ∧ Fl y ∧ dsZ y r
theorem dsZ.low {q y : Int} {r : List Int} (h : dsZ y r) {k : Nat} (hy : y ≠ 0) (hk : Dv k q) (hy2 : y.natAbs < 2 ^ k) : ∀ {s : Int}, (∀ j, Dv j q → Dv j y → Dv j s) → dsZ s r := by
  intro s hs
  cases r with
  | nil => trivial
  | cons z r =>
    obtain ⟨⟨j, j1, j2⟩, h2⟩ := h
    refine ⟨⟨j, j1, hs j (hk.mono ?_) j2⟩, h2⟩
    have := j2.ge hy
    exact Nat.le_of_lt ((Nat.pow_lt_pow_iff_right (by decide)).1 (Nat.lt_of_le_of_lt this hy2))
/-- What is below the greater ones. -/
def topZ (q : Int) : List Int → Prop
  | [] => True
  | a :: r => ∃ i, q.natAbs < 2 ^ i ∧ Dv (i + 1) a ∧ 2251799813685248 * 2 ^ i ≤ a.natAbs ∧ chZ a.natAbs r
theorem topZ.ch {q : Int} {acc : List Int} (h : topZ q acc) : chZ q.natAbs acc := by
  cases acc with
  | nil => trivial
  | cons a r => obtain ⟨i, h1, h2⟩ := h; exact ⟨i, Nat.le_of_lt h1, h2⟩
theorem topZ.step {q y : Int} {acc : List Int} (h : topZ q acc) (hq : q ≠ 0) {k : Nat} (hk : Dv k q) (hy : y.natAbs < 2 ^ k) :
    topZ (q + y) acc ∧ chZ (rndI (q + y)).natAbs acc := by
  cases acc with
  | nil => exact ⟨trivial, trivial⟩
  | cons a r =>
    obtain ⟨i, h1, h2, h3, h4⟩ := h
    have hlt : (q + y).natAbs < 2 ^ i := by
      obtain ⟨m, em⟩ := hk.abs
      have hm : m ≠ 0 := by intro e; rw [e, Nat.zero_mul] at em; omega
      have hki : k ≤ i := by
        have := hk.ge hq
        exact Nat.le_of_lt ((Nat.pow_lt_pow_iff_right (by decide)).1 (Nat.lt_of_le_of_lt this h1))
      obtain ⟨d, rfl⟩ : ∃ d, i = d + k := ⟨i - k, by omega⟩
      rw [Nat.pow_add] at h1 ⊢
      rw [em] at h1
      have hmd := Nat.lt_of_mul_lt_mul_right h1
      have h5 : (m + 1) * 2 ^ k ≤ 2 ^ d * 2 ^ k := Nat.mul_le_mul_right _ hmd
      rw [Nat.add_mul, Nat.one_mul, ← em] at h5
      have := Int.natAbs_add_le q y
      omega
    exact ⟨⟨i, hlt, h2, h3, h4⟩, i, rnd_le (Nat.le_of_lt hlt), h2, h3, h4⟩
/-- Downward: the value is kept, and what is left lies far below. -/
theorem down_law {rest : List Int} : ∀ {q : Int} {acc : List Int}, q ≠ 0 → Fl q → (∀ x ∈ acc, Fl x) → dsZ q rest → topZ q acc →
    (downZ q acc rest).1 ≠ 0 ∧ Fl (downZ q acc rest).1 ∧ (∀ x ∈ (downZ q acc rest).2, Fl x) ∧ chZ (downZ q acc rest).1.natAbs (downZ q acc rest).2 ∧ (downZ q acc rest).1 + (downZ q acc rest).2.sum = q + acc.sum + rest.sum ∧ (downZ q acc rest).2.length ≤ acc.length + rest.length := by
  induction rest with
  | nil => intro q acc h0 hF ha _ ht; exact ⟨h0, hF, ha, ht.ch, by show q + acc.sum = _; simp, Nat.le_refl _⟩
  | cons y r ih =>
    intro q acc h0 hF ha hd ht
    obtain ⟨⟨k, k1, k2⟩, y0, yF, hd2⟩ := hd
    obtain ⟨t1, t2⟩ := ht.step h0 k2 k1
    have hlo : ∀ j, Dv j q → Dv j y → Dv j (rndI (q + y)) := fun j a b => rnd_dv (a.add b)
    have hle : (q + y - rndI (q + y)).natAbs = (rndI (q + y) - (q + y)).natAbs := by rw [← Int.natAbs_neg, Int.neg_sub]
    have hne : q + y ≠ 0 := by have := k2.ge h0; omega
    have herr := (err_fl hF yF).neg
    rw [Int.neg_sub] at herr
    have hsF := rnd_fl (q + y)
    unfold downZ
    rw [List.sum_cons, List.length_cons]
    by_cases he : q + y - rndI (q + y) = 0
    · rw [if_pos he]
      have e : rndI (q + y) = q + y := by omega
      obtain ⟨a1, a2, a3, a4, a5, a6⟩ := ih (q := rndI (q + y)) (acc := acc) (by rw [e]; exact hne) hsF ha (hd2.low y0 k2 k1 hlo) (by rw [e]; exact t1)
      exact ⟨a1, a2, a3, a4, by rw [a5, e]; omega, by omega⟩
    · rw [if_neg he]
      obtain ⟨a1, a2, a3, a4, a5, a6⟩ := ih (q := q + y - rndI (q + y)) (acc := rndI (q + y) :: acc) he herr (fun x hx => by
        rcases List.mem_cons.1 hx with e | hx
        · rw [e]; exact hsF
        · exact ha x hx) (hd2.low y0 k2 k1 fun j a b => (a.add b).sub (hlo j a b)) (by
        rcases rnd_tie (q + y) with e | ⟨j, j1, j2, j3, j4, j5⟩
        · exact absurd (by omega) he
        · have hp : 0 < 2 ^ j := Nat.pow_pos (by decide)
          by_cases c : (rndI (q + y) - (q + y)).natAbs = 2 ^ j
          · refine ⟨j + 1, ?_, j5 c, ?_, t2⟩
            · rw [hle, c, Nat.pow_succ]; omega
            · rw [Nat.pow_succ]; generalize 2 ^ j = P at *; omega
          · exact ⟨j, by rw [hle]; omega, j3, by generalize 2 ^ j = P at *; omega, t2⟩)
      rw [List.sum_cons] at a5
      rw [List.length_cons] at a6
      exact ⟨a1, a2, a3, a4, by rw [a5]; omega, by omega⟩
/-- Upward: the greatest one, and all that is below it. -/
theorem up_law {xs : List Int} : ∀ {q : Int} {b : Nat} {rho : Int} {w : Nat}, q ≠ 0 → Fl q → (∀ x ∈ xs, Fl x) → chZ b xs → q.natAbs ≤ 2 * b → rho.natAbs < 2 ^ w → Dv w q → (rho = 0 ∨ 4503599627370496 * 2 ^ w ≤ q.natAbs) →
    ∃ l t w', growZ q xs = l ++ [t] ∧ t ≠ 0 ∧ (rho + l.sum).natAbs < 2 ^ w' ∧ Dv w' t ∧ (rho + l.sum = 0 ∨ 4503599627370496 * 2 ^ w' ≤ t.natAbs) := by
  induction xs with
  | nil =>
    intro q b rho w h0 _ _ _ _ hr hw hu
    refine ⟨[], q, w, ?_, h0, ?_, hw, ?_⟩
    · show addZ q [] = _
      unfold addZ; rw [if_neg h0]; rfl
    · simpa using hr
    · simpa using hu
  | cons x r ih =>
    intro q b rho w h0 hF hxF hc hb hr hw hu
    obtain ⟨i, i1, i2, i3, i4⟩ := hc
    have hx : Fl x := hxF x (List.mem_cons_self ..)
    have hrF : ∀ y ∈ r, Fl y := fun y hy => hxF y (List.mem_cons_of_mem _ hy)
    have hpi : 0 < 2 ^ i := Nat.pow_pos (by decide)
    have hwi : w ≤ i + 1 := by
      have := hw.ge h0
      refine Nat.le_of_not_lt fun k => ?_
      have h5 : 2 ^ (i + 1 + 1) ≤ 2 ^ w := Nat.pow_le_pow_right (by decide) k
      rw [Nat.pow_succ, Nat.pow_succ] at h5
      omega
    have hwx : Dv w x := i2.mono hwi
    have herr := rnd_err' (x := q) hx
    have hsF := rnd_fl (q + x)
    have hsd := rnd_dv (hw.add hwx)
    have hsum : growZ q (x :: r) = addZ (q + x - rndI (q + x)) (growZ (rndI (q + x)) r) := rfl
    have hle : (q + x - rndI (q + x)).natAbs = (rndI (q + x) - (q + x)).natAbs := by rw [← Int.natAbs_neg, Int.neg_sub]
    rw [hsum]
    generalize hs : rndI (q + x) = s at *
    have s2 : s.natAbs ≤ 2 * x.natAbs := by omega
    have s0 : s ≠ 0 := by omega
    unfold addZ
    split
    · rename_i he
      have e : s = q + x := by omega
      exact ih s0 hsF hrF i4 s2 hr hsd (hu.imp id fun h => by omega)
    · rename_i he
      rcases rnd_cases (q + x) with e | ⟨j, j1, j2, j3, j4⟩
      · rw [hs] at e; exact absurd (by omega) he
      · rw [hs] at j3 j4
        have hpj : 0 < 2 ^ j := Nat.pow_pos (by decide)
        have hsj : 9007199254740992 * 2 ^ j ≤ s.natAbs := by
          have hm : ((9007199254740992 : Nat) * 2 ^ j) = 2 ^ (53 + j) := by rw [Nat.pow_add]
          apply Nat.le_of_not_lt
          intro hlt
          have hD : Dv j s := j3.mono (by omega)
          obtain ⟨m, em⟩ := j3.abs
          rw [Nat.pow_succ] at em
          have : m * (2 ^ j * 2) < 4503599627370496 * (2 ^ j * 2) := by omega
          have hm2 := Nat.lt_of_mul_lt_mul_right this
          have h6 : (m + 1) * (2 ^ j * 2) ≤ 4503599627370496 * (2 ^ j * 2) := Nat.mul_le_mul_right _ hm2
          rw [Nat.add_mul, Nat.one_mul] at h6
          omega
        have hed : Dv w (q + x - s) := (hw.add hwx).sub hsd
        have hew := hed.ge he
        have hr2 : (rho + (q + x - s)).natAbs < 2 ^ (j + 1) := by
          have := Int.natAbs_add_le rho (q + x - s)
          rw [Nat.pow_succ]; omega
        obtain ⟨l, t, w', l1, l2, l3, l4, l5⟩ := ih (rho := rho + (q + x - s)) (w := j + 1) s0 hsF hrF i4 s2 hr2 j3 (.inr (by rw [Nat.pow_succ]; omega))
        have ea : rho + (q + x - s) + l.sum = rho + ((q + x - s) :: l).sum := by rw [List.sum_cons]; omega
        rw [ea] at l3 l5
        exact ⟨(q + x - s) :: l, t, w', by rw [l1]; rfl, l2, l3, l4, l5⟩
end Go.Eng
set_option linter.unusedVariables false
namespace Go.Proofs
open Go Go.Eng
theorem fast_law {a b : Int} (fa : isFin a = true) (fb : isFin b = true) {K : Nat} (hK : K ≤ 2045) (ha : (fV a).natAbs ≤ 2 ^ (46 + K)) (hab : (fV b).natAbs ≤ (fV a).natAbs) :
    isFin (sumH a b) = true ∧ isFin (fstL a b) = true ∧ fV (sumH a b) = rndI (fV a + fV b) ∧ fV (fstL a b) = fV a + fV b - rndI (fV a + fV b) ∧ sumOk (sumH a b) (fstL a b) a b = true := by
  have e51 : 2 ^ (51 + K) = 32 * 2 ^ (46 + K) := by rw [show 51 + K = 5 + (46 + K) by omega, Nat.pow_add]
  have h2 := fast_two (fl_fV a) (fl_fV b) hab
  have hp : 0 < 2 ^ (46 + K) := Nat.pow_pos (by decide)
  have hb : (fV b).natAbs ≤ 2 ^ (46 + K) := Nat.le_trans hab ha
  generalize 2 ^ (46 + K) = P at *
  obtain ⟨h1, h1v, n1⟩ := stepA fa fb hK e51 ha hb (by omega)
  rw [← h1v] at h2
  have hH : sumH a b = addP a b := rfl
  have hL : fstL a b = subP b (subP (addP a b) a) := rfl
  rw [hH, hL]
  generalize addP a b = S at *
  obtain ⟨v1, v1v, n2⟩ := stepS h1 fa hK e51 n1 ha (by omega)
  rw [← v1v] at h2
  generalize subP S a = V at *
  obtain ⟨l1, l1v, _⟩ := stepS fb v1 hK e51 hb n2 (by omega)
  have hv : fV (subP b V) = fV a + fV b - fV S := by rw [l1v, h2]
  refine ⟨h1, l1, h1v, by rw [hv, h1v], ?_⟩
  unfold sumOk justP
  rw [fa, fb, h1, l1, hv, Nat.sub_self, Nat.pow_zero, show (fV S + (fV a + fV b - fV S)) * ((1 : Nat) : Int) = fV a + fV b by omega, decide_eq_true rfl]; rfl
theorem addL_eq {out : List Int} {y : Int} (fy : isFin y = true) : addL out y = out ++ (if fV y = 0 then [] else [y]) := by
  unfold addL
  by_cases h : fV y = 0
  · rw [if_pos ((cls_zero fy).2 h), if_pos h, List.append_nil]
  · rw [if_neg (fun k => h ((cls_zero fy).1 k)), if_neg h]
theorem downP_fV {K : Nat} (hK : K ≤ 2045) {Bd : Nat} {rest : List Int} : ∀ {q : Int} {acc : List Int} {C : Nat}, isFin q = true → fV q ≠ 0 → (∀ x ∈ rest, isFin x = true ∧ (fV x).natAbs ≤ Bd) → dsZ (fV q) (rest.map fV) → (fV q).natAbs ≤ C → (∀ x ∈ acc, isFin x = true ∧ (fV x).natAbs ≤ C) → C + rest.length * (2 * Bd) ≤ 2 ^ (46 + K) →
    ∃ q' acc', downP q acc rest = some (q', acc') ∧ isFin q' = true ∧ (fV q').natAbs ≤ C + rest.length * (2 * Bd) ∧ (∀ x ∈ acc', isFin x = true ∧ (fV x).natAbs ≤ C + rest.length * (2 * Bd)) ∧ downZ (fV q) (acc.map fV) (rest.map fV) = (fV q', acc'.map fV) := by
  induction rest with
  | nil => intro q acc C fq _ _ _ hC ha _; exact ⟨q, acc, rfl, fq, by omega, fun x hx => ⟨(ha x hx).1, Nat.le_trans (ha x hx).2 (Nat.le_add_right _ _)⟩, rfl⟩
  | cons y r ih =>
    intro q acc C fq q0 hr hd hC ha hb
    obtain ⟨fy, by1⟩ := hr y (List.mem_cons_self ..)
    rw [List.map_cons] at hd ⊢
    obtain ⟨⟨k, k1, k2⟩, y0, yF, hd2⟩ := hd
    rw [List.length_cons, Nat.succ_mul] at hb ⊢
    have hyq : (fV y).natAbs ≤ (fV q).natAbs := by have := k2.ge q0; omega
    obtain ⟨s1, s2, s3, s4, s5⟩ := fast_law fq fy hK (by omega) hyq
    have herr := rnd_err (y := fV y) (fl_fV q)
    have hne : fV q + fV y ≠ 0 := by have := k2.ge q0; omega
    have hdv : ∀ j, Dv j (fV q) → Dv j (fV y) → Dv j (rndI (fV q + fV y)) := fun j a b => rnd_dv (a.add b)
    have hzero := @cls_zero (fstL q y) s2
    rw [← s3] at herr s4 hdv
    have hdef : downP q acc (y :: r) = if sumOk (sumH q y) (fstL q y) q y then (if cls (fstL q y) = 0 then downP (sumH q y) acc r else downP (fstL q y) (sumH q y :: acc) r) else none := rfl
    have hdefZ : downZ (fV q) (acc.map fV) (fV y :: r.map fV) = if fV q + fV y - rndI (fV q + fV y) = 0 then downZ (rndI (fV q + fV y)) (acc.map fV) (r.map fV) else downZ (fV q + fV y - rndI (fV q + fV y)) (rndI (fV q + fV y) :: acc.map fV) (r.map fV) := rfl
    rw [hdef, hdefZ, s5, if_pos rfl, ← s3, ← s4]
    generalize sumH q y = S at *
    generalize fstL q y = E at *
    have hr2 : ∀ x ∈ r, isFin x = true ∧ (fV x).natAbs ≤ Bd := fun x hx => hr x (List.mem_cons_of_mem _ hx)
    by_cases he : fV E = 0
    · rw [if_pos (hzero.2 he), if_pos he]
      obtain ⟨q', acc', a1, a2, a3, a4, a5⟩ := ih (q := S) (acc := acc) (C := C + 2 * Bd) s1 (by omega) hr2 (hd2.low y0 k2 k1 hdv) (by omega) (fun x hx => ⟨(ha x hx).1, Nat.le_trans (ha x hx).2 (Nat.le_add_right _ _)⟩) (by omega)
      exact ⟨q', acc', a1, a2, by omega, fun x hx => ⟨(a4 x hx).1, by have := (a4 x hx).2; omega⟩, a5⟩
    · rw [if_neg (fun k => he (hzero.1 k)), if_neg he]
      obtain ⟨q', acc', a1, a2, a3, a4, a5⟩ := ih (q := E) (acc := S :: acc) (C := C + 2 * Bd) s2 he hr2 (hd2.low y0 k2 k1 fun j a b => by rw [s4]; exact (a.add b).sub (hdv j a b)) (by omega) (fun x hx => by
        rcases List.mem_cons.1 hx with e | hx
        · rw [e]; exact ⟨s1, by omega⟩
        · exact ⟨(ha x hx).1, Nat.le_trans (ha x hx).2 (Nat.le_add_right _ _)⟩) (by omega)
      exact ⟨q', acc', a1, a2, by omega, fun x hx => ⟨(a4 x hx).1, by have := (a4 x hx).2; omega⟩, a5⟩
theorem upP_fV {K : Nat} (hK : K ≤ 2045) {D : Nat} {xs : List Int} : ∀ {q : Int} {b : Nat} {out : List Int}, isFin q = true → (fV q).natAbs ≤ 2 * D → (∀ x ∈ xs, isFin x = true ∧ (fV x).natAbs ≤ D) → chZ b (xs.map fV) → (fV q).natAbs ≤ 2 * b → D ≤ 2 ^ (46 + K) →
    ∃ l, upP out q xs = some (out ++ l) ∧ (∀ y ∈ l, isFin y = true ∧ (fV y).natAbs ≤ 2 * D) ∧ l.map fV = growZ (fV q) (xs.map fV) ∧ l.length ≤ xs.length + 1 := by
  induction xs with
  | nil =>
    intro q b out fq hq _ _ _ _
    refine ⟨if fV q = 0 then [] else [q], ?_, ?_, ?_, ?_⟩
    · show some (addL out q) = _
      rw [addL_eq fq]
    · intro y hy
      split at hy
      · cases hy
      · rw [List.mem_singleton.1 hy]
        exact ⟨fq, hq⟩
    · show _ = addZ (fV q) []
      unfold addZ
      split <;> rfl
    · split <;> simp
  | cons x r ih =>
    intro q b out fq hq hx hc hb hD
    obtain ⟨fx, bx⟩ := hx x (List.mem_cons_self ..)
    rw [List.map_cons] at hc ⊢
    obtain ⟨i, i1, i2, i3, i4⟩ := hc
    have hpi : 0 < 2 ^ i := Nat.pow_pos (by decide)
    have hqx : (fV q).natAbs ≤ (fV x).natAbs := by omega
    obtain ⟨s1, s2, s3, s4, s5⟩ := fast_law fx fq hK (by omega) hqx
    have herr := rnd_err (y := fV q) (fl_fV x)
    rw [← s3] at herr s4
    obtain ⟨l, l1, l2, l3, l4⟩ := ih (q := sumH x q) (b := (fV x).natAbs) (out := addL out (fstL x q)) s1 (by omega) (fun y hy => hx y (List.mem_cons_of_mem _ hy)) i4 (by omega) hD
    refine ⟨(if fV (fstL x q) = 0 then [] else [fstL x q]) ++ l, ?_, ?_, ?_, ?_⟩
    · show (if sumOk (sumH x q) (fstL x q) x q then upP (addL out (fstL x q)) (sumH x q) r else none) = _
      rw [s5, if_pos rfl, l1, addL_eq s2, List.append_assoc]
    · intro y hy
      rcases List.mem_append.1 hy with hy | hy
      · split at hy
        · cases hy
        · rw [List.mem_singleton.1 hy]
          exact ⟨s2, by omega⟩
      · exact l2 y hy
    · rw [List.map_append, l3]
      show _ = addZ (fV q + fV x - rndI (fV q + fV x)) (growZ (rndI (fV q + fV x)) (r.map fV))
      rw [Int.add_comm (fV q), ← s3, ← s4]
      unfold addZ
      split <;> rfl
    · rw [List.length_append, List.length_cons]
      split
      · rw [List.length_nil]; omega
      · rw [List.length_singleton]; omega
theorem vZ_split {x y : Int} {l : List Int} : ∀ {b : Nat}, vZ b (l ++ [y] ++ [x]) → vZ b (l ++ [y]) ∧ x ≠ 0 ∧ ∃ k, y.natAbs < 2 ^ k ∧ Dv k x := by
  induction l with
  | nil => intro b h; obtain ⟨h0, hk, h1, h2, _⟩ := h; exact ⟨⟨h0, hk, trivial⟩, h1, h2⟩
  | cons a r ih => intro b h; obtain ⟨h0, hk, h1⟩ := h; obtain ⟨g1, g2⟩ := ih h1; exact ⟨⟨h0, hk, g1⟩, g2⟩
theorem ds_of_vZ {r : List Int} : ∀ {x : Int} {b : Nat}, vZ b (r.reverse ++ [x]) → (∀ y ∈ r, Fl y) → x ≠ 0 ∧ dsZ x r := by
  induction r with
  | nil => intro x b h _; exact ⟨h.1, trivial⟩
  | cons y r ih =>
    intro x b h hF
    rw [List.reverse_cons] at h
    obtain ⟨h1, h2, h3⟩ := vZ_split h
    obtain ⟨g1, g2⟩ := ih h1 fun z hz => hF z (List.mem_cons_of_mem _ hz)
    exact ⟨h2, h3, g1, hF y (List.mem_cons_self ..), g2⟩
/-- The floats below the last one are less than its last place. -/
theorem ds_rest {r : List Int} : ∀ {x : Int}, dsZ x r → ∃ k, r.sum.natAbs < 2 ^ k ∧ Dv k x := by
  induction r with
  | nil => intro x _; exact ⟨0, by decide, dv_zero x⟩
  | cons y r ih =>
    intro x h
    obtain ⟨⟨k, k1, k2⟩, y0, _, hd⟩ := h
    obtain ⟨j, j1, j2⟩ := ih hd
    refine ⟨k, ?_, k2⟩
    rw [List.sum_cons]
    obtain ⟨m, em⟩ := j2.abs
    have hm : m ≠ 0 := by intro e; rw [e, Nat.zero_mul] at em; omega
    have hjk : j ≤ k := by
      have := j2.ge y0
      exact Nat.le_of_lt ((Nat.pow_lt_pow_iff_right (by decide)).1 (Nat.lt_of_le_of_lt this k1))
    obtain ⟨d, rfl⟩ : ∃ d, k = d + j := ⟨k - j, by omega⟩
    rw [Nat.pow_add] at k1 ⊢
    rw [em] at k1
    have hmd := Nat.lt_of_mul_lt_mul_right k1
    have h5 : (m + 1) * 2 ^ j ≤ 2 ^ d * 2 ^ j := Nat.mul_le_mul_right _ hmd
    rw [Nat.add_mul, Nat.one_mul, ← em] at h5
    have := Int.natAbs_add_le y r.sum
    omega
/-- An expansion compressed. -/
theorem comp_good {b : Nat} {xs : List Int} (G : Good b xs) (h0 : xs ≠ []) (hl : xs.length ≤ 20) (hb : b + 8 < 2091) :
    ∃ l t w, compP xs = some (l ++ [t]) ∧ Good (b + 8) (l ++ [t]) ∧ ((l ++ [t]).map fV).sum = (xs.map fV).sum ∧ (l ++ [t]).length ≤ xs.length ∧ fV t ≠ 0 ∧ ((l.map fV).sum).natAbs < 2 ^ w ∧ Dv w (fV t) ∧ ((l.map fV).sum = 0 ∨ 4503599627370496 * 2 ^ w ≤ (fV t).natAbs) := by
  obtain ⟨x, r, hxr⟩ : ∃ x r, xs.reverse = x :: r := by
    cases hr : xs.reverse with
    | nil => exact absurd (List.reverse_eq_nil_iff.1 hr) h0
    | cons x r => exact ⟨x, r, rfl⟩
  have hxs : xs = r.reverse ++ [x] := by rw [← List.reverse_reverse xs, hxr, List.reverse_cons]
  have hlen : xs.length = r.length + 1 := by rw [hxs, List.length_append, List.length_reverse, List.length_singleton]
  have hmem : ∀ y ∈ r, y ∈ xs := fun y hy => by rw [hxs]; exact List.mem_append_left _ (List.mem_reverse.2 hy)
  have hfr : ∀ y ∈ r, isFin y = true ∧ (fV y).natAbs ≤ 2 ^ b := fun y hy => G.fin y (hmem y hy)
  obtain ⟨fx, bx⟩ := G.fin x (by rw [hxs]; exact List.mem_append_right _ (List.mem_singleton.2 rfl))
  have hv := G.val
  rw [hxs, List.map_append, List.map_reverse, List.map_cons, List.map_nil] at hv
  obtain ⟨x0, hd⟩ := ds_of_vZ hv fun y hy => by obtain ⟨z, _, rfl⟩ := List.mem_map.1 hy; exact fl_fV z
  have hsum : (xs.map fV).sum = fV x + (r.map fV).sum := by
    rw [hxs, List.map_append, List.map_reverse, List.sum_append, List.sum_reverse, List.map_cons, List.map_nil, List.sum_cons, List.sum_nil]; omega
  have hbd : 2 ^ b + r.length * (2 * 2 ^ b) ≤ 64 * 2 ^ b := by
    have : r.length * (2 * 2 ^ b) ≤ 19 * (2 * 2 ^ b) := Nat.mul_le_mul_right _ (by omega)
    omega
  have h64 : 64 * 2 ^ b = 2 ^ (b + 6) := by rw [Nat.pow_add, Nat.mul_comm]
  have hlt := p2le (a := b + 6) (b := 46 + 2045) (by omega)
  obtain ⟨q', acc', a1, a2, a3, a4, a5⟩ := downP_fV (K := 2045) (Nat.le_refl _) (acc := []) (C := 2 ^ b) fx x0 hfr hd bx (fun y hy => by cases hy) (by omega)
  obtain ⟨d1, d2, d3, d4, d5, d6⟩ := down_law (acc := []) x0 (fl_fV x) (fun y hy => by cases hy) hd trivial
  rw [List.map_nil] at a5
  rw [a5] at d1 d2 d3 d4 d5 d6
  obtain ⟨l, l1, l2, l3, l4⟩ := upP_fV (K := 2045) (Nat.le_refl _) (D := 2 ^ (b + 6)) (out := []) a2 (by omega) (fun y hy => ⟨(a4 y hy).1, by have := (a4 y hy).2; omega⟩) d4 (by omega) hlt
  obtain ⟨lz, tz, w, u1, u2, u3, u4, u5⟩ := up_law (rho := 0) (w := 0) d1 d2 d3 d4 (by omega) (by decide) (dv_zero _) (.inl rfl)
  have gs := @growZ_sum (acc'.map fV) (fV q')
  have gv := growZ_valid (M := 0) (d4.mono (Nat.zero_le _)).vZ d3 d2 ⟨0, by decide, dv_zero _⟩
  rw [List.nil_append] at l1
  rw [u1] at l3 gs gv
  have hne : l ≠ [] := by intro e; rw [e] at l3; simp at l3
  obtain ⟨m, t, rfl⟩ : ∃ m t, l = m ++ [t] := ⟨l.dropLast, l.getLast hne, (List.dropLast_concat_getLast hne).symm⟩
  rw [List.map_append, List.map_cons, List.map_nil] at l3
  obtain ⟨e1, e2⟩ := List.append_inj' l3 rfl
  have e2 : fV t = tz := by simpa using e2
  rw [← e1] at u3 u5
  rw [Int.zero_add] at u3 u5
  rw [← e2] at u2 u4 u5
  refine ⟨m, t, w, ?_, ⟨fun y hy => ⟨(l2 y hy).1, ?_⟩, ?_⟩, ?_, ?_, u2, u3, u4, u5⟩
  · unfold compP
    rw [hxr]
    show (match downP x [] r with | some (q, l) => upP [] q l | none => none) = _
    rw [a1]; exact l1
  · have := (l2 y hy).2
    rw [show b + 8 = b + 6 + 1 + 1 by omega, Nat.pow_succ, Nat.pow_succ]
    omega
  · rw [List.map_append, List.map_cons, List.map_nil, l3]; exact gv
  · rw [List.map_append, List.map_cons, List.map_nil, l3, gs, d5, hsum]; simp
  · have : acc'.length ≤ r.length := by simpa using d6
    omega
end Go.Proofs
