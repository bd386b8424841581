import Derived.Test.YtedmhkimbbkdgaaGreatFmtA56
import Derived.Test.YtedmhkimbbkdgaaGreatFmtA71
/- Here stand lemmas: expansions of whole numbers and of patterns. -/
set_option linter.unusedVariables false
set_option linter.unusedVariables false
namespace Go.Eng
open Go
/-- An expansion of whole numbers, behind what is below it. -/
def vZ (below : Nat) : List Int → Prop
  | [] => True
  | v :: r => v ≠ 0 ∧ (∃ k, below < 2 ^ k ∧ Dv k v) ∧ vZ v.natAbs r
theorem vZ.mono {a b : Nat} {xs : List Int} (h : vZ b xs) (hab : a ≤ b) : vZ a xs := by
  cases xs with
  | nil => trivial
  | cons v r => exact ⟨h.1, let ⟨k, h1, h2⟩ := h.2.1; ⟨k, by omega, h2⟩, h.2.2⟩
theorem vZ.lt {b : Nat} {v : Int} {r : List Int} (h : vZ b (v :: r)) : b < v.natAbs := by
  obtain ⟨h0, ⟨k, h1, h2⟩, _⟩ := h
  have := h2.ge h0
  omega
theorem vZ.tail {b : Nat} {v : Int} {r : List Int} (h : vZ b (v :: r)) : vZ b r := h.2.2.mono (by have := h.lt; omega)
def addZ (v : Int) (l : List Int) : List Int := if v = 0 then l else v :: l
/-- A float grown into an expansion. -/
def growZ (q : Int) : List Int → List Int
  | [] => addZ q []
  | x :: r => addZ (q + x - rndI (q + x)) (growZ (rndI (q + x)) r)
theorem addZ_sum (v : Int) (l : List Int) : (addZ v l).sum = v + l.sum := by
  unfold addZ
  split
  · rename_i h; rw [h, Int.zero_add]
  · rw [List.sum_cons]
theorem growZ_sum {xs : List Int} : ∀ {q : Int}, (growZ q xs).sum = q + xs.sum := by
  induction xs with
  | nil => intro q; show (addZ q []).sum = _; rw [addZ_sum]
  | cons x r ih =>
    intro q
    show (addZ (q + x - rndI (q + x)) (growZ (rndI (q + x)) r)).sum = _
    rw [addZ_sum, ih, List.sum_cons]; omega
theorem growZ_valid {xs : List Int} : ∀ {q : Int} {M : Nat}, vZ M xs → (∀ x ∈ xs, Fl x) → Fl q → (∃ k, M < 2 ^ k ∧ Dv k q) → vZ M (growZ q xs) := by
  induction xs with
  | nil =>
    intro q M _ _ hq hk
    show vZ M (addZ q [])
    unfold addZ
    split
    · trivial
    · rename_i h; exact ⟨h, hk, trivial⟩
  | cons x r ih =>
    intro q M hv hF hq hk
    have hx : Fl x := hF x (List.mem_cons_self ..)
    have hr : ∀ y ∈ r, Fl y := fun y hy => hF y (List.mem_cons_of_mem _ hy)
    obtain ⟨h0, ⟨kx, x1, x2⟩, hvr⟩ := hv
    obtain ⟨kq, q1, q2⟩ := hk
    have hMx : M < x.natAbs := by have := x2.ge h0; omega
    obtain ⟨k, k1, k2, k3⟩ : ∃ k, M < 2 ^ k ∧ Dv k q ∧ Dv k x := by
      rcases Nat.le_total kx kq with c | c
      · exact ⟨kx, x1, q2.mono c, x2⟩
      · exact ⟨kq, q1, q2, x2.mono c⟩
    have hs := rnd_dv (k2.add k3)
    have herr := rnd_err (y := x) hq
    have hcs := rnd_cases (q + x)
    have hsF := rnd_fl (q + x)
    show vZ M (addZ (q + x - rndI (q + x)) (growZ (rndI (q + x)) r))
    generalize rndI (q + x) = s at *
    have hle : (q + x - s).natAbs = (s - (q + x)).natAbs := by rw [← Int.natAbs_neg, Int.neg_sub]
    have hle2 : (q + x - s).natAbs ≤ x.natAbs := by rw [hle]; exact herr
    unfold addZ
    split
    · exact ih (hvr.mono (Nat.le_of_lt hMx)) hr hsF ⟨k, k1, hs⟩
    · rename_i he
      refine ⟨he, ⟨k, k1, (k2.add k3).sub hs⟩, ih (hvr.mono hle2) hr hsF ?_⟩
      rcases hcs with e | ⟨j, j1, j2, j3, j4⟩
      · rw [e, Int.sub_self] at he; exact absurd rfl he
      · refine ⟨j + 1, ?_, j3⟩
        rw [hle, Nat.pow_succ]
        have hp : 0 < 2 ^ j := Nat.pow_pos (by decide)
        generalize 2 ^ j = P at *
        omega
end Go.Eng
set_option linter.unusedVariables false
namespace Go.Proofs
open Go Go.Eng
theorem fl_fV (b : Int) : Fl (fV b) := by
  refine ⟨fM b, (fX b + 1074).toNat, ?_, ?_⟩
  · unfold fV; rw [signed_abs]
  · have := fM_lt b; omega
theorem rnd_two (v : Int) : (rndI v).natAbs ≤ 2 * v.natAbs := by
  have := rnd_nearest Fl.zero v
  omega
theorem stepA {a b : Int} (fa : isFin a = true) (fb : isFin b = true) {K P c d : Nat} (hK : K ≤ 2045) (hP : 2 ^ (51 + K) = 32 * P) (ha : (fV a).natAbs ≤ c) (hb : (fV b).natAbs ≤ d) (h : c + d < 96 * P) :
    isFin (addP a b) = true ∧ fV (addP a b) = rndI (fV a + fV b) ∧ (fV (addP a b)).natAbs ≤ 2 * (c + d) := by
  have h1 := Int.natAbs_add_le (fV a) (fV b)
  have h2 := rnd_two (fV a + fV b)
  obtain ⟨f1, f2⟩ := addP_fV fa fb hK (by rw [hP]; generalize (fV a + fV b).natAbs = x at *; generalize (fV a).natAbs = y at *; generalize (fV b).natAbs = z at *; omega)
  refine ⟨f1, f2, ?_⟩
  rw [f2]
  generalize (fV a + fV b).natAbs = x at *; generalize (fV a).natAbs = y at *; generalize (fV b).natAbs = z at *; generalize (rndI (fV a + fV b)).natAbs = w at *
  omega
theorem stepS {a b : Int} (fa : isFin a = true) (fb : isFin b = true) {K P c d : Nat} (hK : K ≤ 2045) (hP : 2 ^ (51 + K) = 32 * P) (ha : (fV a).natAbs ≤ c) (hb : (fV b).natAbs ≤ d) (h : c + d < 96 * P) :
    isFin (subP a b) = true ∧ fV (subP a b) = rndI (fV a - fV b) ∧ (fV (subP a b)).natAbs ≤ 2 * (c + d) := by
  have h1 := Int.natAbs_sub_le (fV a) (fV b)
  have h2 := rnd_two (fV a - fV b)
  obtain ⟨f1, f2⟩ := subP_fV fa fb hK (by rw [hP]; generalize (fV a - fV b).natAbs = x at *; generalize (fV a).natAbs = y at *; generalize (fV b).natAbs = z at *; omega)
  refine ⟨f1, f2, ?_⟩
  rw [f2]
  generalize (fV a - fV b).natAbs = x at *; generalize (fV a).natAbs = y at *; generalize (fV b).natAbs = z at *; generalize (rndI (fV a - fV b)).natAbs = w at *
  omega
/-- A sum of two floats that are not too great, and what it lost. -/
theorem sum_law {a b : Int} (fa : isFin a = true) (fb : isFin b = true) {K : Nat} (hK : K ≤ 2045) (ha : (fV a).natAbs ≤ 2 ^ (46 + K)) (hb : (fV b).natAbs ≤ 2 ^ (46 + K)) :
    isFin (sumH a b) = true ∧ isFin (sumL a b) = true ∧ fV (sumH a b) = rndI (fV a + fV b) ∧ fV (sumL a b) = fV a + fV b - rndI (fV a + fV b) ∧ sumOk (sumH a b) (sumL a b) a b = true := by
  have e51 : 2 ^ (51 + K) = 32 * 2 ^ (46 + K) := by rw [show 51 + K = 5 + (46 + K) by omega, Nat.pow_add]
  have h2 := two_sum (fl_fV a) (fl_fV b)
  have hp : 0 < 2 ^ (46 + K) := Nat.pow_pos (by decide)
  generalize 2 ^ (46 + K) = P at *
  obtain ⟨h1, h1v, n1⟩ := stepA fa fb hK e51 ha hb (by omega)
  rw [← h1v] at h2
  have hH : sumH a b = addP a b := rfl
  have hL : sumL a b = addP (subP a (subP (addP a b) (subP (addP a b) a))) (subP b (subP (addP a b) a)) := rfl
  rw [hH, hL]
  generalize addP a b = S at *
  obtain ⟨v1, v1v, n2⟩ := stepS h1 fa hK e51 n1 ha (by omega)
  rw [← v1v] at h2
  generalize subP S a = V at *
  obtain ⟨w1, w1v, n3⟩ := stepS h1 v1 hK e51 n1 n2 (by omega)
  rw [← w1v] at h2
  generalize subP S V = W at *
  obtain ⟨a1, a1v, n4⟩ := stepS fa w1 hK e51 ha n3 (by omega)
  obtain ⟨b1, b1v, n5⟩ := stepS fb v1 hK e51 hb n2 (by omega)
  rw [← a1v, ← b1v] at h2
  generalize subP a W = A at *
  generalize subP b V = D at *
  obtain ⟨l1, l1v, _⟩ := stepA a1 b1 hK e51 n4 n5 (by omega)
  have hv : fV (addP A D) = fV a + fV b - fV S := by rw [l1v, h2]
  refine ⟨h1, l1, h1v, by rw [hv, h1v], ?_⟩
  unfold sumOk justP
  rw [fa, fb, h1, l1, hv, Nat.sub_self, Nat.pow_zero, show (fV S + (fV a + fV b - fV S)) * ((1 : Nat) : Int) = fV a + fV b by omega, decide_eq_true rfl]; rfl
theorem cls_zero {b : Int} (fb : isFin b = true) : cls b = 0 ↔ fV b = 0 := by
  rw [fV_zero]
  unfold isFin at fb
  have := of_decide_eq_true fb
  unfold cls fM
  by_cases h0 : fE b = 0
  · rw [h0, if_neg (by omega), if_neg (by omega), if_neg (by omega), if_pos rfl]
    by_cases h1 : fT b = 0
    · rw [h1]; simp
    · rw [if_pos (by omega)]; omega
  · rw [if_neg (by omega), if_neg (by omega), if_pos (by omega), if_neg h0]; omega
/-- The grown expansion's values. -/
theorem growP_law {K : Nat} (hK : K ≤ 2045) {Bd : Nat} {xs : List Int} : ∀ {q : Int} {out : List Int}, isFin q = true → (∀ x ∈ xs, isFin x = true ∧ (fV x).natAbs ≤ Bd) → 2 ^ xs.length * ((fV q).natAbs + 2 * Bd) < 2 ^ (46 + K) →
    ∃ l, growP out q xs = some (out ++ l) ∧ (∀ y ∈ l, isFin y = true ∧ (fV y).natAbs ≤ 2 ^ xs.length * ((fV q).natAbs + 2 * Bd)) ∧ l.map fV = growZ (fV q) (xs.map fV) := by
  have add1 : ∀ (out : List Int) (y : Int), isFin y = true → addL out y = out ++ (if fV y = 0 then [] else [y]) := fun out y fy => by
    unfold addL
    by_cases h : fV y = 0
    · rw [if_pos ((cls_zero fy).2 h), if_pos h, List.append_nil]
    · rw [if_neg (fun k => h ((cls_zero fy).1 k)), if_neg h]
  induction xs with
  | nil =>
    intro q out fq _ _
    refine ⟨if fV q = 0 then [] else [q], ?_, ?_, ?_⟩
    · show some (addL out q) = _
      rw [add1 _ _ fq]
    · intro y hy
      split at hy
      · cases hy
      · rw [List.mem_singleton.1 hy]
        exact ⟨fq, by rw [List.length_nil, Nat.pow_zero]; omega⟩
    · show _ = addZ (fV q) []
      unfold addZ
      split <;> rfl
  | cons x r ih =>
    intro q out fq hx hb
    obtain ⟨fx, bx⟩ := hx x (List.mem_cons_self ..)
    rw [List.length_cons, Nat.pow_succ] at hb ⊢
    have hp : 0 < 2 ^ r.length := Nat.pow_pos (by decide)
    have hle : (fV q).natAbs + 2 * Bd ≤ 2 ^ r.length * 2 * ((fV q).natAbs + 2 * Bd) := Nat.le_mul_of_pos_left _ (by omega)
    obtain ⟨s1, s2, s3, s4, s5⟩ := sum_law fq fx hK (by omega) (by omega)
    have n1 := rnd_err (y := fV x) (fl_fV q)
    have n2 := rnd_two (fV q + fV x)
    rw [← s3] at n1 n2 s4
    have hstep : 2 ^ r.length * ((fV (sumH q x)).natAbs + 2 * Bd) ≤ 2 ^ r.length * 2 * ((fV q).natAbs + 2 * Bd) := by
      rw [Nat.mul_assoc]; exact Nat.mul_le_mul_left _ (by omega)
    obtain ⟨l, l1, l2, l3⟩ := ih (q := sumH q x) (out := addL out (sumL q x)) s1 (fun y hy => hx y (List.mem_cons_of_mem _ hy)) (by omega)
    refine ⟨(if fV (sumL q x) = 0 then [] else [sumL q x]) ++ l, ?_, ?_, ?_⟩
    · show (if sumOk (sumH q x) (sumL q x) q x then growP (addL out (sumL q x)) (sumH q x) r else none) = _
      rw [s5, if_pos rfl, l1, add1 _ _ s2, List.append_assoc]
    · intro y hy
      rcases List.mem_append.1 hy with hy | hy
      · split at hy
        · cases hy
        · rw [List.mem_singleton.1 hy]
          exact ⟨s2, by omega⟩
      · obtain ⟨y1, y2⟩ := l2 y hy
        exact ⟨y1, by omega⟩
    · rw [List.map_append, l3, List.map_cons]
      show _ = addZ (fV q + fV x - rndI (fV q + fV x)) (growZ (rndI (fV q + fV x)) (r.map fV))
      rw [← s3, ← s4]
      unfold addZ
      split <;> rfl
/-- Validity, told of the values. -/
theorem vOk_iff {xs : List Int} : ∀ {b : Nat}, vOk b xs = true ↔ (∀ x ∈ xs, isFin x = true) ∧ vZ b (xs.map fV) := by
  induction xs with
  | nil => intro b; exact ⟨fun _ => ⟨fun x hx => by (cases hx), trivial⟩, fun _ => rfl⟩
  | cons x r ih =>
    intro b
    have e1 : vOk b (x :: r) = ((decide (cls x = 1) || decide (cls x = 2)) && (decide (b < lowN x) && vOk (fV x).natAbs r)) := rfl
    rw [e1]
    simp only [Bool.and_eq_true, Bool.or_eq_true, decide_eq_true_eq, List.map_cons, List.mem_cons, forall_eq_or_imp]
    constructor
    · rintro ⟨hc, hl, hv⟩
      obtain ⟨fx, hm⟩ := cls_pos hc
      obtain ⟨h1, h2⟩ := ih.1 hv
      refine ⟨⟨fx, h1⟩, fun k => hm (fV_zero.1 k), ?_, h2⟩
      obtain ⟨N, n1, n2⟩ := lowN_odd hm
      exact ⟨Lib.ctz 64 (fM x) + (fX x + 1074).toNat, hl, Dv.of_abs n2⟩
    · rintro ⟨⟨fx, h1⟩, hne, ⟨k, k1, k2⟩, h2⟩
      have hm : fM x ≠ 0 := fun k => hne (fV_zero.2 k)
      refine ⟨?_, ?_, ih.2 ⟨h1, h2⟩⟩
      · unfold isFin at fx
        have := of_decide_eq_true fx
        unfold fM at hm
        unfold cls
        rw [if_neg (by omega), if_neg (by omega)]
        by_cases h0 : 0 < fE x
        · rw [if_pos h0]; exact .inr rfl
        · rw [if_neg h0]
          rw [if_pos (by omega)] at hm
          rw [if_pos (by omega)]; exact .inl rfl
      · obtain ⟨N, n1, n2⟩ := lowN_odd hm
        obtain ⟨m, em⟩ := k2.abs
        have hk : lowN x = 2 ^ (Lib.ctz 64 (fM x) + (fX x + 1074).toNat) := rfl
        rw [hk] at n2 ⊢
        generalize Lib.ctz 64 (fM x) + (fX x + 1074).toNat = t at *
        rcases Nat.lt_or_ge t k with c | c
        · exfalso
          obtain ⟨d, rfl⟩ : ∃ d, k = t + (d + 1) := ⟨k - t - 1, by omega⟩
          rw [n2, Nat.pow_add, Nat.mul_comm (2 ^ t), ← Nat.mul_assoc] at em
          have := Nat.eq_of_mul_eq_mul_right (Nat.pow_pos (by decide)) em
          rw [Nat.pow_succ, ← Nat.mul_assoc] at this
          omega
        · have : 2 ^ k ≤ 2 ^ t := Nat.pow_le_pow_right (by decide) c
          omega
end Go.Proofs
