import Derived.Test.YtkfafikejdhccaaGreatDoorA39
import Derived.Test.YtkfafikejdhccaaGreatDoorA47
import Derived.Test.YtkfafikejdhccaaGreatDoorA41
import Derived.Test.YtkfafikejdhccaaGreatDoorA34
/- Here stand lemmas: products of expansions. -/
set_option linter.unusedVariables false
set_option linter.unusedVariables false
namespace Go.Eng
open Go
/-- Multiplying an expansion by a float: the exact products come in. -/
def scZ (q : Int) : List Int → List Int
  | [] => addZ q []
  | V :: r => addZ (q + (V - rndI V) - rndI (q + (V - rndI V))) (addZ (rndI V + rndI (q + (V - rndI V)) - rndI (rndI V + rndI (q + (V - rndI V)))) (scZ (rndI (rndI V + rndI (q + (V - rndI V)))) r))
/-- Where the greater one comes first. -/
def fsZ (q : Int) : List Int → Prop
  | [] => True
  | V :: r => (rndI (q + (V - rndI V))).natAbs ≤ (rndI V).natAbs ∧ fsZ (rndI (rndI V + rndI (q + (V - rndI V)))) r
/-- Products of an expansion with a float of size g. -/
def okZ (g : Nat) (S : Int) (m : Nat) : List Int → Prop
  | [] => True
  | V :: r => (∃ κ : Nat, S.natAbs < g * 2 ^ κ ∧ m < g * 2 ^ κ ∧ ∃ n : Int, n ≠ 0 ∧ V = n * ((g * 2 ^ κ : Nat) : Int)) ∧ okZ g (S + V) V.natAbs r
theorem scZ_sum {Vs : List Int} : ∀ {q : Int}, (scZ q Vs).sum = q + Vs.sum := by
  induction Vs with
  | nil => intro q; show (addZ q []).sum = _; rw [addZ_sum]
  | cons V r ih =>
    intro q
    unfold scZ
    rw [addZ_sum, addZ_sum, ih, List.sum_cons]; omega
theorem snap {k L : Nat} {q S : Int} (hq : Dv k q) (hL : Dv k (L : Int)) (hS : S.natAbs < L) (h : (q - S).natAbs < 2 ^ k) : q.natAbs ≤ L := by
  obtain ⟨a, ea⟩ := hq.abs
  obtain ⟨b, eb⟩ := hL.abs
  rw [Int.natAbs_natCast] at eb
  apply Nat.le_of_not_lt
  intro hlt
  rw [ea, eb] at hlt
  have h1 := Nat.lt_of_mul_lt_mul_right hlt
  have h2 : (b + 1) * 2 ^ k ≤ a * 2 ^ k := Nat.mul_le_mul_right _ h1
  rw [Nat.add_mul, Nat.one_mul, ← ea, ← eb] at h2
  omega
/-- Nothing was lost, or the sum was great. -/
def altZ (k k2 : Nat) (z : Int) : Prop := k2 = k ∨ z ≠ rndI z ∧ ∃ j, k2 = j + 1 ∧ 9007199254740992 * 2 ^ j ≤ z.natAbs
/-- What a sum lost is put out. -/
theorem emit {M k : Nat} {z S : Int} (hM : M < 2 ^ k) (hz : Dv k z) (hs : (z - S).natAbs < 2 ^ k) :
    ∃ M2 k2, M2 < 2 ^ k2 ∧ Dv k2 (rndI z) ∧ (rndI z - S).natAbs < 2 ^ k2 ∧ k ≤ k2 ∧ altZ k k2 z ∧ ∀ X, vZ M2 X → vZ M (addZ (z - rndI z) X) := by
  have hd := hz.sub (rnd_dv hz)
  by_cases he : z - rndI z = 0
  · have e : rndI z = z := by omega
    refine ⟨M, k, hM, rnd_dv hz, by rw [e]; exact hs, Nat.le_refl _, .inl rfl, fun X hX => ?_⟩
    unfold addZ; rw [if_pos he]; exact hX
  · rcases rnd_cases z with e | ⟨j, j1, j2, j3, j4⟩
    · exact absurd (by omega) he
    · have hle : (z - rndI z).natAbs = (rndI z - z).natAbs := by rw [← Int.natAbs_neg, Int.neg_sub]
      have hk := hd.ge he
      have hpp : 2 ^ (j + 1) = 2 * 2 ^ j := by rw [Nat.pow_succ, Nat.mul_comm]
      have hkj : k ≤ j := (Nat.pow_le_pow_iff_right (by decide)).1 (Nat.le_trans hk (by omega : (z - rndI z).natAbs ≤ 2 ^ j))
      refine ⟨(z - rndI z).natAbs, j + 1, by omega, j3, ?_, by omega, .inr ⟨by omega, j, rfl, j1⟩, fun X hX => ?_⟩
      · rw [hpp]; omega
      · unfold addZ; rw [if_neg he]; exact ⟨he, ⟨k, hM, hd⟩, hX⟩
theorem sc_law {g lam : Nat} (hg0 : 0 < g) (hg1 : Dv lam (g : Int)) (hg2 : g < 9007199254740992 * 2 ^ lam) {Vs : List Int} : ∀ {q S : Int} {m M k : Nat}, okZ g S m Vs → Fl q → M < 2 ^ k → Dv k q → (q - S).natAbs < 2 ^ k →
    (∀ κ, S.natAbs < g * 2 ^ κ → m < g * 2 ^ κ → k ≤ lam + κ) → vZ M (scZ q Vs) ∧ fsZ q Vs := by
  have hU : ∀ κ, Dv (lam + κ) ((g * 2 ^ κ : Nat) : Int) := fun κ => by
    rw [Int.natCast_mul]
    obtain ⟨z, hz⟩ := hg1
    exact ⟨z, by rw [hz, Nat.pow_add, Int.natCast_mul, Int.mul_assoc]⟩
  have hU2 : ∀ κ, g * 2 ^ κ < 9007199254740992 * 2 ^ (lam + κ) := fun κ => by
    rw [Nat.pow_add, ← Nat.mul_assoc]; exact Nat.mul_lt_mul_of_pos_right hg2 (Nat.pow_pos (by decide))
  have hp53 : ∀ {j κ : Nat}, 9007199254740992 * 2 ^ j < 9007199254740992 * 2 ^ κ → j < κ := fun h => (Nat.pow_lt_pow_iff_right (by decide)).1 (Nat.lt_of_mul_lt_mul_left h)
  induction Vs with
  | nil =>
    intro q S m M k _ hF hM hk _ _
    refine ⟨?_, trivial⟩
    show vZ M (addZ q [])
    unfold addZ
    split
    · trivial
    · rename_i h; exact ⟨h, ⟨k, hM, hk⟩, trivial⟩
  | cons V r ih =>
    intro q S m M k hok hF hM hk hqs hC
    obtain ⟨⟨κ, c1, c2, n, n0, hV⟩, hok2⟩ := hok
    have hkl := hC κ c1 c2
    have hLd := (hU κ).mono hkl
    have hq := snap hk hLd c1 hqs
    have hVd : Dv k V := by
      obtain ⟨z, hz⟩ := hLd
      exact ⟨n * z, by rw [hV, hz, Int.mul_assoc]⟩
    have hVa : V.natAbs = n.natAbs * (g * 2 ^ κ) := by rw [hV, Int.natAbs_mul, Int.natAbs_natCast]
    have hL0 : 0 < g * 2 ^ κ := Nat.mul_pos hg0 (Nat.pow_pos (by decide))
    have hVL : g * 2 ^ κ ≤ V.natAbs := by rw [hVa]; exact Nat.le_mul_of_pos_left _ (by omega)
    have hLF : Fl ((g * 2 ^ κ : Nat) : Int) := Fl.of (hU κ) (by rw [Int.natAbs_natCast]; exact Nat.le_of_lt (hU2 κ))
    have hT := rnd_dv hVd
    have hnext : ∀ κ', V.natAbs < g * 2 ^ κ' → κ < κ' := fun κ' h => by
      have h1 : g * 2 ^ κ < g * 2 ^ κ' := by omega
      exact (Nat.pow_lt_pow_iff_right (by decide)).1 (Nat.lt_of_mul_lt_mul_left h1)
    generalize hLe : g * 2 ^ κ = L at *
    -- what the product lost
    obtain ⟨M2, k2, a1, a2, a3, a4, a5, a6⟩ := emit (S := S + (V - rndI V)) hM (hk.add (hVd.sub hT)) (by rw [show q + (V - rndI V) - (S + (V - rndI V)) = q - S by omega]; exact hqs)
    have hQF := rnd_fl (q + (V - rndI V))
    have herr := rnd_err (y := V - rndI V) hF
    have two : V ≠ rndI V → 2 * L ≤ V.natAbs := fun hne => by
      rw [hVa]
      apply Nat.mul_le_mul_right
      apply Nat.le_of_not_lt
      intro hlt
      apply hne
      have h1 : n = 1 ∨ n = -1 := by omega
      rcases h1 with e | e
      · rw [hV, e, Int.one_mul, rnd_exact hLF]
      · rw [hV, e, Int.neg_mul, Int.one_mul, rnd_exact hLF.neg]
    have key : (rndI (q + (V - rndI V))).natAbs ≤ (rndI V).natAbs ∧ Dv k2 (rndI V) ∧ ∀ κ', V.natAbs < g * 2 ^ κ' → k2 ≤ lam + κ' := by
      rcases rnd_cases V with e | ⟨jV, i1, i2, i3, i4⟩
      · have e0 : q + (V - rndI V) = q := by omega
        rw [e0] at a5 ⊢
        rw [rnd_exact hF]
        have hk2 : k2 = k := by
          rcases a5 with h | ⟨h, _⟩
          · exact h
          · exact absurd (rnd_exact hF).symm h
        subst hk2
        exact ⟨by rw [e]; omega, hT, fun κ' h => by have := hnext κ' h; omega⟩
      · by_cases hne : V = rndI V
        · have e0 : q + (V - rndI V) = q := by omega
          rw [e0] at a5 ⊢
          rw [rnd_exact hF]
          have hk2 : k2 = k := by
            rcases a5 with h | ⟨h, _⟩
            · exact h
            · exact absurd (rnd_exact hF).symm h
          subst hk2
          exact ⟨by rw [← hne]; omega, hT, fun κ' h => by have := hnext κ' h; omega⟩
        · have h2 := two hne
          have hP : 0 < 2 ^ jV := Nat.pow_pos (by decide)
          have hz : (q + (V - rndI V)).natAbs ≤ L + 2 ^ jV := by omega
          refine ⟨by omega, ?_, fun κ' h => ?_⟩
          · rcases a5 with h | ⟨_, j, h, hj⟩
            · rw [h]; exact hT
            · refine i3.mono ?_
              have : j ≤ jV := by
                apply Nat.le_of_not_lt
                intro hlt
                have h5 : 2 ^ (jV + 1) ≤ 2 ^ j := Nat.pow_le_pow_right (by decide) hlt
                rw [Nat.pow_succ] at h5
                omega
              omega
          · have hjV : jV < lam + κ' := hp53 (Nat.lt_of_le_of_lt i1 (Nat.lt_trans h (hU2 κ')))
            rcases a5 with h3 | ⟨_, j, h3, hj⟩
            · have := hnext κ' h; omega
            · have : j ≤ jV := by
                apply Nat.le_of_not_lt
                intro hlt
                have h5 : 2 ^ (jV + 1) ≤ 2 ^ j := Nat.pow_le_pow_right (by decide) hlt
                rw [Nat.pow_succ] at h5
                omega
              omega
    obtain ⟨y1, y2, y3⟩ := key
    have e3 : rndI V + rndI (q + (V - rndI V)) - (S + V) = rndI (q + (V - rndI V)) - (S + (V - rndI V)) := by omega
    obtain ⟨M3, k3, b1, b2, b3, b4, b5, b6⟩ := emit (S := S + V) a1 (y2.add a2) (by rw [e3]; exact a3)
    have hsn : ∀ κ', (S + V).natAbs < g * 2 ^ κ' → V.natAbs < g * 2 ^ κ' → (rndI V + rndI (q + (V - rndI V))).natAbs ≤ g * 2 ^ κ' := fun κ' h1 h2 =>
      snap (y2.add a2) ((hU κ').mono (y3 κ' h2)) h1 (by rw [e3]; exact a3)
    obtain ⟨z1, z2⟩ := ih (q := rndI (rndI V + rndI (q + (V - rndI V)))) hok2 (rnd_fl _) b1 b2 b3 fun κ' h1 h2 => by
      rcases b5 with h3 | ⟨_, j, h3, hj⟩
      · rw [h3]; exact y3 κ' h2
      · have := hp53 (Nat.lt_of_le_of_lt hj (Nat.lt_of_le_of_lt (hsn κ' h1 h2) (hU2 κ')))
        omega
    exact ⟨a6 _ (b6 _ z1), y1, z2⟩
/-- A whole expansion, times a float. -/
theorem scTop_law {g lam : Nat} (hg0 : 0 < g) (hg1 : Dv lam (g : Int)) (hg2 : g < 9007199254740992 * 2 ^ lam) {V : Int} {Vs : List Int} (hok : okZ g V V.natAbs Vs) :
    vZ 0 (addZ (V - rndI V) (scZ (rndI V) Vs)) ∧ fsZ (rndI V) Vs := by
  obtain ⟨M2, k2, a1, a2, a3, a4, a5, a6⟩ := emit (M := 0) (k := 0) (z := V) (S := V) (by decide) (Go.Proofs.dv_zero V) (by rw [Int.sub_self]; decide)
  obtain ⟨z1, z2⟩ := sc_law hg0 hg1 hg2 (q := rndI V) hok (rnd_fl V) a1 a2 a3 fun κ h1 h2 => by
    rcases a5 with h3 | ⟨_, j, h3, hj⟩
    · omega
    · have h4 : g * 2 ^ κ < 9007199254740992 * 2 ^ (lam + κ) := by
        rw [Nat.pow_add, ← Nat.mul_assoc]; exact Nat.mul_lt_mul_of_pos_right hg2 (Nat.pow_pos (by decide))
      have : 9007199254740992 * 2 ^ j < 9007199254740992 * 2 ^ (lam + κ) := by omega
      have := (Nat.pow_lt_pow_iff_right (by decide : 1 < 2)).1 (Nat.lt_of_mul_lt_mul_left this)
      omega
  exact ⟨a6 _ z1, z2⟩
end Go.Eng
set_option linter.unusedVariables false
namespace Go.Eng
open Go
theorem growZ_dv {k : Nat} {xs : List Int} : ∀ {q : Int}, Dv k q → (∀ x ∈ xs, Dv k x) → ∀ y ∈ growZ q xs, Dv k y := by
  have one : ∀ {v : Int} {l : List Int}, Dv k v → (∀ y ∈ l, Dv k y) → ∀ y ∈ addZ v l, Dv k y := by
    intro v l hv hl y hy
    unfold addZ at hy
    split at hy
    · exact hl y hy
    · rcases List.mem_cons.1 hy with e | hy
      · rw [e]; exact hv
      · exact hl y hy
  induction xs with
  | nil => intro q hq _; exact one hq fun y hy => by cases hy
  | cons x r ih =>
    intro q hq hx
    have h := hq.add (hx x (List.mem_cons_self ..))
    exact one (h.sub (rnd_dv h)) (ih (rnd_dv h) fun y hy => hx y (List.mem_cons_of_mem _ hy))
theorem vZ_unscale {w : Nat} {us : List Int} : ∀ {M : Nat}, vZ (M * 2 ^ w) (us.map fun u => u * ((2 ^ w : Nat) : Int)) → vZ M us := by
  induction us with
  | nil => intro M _; trivial
  | cons u r ih =>
    intro M h
    obtain ⟨h0, ⟨k, k1, k2⟩, hr⟩ := h
    dsimp only at h0 k2 hr
    have hw : 0 < 2 ^ w := Nat.pow_pos (by decide)
    have hu0 : u ≠ 0 := fun e => h0 (by rw [e, Int.zero_mul])
    have ha : (u * ((2 ^ w : Nat) : Int)).natAbs = u.natAbs * 2 ^ w := by rw [Int.natAbs_mul, Int.natAbs_natCast]
    rw [ha] at hr
    refine ⟨hu0, ?_, ih hr⟩
    rcases Nat.lt_or_ge k w with c | c
    · refine ⟨0, ?_, Go.Proofs.dv_zero u⟩
      have h1 : 2 ^ k ≤ 2 ^ w := Nat.pow_le_pow_right (by decide) (Nat.le_of_lt c)
      have h2 : M * 2 ^ w < 1 * 2 ^ w := by omega
      have := Nat.lt_of_mul_lt_mul_right h2
      omega
    · obtain ⟨d, rfl⟩ : ∃ d, k = d + w := ⟨k - w, by omega⟩
      rw [Nat.pow_add] at k1
      refine ⟨d, Nat.lt_of_mul_lt_mul_right k1, ?_⟩
      obtain ⟨z, e1, e2⟩ := k2.split
      have : u = z := Int.eq_of_mul_eq_mul_right (by omega) e1
      rw [this]; exact e2
theorem below_sum {u su : Int} {k k' : Nat} (hu : u ≠ 0) (h1 : su.natAbs < 2 ^ k) (h2 : Dv k u) (h3 : u.natAbs < 2 ^ k') : (su + u).natAbs < 2 ^ k' := by
  obtain ⟨m, em⟩ := h2.abs
  have hkk : k ≤ k' := Nat.le_of_lt ((Nat.pow_lt_pow_iff_right (by decide)).1 (Nat.lt_of_le_of_lt (h2.ge hu) h3))
  obtain ⟨d, rfl⟩ : ∃ d, k' = d + k := ⟨k' - k, by omega⟩
  rw [Nat.pow_add] at h3 ⊢
  rw [em] at h3
  have hmd := Nat.lt_of_mul_lt_mul_right h3
  have h5 : (m + 1) * 2 ^ k ≤ 2 ^ d * 2 ^ k := Nat.mul_le_mul_right _ hmd
  rw [Nat.add_mul, Nat.one_mul, ← em] at h5
  have := Int.natAbs_add_le su u
  omega
theorem ok_of_vZ {c : Int} (hc : c ≠ 0) {us : List Int} : ∀ {prev : Nat} {su : Int}, vZ prev us → (∀ k, prev < 2 ^ k → su.natAbs < 2 ^ k) → okZ c.natAbs (su * c) (prev * c.natAbs) (us.map fun u => u * c) := by
  induction us with
  | nil => intro prev su _ _; trivial
  | cons u r ih =>
    intro prev su h H
    obtain ⟨h0, ⟨k, k1, k2⟩, hr⟩ := h
    have hg : 0 < c.natAbs := by omega
    refine ⟨⟨k, ?_, ?_, ?_⟩, ?_⟩
    · rw [Int.natAbs_mul, Nat.mul_comm]; exact Nat.mul_lt_mul_of_pos_left (H k k1) hg
    · rw [Nat.mul_comm]; exact Nat.mul_lt_mul_of_pos_left k1 hg
    · obtain ⟨z, hz⟩ := k2
      have hz0 : z ≠ 0 := fun e => h0 (by rw [hz, e, Int.zero_mul])
      by_cases hn : c < 0
      · refine ⟨-z, by omega, ?_⟩
        have e : ((c.natAbs : Nat) : Int) = -c := by omega
        rw [Int.natCast_mul, e, hz, Int.neg_mul, Int.neg_mul, Int.mul_neg, Int.neg_neg]
        ac_rfl
      · refine ⟨z, hz0, ?_⟩
        have e : ((c.natAbs : Nat) : Int) = c := by omega
        rw [Int.natCast_mul, e, hz]
        ac_rfl
    · have := ih (prev := u.natAbs) (su := su + u) hr fun k' hk' => below_sum h0 (H k k1) k2 hk'
      rw [Int.add_mul, ← Int.natAbs_mul] at this
      exact this
end Go.Eng
namespace Go.Proofs
open Go Go.Eng
theorem growP_lin {K : Nat} (hK : K ≤ 2045) {Bd : Nat} {xs : List Int} : ∀ {q : Int} {out : List Int}, isFin q = true → (∀ x ∈ xs, isFin x = true ∧ (fV x).natAbs ≤ Bd) → (fV q).natAbs + xs.length * (2 * Bd) ≤ 2 ^ (46 + K) →
    ∃ l, growP out q xs = some (out ++ l) ∧ (∀ y ∈ l, isFin y = true ∧ (fV y).natAbs ≤ (fV q).natAbs + xs.length * (2 * Bd)) ∧ l.map fV = growZ (fV q) (xs.map fV) := by
  induction xs with
  | nil =>
    intro q out fq _ _
    refine ⟨if fV q = 0 then [] else [q], ?_, ?_, ?_⟩
    · show some (addL out q) = _
      rw [addL_eq fq]
    · intro y hy
      split at hy
      · cases hy
      · rw [List.mem_singleton.1 hy]
        exact ⟨fq, by omega⟩
    · show _ = addZ (fV q) []
      unfold addZ
      split <;> rfl
  | cons x r ih =>
    intro q out fq hx hb
    obtain ⟨fx, bx⟩ := hx x (List.mem_cons_self ..)
    rw [List.length_cons, Nat.succ_mul] at hb ⊢
    obtain ⟨s1, s2, s3, s4, s5⟩ := sum_law fq fx hK (by omega) (by omega)
    have n1 := rnd_err (y := fV x) (fl_fV q)
    rw [← s3] at n1 s4
    obtain ⟨l, l1, l2, l3⟩ := ih (q := sumH q x) (out := addL out (sumL q x)) s1 (fun y hy => hx y (List.mem_cons_of_mem _ hy)) (by omega)
    refine ⟨(if fV (sumL q x) = 0 then [] else [sumL q x]) ++ l, ?_, ?_, ?_⟩
    · show (if sumOk (sumH q x) (sumL q x) q x then growP (addL out (sumL q x)) (sumH q x) r else none) = _
      rw [s5, if_pos rfl, l1, addL_eq s2, List.append_assoc]
    · intro y hy
      rcases List.mem_append.1 hy with hy | hy
      · split at hy
        · cases hy
        · rw [List.mem_singleton.1 hy]
          exact ⟨s2, by omega⟩
      · obtain ⟨y1, y2⟩ := l2 y hy
        exact ⟨y1, by omega⟩
    · rw [List.map_append, l3, List.map_cons]
      show _ = addZ (fV q + fV x - rndI (fV q + fV x)) (growZ (rndI (fV q + fV x)) (r.map fV))
      rw [← s3, ← s4]
      unfold addZ
      split <;> rfl
/-- All are multiples of 2^k. -/
def MulD (k : Nat) (xs : List Int) : Prop := ∀ x ∈ xs, Dv k (fV x)
theorem grow_good2 {b c : Nat} {xs : List Int} {q : Int} (G : Good b xs) (fq : isFin q = true) (hq : (fV q).natAbs ≤ 2 ^ b) (hc : 2 * xs.length + 1 ≤ 2 ^ c) (hb : b + c ≤ 2091) :
    ∃ l, growP [] q xs = some l ∧ Good (b + c) l ∧ (l.map fV).sum = fV q + (xs.map fV).sum ∧ l.length ≤ xs.length + 1 ∧ ∀ k, Dv k (fV q) → MulD k xs → MulD k l := by
  have hm : (fV q).natAbs + xs.length * (2 * 2 ^ b) ≤ 2 ^ (b + c) := by
    have h1 : (2 * xs.length + 1) * 2 ^ b ≤ 2 ^ c * 2 ^ b := Nat.mul_le_mul_right _ hc
    rw [Nat.add_mul, Nat.one_mul, Nat.mul_comm 2 xs.length, Nat.mul_assoc] at h1
    rw [Nat.pow_add, Nat.mul_comm (2 ^ b)]
    omega
  have hle := p2le (a := b + c) (b := 46 + 2045) hb
  obtain ⟨l, l1, l2, l3⟩ := growP_lin (K := 2045) (Nat.le_refl _) (Bd := 2 ^ b) (out := []) fq G.fin (Nat.le_trans hm hle)
  rw [List.nil_append] at l1
  refine ⟨l, l1, ⟨fun y hy => ⟨(l2 y hy).1, Nat.le_trans (l2 y hy).2 hm⟩, ?_⟩, ?_, ?_, fun k dq dx y hy => ?_⟩
  · rw [l3]
    refine growZ_valid G.val (fun x hx => ?_) (fl_fV q) ⟨0, by decide, dv_zero _⟩
    obtain ⟨y, _, rfl⟩ := List.mem_map.1 hx
    exact fl_fV y
  · rw [l3, growZ_sum]
  · have := growP_len l1
    rw [List.length_nil] at this; omega
  · refine growZ_dv dq (fun x hx => ?_) (fV y) (by rw [← l3]; exact List.mem_map.2 ⟨y, hy, rfl⟩)
    obtain ⟨z, hz, rfl⟩ := List.mem_map.1 hx
    exact dx z hz
theorem sum_good2 {c N : Nat} (hN : 2 * N + 1 ≤ 2 ^ c) {ys : List Int} : ∀ {b : Nat} {xs : List Int}, Good b xs → (∀ y ∈ ys, isFin y = true ∧ (fV y).natAbs ≤ 2 ^ b) → xs.length + ys.length ≤ N → b + ys.length * c ≤ 2091 →
    ∃ l, sumP xs ys = some l ∧ Good (b + ys.length * c) l ∧ (l.map fV).sum = (xs.map fV).sum + (ys.map fV).sum ∧ l.length ≤ xs.length + ys.length := by
  induction ys with
  | nil => intro b xs G _ _ _; exact ⟨xs, rfl, G.mono (Nat.le_add_right _ _), by simp, by simp⟩
  | cons y r ih =>
    intro b xs G hy hl hb
    rw [List.length_cons] at hl hb ⊢
    rw [Nat.succ_mul] at hb ⊢
    obtain ⟨fy, by1⟩ := hy y (List.mem_cons_self ..)
    obtain ⟨l, l1, l2, l3, l4, -⟩ := grow_good2 (c := c) G fy by1 (by omega) (by omega)
    obtain ⟨m, m1, m2, m3, m4⟩ := ih (b := b + c) l2 (fun z hz => ⟨(hy z (List.mem_cons_of_mem _ hz)).1, Nat.le_trans (hy z (List.mem_cons_of_mem _ hz)).2 (p2le (a := b) (b := b + c) (by omega))⟩) (by omega) (by omega)
    refine ⟨m, ?_, m2.mono (by omega), ?_, by omega⟩
    · show (match growP [] y xs with | some l => sumP l r | none => none) = some m
      rw [l1]; exact m1
    · rw [m3, l3, List.map_cons, List.sum_cons]; omega
/-- A float that is a great multiple is a normal one. -/
theorem norm_of {x : Int} (h0 : fV x ≠ 0) (hd : Dv 822 (fV x)) : 4503599627370496 ≤ fM x ∧ 769 ≤ (fX x + 1074).toNat := by
  have hA : (fV x).natAbs = fM x * 2 ^ (fX x + 1074).toNat := by unfold fV; rw [signed_abs]
  have hM := fM_lt x
  have hge := hd.ge h0
  rw [hA] at hge
  have ht : 769 ≤ (fX x + 1074).toNat := by
    apply Nat.le_of_not_lt
    intro k
    have h5 := p2le (a := (fX x + 1074).toNat + 53) (b := 821) (by omega)
    have h6 := p2lt (a := 821) (b := 822) (by omega)
    rw [Nat.pow_add] at h5
    have e53 : (2 : Nat) ^ 53 = 9007199254740992 := by decide
    rw [e53] at h5
    have h7 : fM x * 2 ^ (fX x + 1074).toNat ≤ 9007199254740992 * 2 ^ (fX x + 1074).toNat := Nat.mul_le_mul_right _ (Nat.le_of_lt hM)
    rw [Nat.mul_comm] at h5
    omega
  refine ⟨?_, ht⟩
  unfold fX at ht
  unfold fM
  by_cases c : fE x = 0
  · rw [if_pos c] at ht; omega
  · rw [if_neg c]; omega
end Go.Proofs
set_option linter.unusedVariables false
namespace Go.Proofs
open Go Go.Eng
/-- A float's value, in units of 2^w. -/
def uV (w : Nat) (x : Int) : Int := fV x / ((2 ^ w : Nat) : Int)
theorem uV_eq {w : Nat} {x : Int} (h : Dv w (fV x)) : fV x = uV w x * ((2 ^ w : Nat) : Int) := by
  obtain ⟨z, hz⟩ := h
  have hp : ((2 ^ w : Nat) : Int) ≠ 0 := by have : 0 < 2 ^ w := Nat.pow_pos (by decide); omega
  unfold uV
  rw [hz, Int.mul_ediv_cancel _ hp]
theorem prod_at {x b c : Int} {w W m : Nat} (hw : w = 252) (hW : W = 1074) (hm : m = 822) (fx : isFin x = true) (fb : isFin b = true) (hc : fV b = c * ((2 ^ m : Nat) : Int)) (x0 : fV x ≠ 0) (b0 : fV b ≠ 0) (dx : Dv 822 (fV x)) (db : Dv 822 (fV b)) {K : Nat} (hK : K ≤ 2045)
    (bx : (fV x).natAbs < 2 ^ (25 + K)) (bb : (fV b).natAbs < 2 ^ (25 + K)) (bV : (uV w x * c).natAbs ≤ 2 ^ (44 + K)) :
    fV x * fV b = uV w x * c * ((2 ^ W : Nat) : Int) ∧ isFin (prdH x b) = true ∧ isFin (prdL x b) = true ∧ fV (prdH x b) = rndI (uV w x * c) ∧ fV (prdL x b) = uV w x * c - rndI (uV w x * c) ∧ prdOk x b = true := by
  obtain ⟨n1, t1⟩ := norm_of x0 dx
  obtain ⟨n2, t2⟩ := norm_of b0 db
  have hu := uV_eq (w := w) (dx.mono (by omega))
  have hV : fV x * fV b = uV w x * c * ((2 ^ W : Nat) : Int) := by
    have e : W = w + m := by omega
    rw [hu, hc, e, Nat.pow_add, Int.natCast_mul]
    ac_rfl
  obtain ⟨d, hd⟩ : ∃ d, (fX x + 1074).toNat + (fX b + 1074).toNat = d + W := ⟨(fX x + 1074).toNat + (fX b + 1074).toNat - W, by omega⟩
  exact ⟨hV, prod_law fx fb n1 n2 hW hd hK bx bb hV bV⟩
theorem scaleP_fV {K : Nat} (hK : K ≤ 2045) {b c : Int} {w W m : Nat} (hw : w = 252) (hW : W = 1074) (hm : m = 822) (fb : isFin b = true) (hc : fV b = c * ((2 ^ m : Nat) : Int)) (b0 : fV b ≠ 0) (db : Dv 822 (fV b)) (bb : (fV b).natAbs < 2 ^ (25 + K)) {Bd : Nat} (hBd : Bd ≤ 2 ^ (44 + K)) {rest : List Int} : ∀ {q : Int} {out : List Int} {C : Nat}, isFin q = true → (fV q).natAbs ≤ C →
    (∀ x ∈ rest, isFin x = true ∧ fV x ≠ 0 ∧ Dv 822 (fV x) ∧ (fV x).natAbs < 2 ^ (25 + K) ∧ (uV w x * c).natAbs ≤ Bd) → fsZ (fV q) (rest.map fun x => uV w x * c) → C + rest.length * (6 * Bd) ≤ 2 ^ (44 + K) →
    ∃ l, scaleP out q b rest = some (out ++ l) ∧ (∀ y ∈ l, isFin y = true ∧ (fV y).natAbs ≤ C + rest.length * (6 * Bd)) ∧ l.map fV = scZ (fV q) (rest.map fun x => uV w x * c) := by
  induction rest with
  | nil =>
    intro q out C fq hC _ _ _
    refine ⟨if fV q = 0 then [] else [q], ?_, ?_, ?_⟩
    · show some (addL out q) = _
      rw [addL_eq fq]
    · intro y hy
      split at hy
      · cases hy
      · rw [List.mem_singleton.1 hy]
        exact ⟨fq, by omega⟩
    · show _ = addZ (fV q) []
      unfold addZ
      split <;> rfl
  | cons x r ih =>
    intro q out C fq hC hx hf hb
    obtain ⟨fx, x0, dx, bx, bV⟩ := hx x (List.mem_cons_self ..)
    rw [List.length_cons, Nat.succ_mul] at hb ⊢
    rw [List.map_cons] at hf ⊢
    obtain ⟨hf1, hf2⟩ := hf
    obtain ⟨-, p1, p2, p3, p4, p5⟩ := prod_at hw hW hm fx fb hc x0 b0 dx db hK bx bb (Nat.le_trans bV hBd)
    have e46 : 2 ^ (46 + K) = 4 * 2 ^ (44 + K) := by rw [show 46 + K = 2 + (44 + K) by omega, Nat.pow_add]
    have hr0 := rnd_nearest Fl.zero (uV w x * c)
    have hr2 := rnd_two (uV w x * c)
    have hsc : scZ (fV q) (uV w x * c :: r.map fun x => uV w x * c) = addZ (fV q + (uV w x * c - rndI (uV w x * c)) - rndI (fV q + (uV w x * c - rndI (uV w x * c)))) (addZ (rndI (uV w x * c) + rndI (fV q + (uV w x * c - rndI (uV w x * c))) - rndI (rndI (uV w x * c) + rndI (fV q + (uV w x * c - rndI (uV w x * c))))) (scZ (rndI (rndI (uV w x * c) + rndI (fV q + (uV w x * c - rndI (uV w x * c))))) (r.map fun x => uV w x * c))) := rfl
    have hdef : scaleP out q b (x :: r) = if prdOk x b then if sumOk (sumH q (prdL x b)) (sumL q (prdL x b)) q (prdL x b) then if sumOk (sumH (prdH x b) (sumH q (prdL x b))) (fstL (prdH x b) (sumH q (prdL x b))) (prdH x b) (sumH q (prdL x b)) then scaleP (addL (addL out (sumL q (prdL x b))) (fstL (prdH x b) (sumH q (prdL x b)))) (sumH (prdH x b) (sumH q (prdL x b))) b r else none else none else none := rfl
    rw [hsc, hdef, p5]
    rw [← p3] at p4
    rw [← p3, ← p4] at hf1 hf2 ⊢
    rw [← p3] at hr0 hr2
    have hV : (fV (prdL x b)).natAbs ≤ Bd := by rw [p4]; omega
    have hT : (fV (prdH x b)).natAbs ≤ 2 * Bd := by omega
    clear hr0 hr2 p3 p4 p5 hsc hdef
    generalize prdH x b = T at *
    generalize prdL x b = t at *
    obtain ⟨s1, s2, s3, s4, s5⟩ := sum_law fq p2 hK (by omega) (by omega)
    have n1 := rnd_err (y := fV t) (fl_fV q)
    rw [← s3] at n1 s4 hf1 hf2 ⊢
    rw [← s4]
    obtain ⟨u1, u2, u3, u4, u5⟩ := fast_law p1 s1 hK (by omega) hf1
    have n2 := rnd_err' (x := fV T) (fl_fV (sumH q t))
    have n3 := rnd_err (y := fV (sumH q t)) (fl_fV T)
    rw [← u3] at n2 n3 u4 hf2 ⊢
    rw [← u4, s5, u5]
    simp only [if_true]
    obtain ⟨l, l1, l2, l3⟩ := ih (q := sumH T (sumH q t)) (out := addL (addL out (sumL q t)) (fstL T (sumH q t))) (C := C + 6 * Bd) u1 (by omega) (fun y hy => hx y (List.mem_cons_of_mem _ hy)) hf2 (by omega)
    refine ⟨(if fV (sumL q t) = 0 then [] else [sumL q t]) ++ ((if fV (fstL T (sumH q t)) = 0 then [] else [fstL T (sumH q t)]) ++ l), ?_, ?_, ?_⟩
    · rw [l1, addL_eq u2, addL_eq s2, List.append_assoc, List.append_assoc]
    · intro y hy
      rcases List.mem_append.1 hy with hy | hy
      · split at hy
        · cases hy
        · rw [List.mem_singleton.1 hy]
          exact ⟨s2, by omega⟩
      · rcases List.mem_append.1 hy with hy | hy
        · split at hy
          · cases hy
          · rw [List.mem_singleton.1 hy]
            exact ⟨u2, by omega⟩
        · obtain ⟨y1, y2⟩ := l2 y hy
          exact ⟨y1, by omega⟩
    · rw [List.map_append, List.map_append, l3]
      unfold addZ
      split <;> split <;> rfl
end Go.Proofs
set_option linter.unusedVariables false
namespace Go.Proofs
open Go Go.Eng
theorem vZ_ne {xs : List Int} : ∀ {b : Nat}, vZ b xs → ∀ v ∈ xs, v ≠ 0 := by
  induction xs with
  | nil => intro b _ v hv; cases hv
  | cons x r ih =>
    intro b h v hv
    rcases List.mem_cons.1 hv with e | hv
    · rw [e]; exact h.1
    · exact ih h.2.2 v hv
theorem Good.ne {b : Nat} {xs : List Int} (G : Good b xs) : ∀ x ∈ xs, fV x ≠ 0 := fun x hx => vZ_ne G.val _ (List.mem_map.2 ⟨x, hx, rfl⟩)
theorem fl_top {b c : Int} {m : Nat} (hc : fV b = c * ((2 ^ m : Nat) : Int)) : ∃ lam, Dv lam ((c.natAbs : Nat) : Int) ∧ c.natAbs < 9007199254740992 * 2 ^ lam := by
  have hA : (fV b).natAbs = fM b * 2 ^ (fX b + 1074).toNat := by unfold fV; rw [signed_abs]
  have hM := fM_lt b
  have hs := abs_scale hc
  rw [hA] at hs
  generalize (fX b + 1074).toNat = t at *
  rcases Nat.le_total m t with h | h
  · obtain ⟨s, rfl⟩ : ∃ s, t = s + m := ⟨t - m, by omega⟩
    rw [Nat.pow_add, ← Nat.mul_assoc] at hs
    have e := Nat.eq_of_mul_eq_mul_right (Nat.pow_pos (by decide)) hs
    refine ⟨s, ⟨(fM b : Int), by rw [← e, Int.natCast_mul]⟩, ?_⟩
    rw [← e]; exact Nat.mul_lt_mul_of_pos_right hM (Nat.pow_pos (by decide))
  · obtain ⟨s, rfl⟩ : ∃ s, m = s + t := ⟨m - t, by omega⟩
    rw [Nat.pow_add, ← Nat.mul_assoc] at hs
    have e := Nat.eq_of_mul_eq_mul_right (Nat.pow_pos (by decide)) hs
    have : c.natAbs * 1 ≤ c.natAbs * 2 ^ s := Nat.mul_le_mul_left _ (Nat.pow_pos (by decide))
    exact ⟨0, dv_zero _, by rw [Nat.pow_zero]; omega⟩
theorem sum_scaled {f : Int → Int} {y Z : Int} {xs : List Int} (h : ∀ x ∈ xs, fV x * y = f x * Z) : (xs.map fV).sum * y = (xs.map f).sum * Z := by
  induction xs with
  | nil => simp
  | cons x r ih =>
    rw [List.map_cons, List.map_cons, List.sum_cons, List.sum_cons, Int.add_mul, Int.add_mul, h x (List.mem_cons_self ..), ih fun z hz => h z (List.mem_cons_of_mem _ hz)]
theorem scale_good {e : Nat} (he : e = 1154) {xs : List Int} {b : Int} (G : Good e xs) (dx : MulD 822 xs) (hl : xs.length ≤ 6) (fb : isFin b = true) (hb : (fV b).natAbs ≤ 2 ^ e) (b0 : fV b ≠ 0) (db : Dv 822 (fV b)) {W : Nat} (hW : W = 1074) :
    ∃ l, scaleTop xs b = some l ∧ Good 1240 l ∧ l.length ≤ 12 ∧ (l.map fV).sum * ((2 ^ W : Nat) : Int) = (xs.map fV).sum * fV b := by
  cases xs with
  | nil => exact ⟨[], rfl, Good.nil, by simp, by simp⟩
  | cons x r =>
    obtain ⟨m, hm⟩ : ∃ m, m = 822 := ⟨_, rfl⟩
    obtain ⟨w, hw⟩ : ∃ w, w = 252 := ⟨_, rfl⟩
    obtain ⟨c, hc⟩ : Dv m (fV b) := by rw [hm]; exact db
    have hc0 : c ≠ 0 := fun k => b0 (by rw [hc, k, Int.zero_mul])
    obtain ⟨lam, g1, g2⟩ := fl_top hc
    obtain ⟨E, hE⟩ : ∃ E, E = 1234 := ⟨_, rfl⟩
    have hu : ∀ z ∈ (x :: r), fV z = uV w z * ((2 ^ w : Nat) : Int) := fun z hz => uV_eq ((dx z hz).mono (by omega))
    have hlt25 := p2lt (a := e) (b := 25 + 2045) (by omega)
    have hprod : ∀ z ∈ (x :: r), fV z * fV b = uV w z * c * ((2 ^ W : Nat) : Int) := fun z hz => by
      have e2 : W = w + m := by omega
      rw [hu z hz, hc, e2, Nat.pow_add, Int.natCast_mul]
      ac_rfl
    have hBd : ∀ z ∈ (x :: r), (uV w z * c).natAbs ≤ 2 ^ E := fun z hz => by
      have h1 := abs_scale (hprod z hz)
      rw [Int.natAbs_mul] at h1
      have h2 : (fV z).natAbs * (fV b).natAbs ≤ 2 ^ e * 2 ^ e := Nat.mul_le_mul (G.fin z hz).2 hb
      have e3 : 2 ^ e * 2 ^ e = 2 ^ E * 2 ^ W := by rw [← Nat.pow_add, ← Nat.pow_add, show e + e = E + W by omega]
      rw [h1, e3] at h2
      exact Nat.le_of_mul_le_mul_right h2 (Nat.pow_pos (by decide))
    have hE44 := p2le (a := E) (b := 44 + 2045) (by omega)
    have h5 : 2 ^ (E + 5) = 32 * 2 ^ E := by rw [Nat.pow_add, Nat.mul_comm]
    have h5le := p2le (a := E + 5) (b := 44 + 2045) (by omega)
    have hxm : x ∈ x :: r := List.mem_cons_self ..
    obtain ⟨-, p1, p2, p3, p4, p5⟩ := prod_at (K := 2045) hw hW hm (G.fin x hxm).1 fb hc (G.ne x hxm) b0 (dx x hxm) db (Nat.le_refl _) (Nat.lt_of_le_of_lt (G.fin x hxm).2 hlt25) (Nat.lt_of_le_of_lt hb hlt25) (Nat.le_trans (hBd x hxm) hE44)
    have hvu : vZ 0 ((x :: r).map (uV w)) := by
      refine vZ_unscale (w := w) ?_
      rw [Nat.zero_mul, List.map_map]
      have : (x :: r).map fV = (x :: r).map ((fun u => u * ((2 ^ w : Nat) : Int)) ∘ uV w) := List.map_congr_left fun z hz => hu z hz
      rw [← this]; exact G.val
    have hok := ok_of_vZ hc0 (su := 0) hvu (fun k _ => Nat.pow_pos (by decide))
    rw [List.map_map, List.map_cons] at hok
    obtain ⟨-, hok2⟩ := hok
    rw [Int.zero_mul, Int.zero_add] at hok2
    obtain ⟨z1, z2⟩ := scTop_law (V := uV w x * c) (Vs := r.map fun z => uV w z * c) (by omega) g1 g2 hok2
    rw [← p3] at z2
    have hr0 := rnd_nearest Fl.zero (uV w x * c)
    have hr2 := rnd_two (uV w x * c)
    have hx2 := hBd x hxm
    have hrl : r.length ≤ 5 := by rw [List.length_cons] at hl; omega
    have hlen : r.length * (6 * 2 ^ E) ≤ 30 * 2 ^ E := by
      have : r.length * (6 * 2 ^ E) ≤ 5 * (6 * 2 ^ E) := Nat.mul_le_mul_right _ hrl
      omega
    obtain ⟨l, l1, l2, l3⟩ := scaleP_fV (K := 2045) (Nat.le_refl _) hw hW hm fb hc b0 db (Nat.lt_of_le_of_lt hb hlt25) (Bd := 2 ^ E) hE44 (rest := r) (q := prdH x b) (out := addL [] (prdL x b)) (C := 2 * 2 ^ E) p1 (by rw [p3]; omega)
      (fun z hz => have hz' := List.mem_cons_of_mem x hz; ⟨(G.fin z hz').1, G.ne z hz', dx z hz', Nat.lt_of_le_of_lt (G.fin z hz').2 hlt25, hBd z hz'⟩) z2 (by omega)
    have hcls : ¬ cls b = 0 := fun k => b0 ((cls_zero fb).1 k)
    have htop : scaleTop (x :: r) b = some (addL [] (prdL x b) ++ l) := by
      show (if cls b = 0 then some [] else if prdOk x b then scaleP (addL [] (prdL x b)) (prdH x b) b r else none) = _
      rw [if_neg hcls, p5, if_pos rfl, l1]
    have hadd : addL [] (prdL x b) = if fV (prdL x b) = 0 then [] else [prdL x b] := by rw [addL_eq p2, List.nil_append]
    have hmap : (addL [] (prdL x b) ++ l).map fV = addZ (uV w x * c - rndI (uV w x * c)) (scZ (rndI (uV w x * c)) (r.map fun z => uV w z * c)) := by
      rw [hadd, List.map_append, l3, p3, ← p4]
      unfold addZ
      split <;> rfl
    have hlen2 := scaleTop_len htop
    refine ⟨_, htop, ⟨fun y hy => ?_, by rw [hmap]; exact z1⟩, by omega, ?_⟩
    · have h40 := p2le (a := E + 5) (b := 1240) (by omega)
      rcases List.mem_append.1 hy with hy | hy
      · rw [hadd] at hy
        split at hy
        · cases hy
        · rw [List.mem_singleton.1 hy]
          exact ⟨p2, Nat.le_trans (by rw [p4]; omega) h40⟩
      · exact ⟨(l2 y hy).1, Nat.le_trans (l2 y hy).2 (Nat.le_trans (by omega) h40)⟩
    · rw [sum_scaled hprod, hmap, addZ_sum, scZ_sum, List.map_cons, List.sum_cons]
      rw [show uV w x * c - rndI (uV w x * c) + (rndI (uV w x * c) + (r.map fun z => uV w z * c).sum) = uV w x * c + (r.map fun z => uV w z * c).sum by omega]
/-- Expansions multiplied. -/
theorem prod_good {e : Nat} (he : e = 1154) {xs : List Int} (G : Good e xs) (dx : MulD 822 xs) (hl : xs.length ≤ 6) {W : Nat} (hW : W = 1074) {ys : List Int} : ∀ {b : Nat} {hs : List Int}, Good b hs → 1240 ≤ b → (∀ y ∈ ys, isFin y = true ∧ (fV y).natAbs ≤ 2 ^ e ∧ fV y ≠ 0 ∧ Dv 822 (fV y)) → hs.length + 12 * ys.length ≤ 100 → b + ys.length * 96 ≤ 2091 →
    ∃ l, prodP xs hs ys = some l ∧ Good (b + ys.length * 96) l ∧ (l.map fV).sum * ((2 ^ W : Nat) : Int) = (hs.map fV).sum * ((2 ^ W : Nat) : Int) + (xs.map fV).sum * (ys.map fV).sum ∧ l.length ≤ hs.length + 12 * ys.length := by
  induction ys with
  | nil => intro b hs H _ _ _ _; exact ⟨hs, rfl, H.mono (Nat.le_add_right _ _), by simp, by simp⟩
  | cons y r ih =>
    intro b hs H hb hy hlen hbb
    rw [List.length_cons] at hlen hbb ⊢
    rw [Nat.succ_mul] at hbb ⊢
    obtain ⟨y1, y2, y3, y4⟩ := hy y (List.mem_cons_self ..)
    obtain ⟨s, s1, s2, s3, s4⟩ := scale_good he G dx hl y1 y2 y3 y4 hW
    obtain ⟨l, l1, l2, l3, l4⟩ := sum_good2 (c := 8) (N := 112) (by decide) H (fun z hz => (s2.mono hb).fin z hz) (by omega) (by omega)
    obtain ⟨n, n1, n2, n3, n4⟩ := ih (b := b + 96) (l2.mono (by omega)) (by omega) (fun z hz => hy z (List.mem_cons_of_mem _ hz)) (by omega) (by omega)
    refine ⟨n, ?_, n2.mono (by omega), ?_, by omega⟩
    · show (match scaleTop xs y with | some s => (match sumP hs s with | some l => prodP xs l r | none => none) | none => none) = some n
      rw [s1]
      show (match sumP hs s with | some l => prodP xs l r | none => none) = some n
      rw [l1]; exact n1
    · rw [n3, l3, Int.add_mul, s4, List.map_cons, List.sum_cons, Int.mul_add]; omega
end Go.Proofs
