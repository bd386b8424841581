import Derived.Test.YtedmhkimbbkdgaaGreatFmtA33
import Derived.Test.YtedmhkimbbkdgaaGreatFmtA40
import Derived.Test.YtedmhkimbbkdgaaGreatFmtA39
import Derived.Test.YtedmhkimbbkdgaaGreatFmtA57
import Derived.Test.YtedmhkimbbkdgaaGreatFmtA74
import Derived.Test.YtedmhkimbbkdgaaGreatFmtA73
import Derived.Test.YtedmhkimbbkdgaaGreatFmtA46
import Derived.Test.YtedmhkimbbkdgaaGreatFmtA71
import Derived.Test.YtedmhkimbbkdgaaGreatFmtA27
import Derived.Test.YtedmhkimbbkdgaaGreatFmtA32
import Derived.Test.YtedmhkimbbkdgaaGreatFmtA70
/- Here stand lemmas: the parts of a number, and the walk of ExpansionBack. -/
set_option linter.unusedVariables false
set_option linter.unusedVariables false
/-! Rounding in four ways: neighbours around the number, the nearest, signs, order. -/
namespace Go.Proofs
open Go Go.Eng
theorem pz_wf {a : Int} (ia : I64 a) (na : isNaN a = false) : I64 (pz a) ∧ isNaN (pz a) = false ∧ isFin (pz a) = isFin a ∧ fV (pz a) = fV a := by
  unfold pz
  split
  · rename_i h
    subst h
    exact ⟨by unfold I64; omega, by decide, by decide, by decide⟩
  · exact ⟨ia, na, rfl, rfl⟩
/-- What round.To tells. -/
def toR (w : Nat) (v : Int) (K : Nat) : Int := pz (dirV w v (-(K : Int)))
theorem toR_wf (w : Nat) (v : Int) (K : Nat) : I64 (toR w v K) ∧ isNaN (toR w v K) = false ∧ rk (toR w v K) = rk (dirV w v (-(K : Int))) ∧ isFin (toR w v K) = isFin (dirV w v (-(K : Int))) ∧ fV (toR w v K) = fV (dirV w v (-(K : Int))) := by
  obtain ⟨a, b, c, d⟩ := pz_wf (dirV_I64 w v (-(K : Int))) (dirV_nan w v (-(K : Int)))
  exact ⟨a, b, rk_pz _, c, d⟩
end Go.Proofs
set_option linter.unusedVariables false
/-! A number's parts: the nearest float, then of what is left, till nothing is left. -/
namespace Go.Eng
open Go
theorem rnd_less {r : Int} (h : r ≠ 0) : (r - rndI r).natAbs < r.natAbs := by
  rcases rnd_cases r with e | ⟨j, h1, h2, h3, h4⟩
  · rw [e, Int.sub_self]; show 0 < _; omega
  · have : 0 < 2 ^ j := Nat.pow_pos (by decide)
    omega
theorem rnd_nz {r : Int} (h : r ≠ 0) : rndI r ≠ 0 := fun e => by
  have := rnd_less h
  rw [e, Int.sub_zero] at this
  exact Nat.lt_irrefl _ this
def parts (r : Int) : List Int := if h : r = 0 then [] else rndI r :: parts (r - rndI r)
 termination_by r.natAbs
 decreasing_by exact rnd_less h
theorem parts_zero : parts 0 = [] := by rw [parts]; simp
theorem parts_ne {r : Int} (h : r ≠ 0) : parts r = rndI r :: parts (r - rndI r) := by rw [parts, dif_neg h]
theorem parts_ind {C : Int → Prop} (h0 : C 0) (h1 : ∀ r, r ≠ 0 → C (r - rndI r) → C r) (r : Int) : C r := by
  have go : ∀ (n : Nat) (r : Int), r.natAbs ≤ n → C r := by
    intro n
    induction n with
    | zero => intro r h; have : r = 0 := by omega
              rw [this]; exact h0
    | succ n ih =>
      intro r h
      by_cases hr : r = 0
      · rw [hr]; exact h0
      · exact h1 r hr (ih _ (by have := rnd_less hr; omega))
  exact go _ r (Nat.le_refl _)
theorem parts_sum (r : Int) : (parts r).sum = r := by
  refine parts_ind (C := fun r => (parts r).sum = r) (by rw [parts_zero]; rfl) (fun r hr ih => ?_) r
  rw [parts_ne hr, List.sum_cons, ih]; omega
theorem rnd_pow {r : Int} {M : Nat} (h : r.natAbs ≤ 2 ^ M) : (rndI r).natAbs ≤ 2 ^ M := by
  have hf : Fl ((2 ^ M : Nat) : Int) := ⟨1, M, by rw [Nat.one_mul, Int.natAbs_natCast], by decide⟩
  have h1 := rnd_nearest hf r
  have h2 := rnd_nearest hf.neg r
  generalize 2 ^ M = P at *
  omega
theorem parts_le {M : Nat} (r : Int) : r.natAbs ≤ 2 ^ M → ∀ y ∈ parts r, y.natAbs ≤ 2 ^ M := by
  refine parts_ind (C := fun r => r.natAbs ≤ 2 ^ M → ∀ y ∈ parts r, y.natAbs ≤ 2 ^ M) (fun _ y hy => by rw [parts_zero] at hy; cases hy) (fun r hr ih h y hy => ?_) r
  rw [parts_ne hr] at hy
  rcases List.mem_cons.1 hy with e | hy
  · rw [e]; exact rnd_pow h
  · exact ih (Nat.le_trans (Nat.le_of_lt (rnd_less hr)) h) y hy
theorem vZ_snoc {w v : Int} : ∀ {b : Nat} {l : List Int}, vZ b (l ++ [w]) → v ≠ 0 → (∃ k, w.natAbs < 2 ^ k ∧ Dv k v) → vZ b (l ++ [w] ++ [v])
  | b, [], h, h0, hk => ⟨h.1, h.2.1, h0, hk, trivial⟩
  | b, x :: l, h, h0, hk => ⟨h.1, h.2.1, vZ_snoc h.2.2 h0 hk⟩
/-- The parts, the least first, do not overlap. -/
theorem parts_vZ (r : Int) : vZ 0 (parts r).reverse := by
  refine parts_ind (C := fun r => vZ 0 (parts r).reverse) (by rw [parts_zero]; trivial) (fun r hr ih => ?_) r
  rw [parts_ne hr, List.reverse_cons]
  by_cases h1 : r - rndI r = 0
  · rw [h1, parts_zero]
    exact ⟨rnd_nz hr, ⟨0, by decide, rndI r, by rw [Nat.pow_zero]; omega⟩, trivial⟩
  · rw [parts_ne h1, List.reverse_cons] at ih ⊢
    refine vZ_snoc ih (rnd_nz hr) ?_
    rcases rnd_cases r with e | ⟨j, j1, j2, j3, j4⟩
    · exact absurd (by rw [e, Int.sub_self]) h1
    · refine ⟨j + 1, ?_, j3⟩
      have := rnd_pow (r := r - rndI r) (M := j) (by omega)
      have hp : 0 < 2 ^ j := Nat.pow_pos (by decide)
      rw [Nat.pow_succ]; omega
/-- How many summands have a last place below. -/
def cntP (κ : Nat) : List (Int × Nat) → Nat
  | [] => 0
  | p :: r => (if p.2 < κ then 1 else 0) + cntP κ r
def lowP (κ : Nat) : List (Int × Nat) → Int
  | [] => 0
  | p :: r => (if p.2 < κ then p.1 else 0) + lowP κ r
def totP : List (Int × Nat) → Int
  | [] => 0
  | p :: r => p.1 + totP r
def FlP (ps : List (Int × Nat)) : Prop := ∀ p ∈ ps, Dv p.2 p.1 ∧ p.1.natAbs ≤ 9007199254740992 * 2 ^ p.2
theorem cnt_le (κ : Nat) : ∀ ps, cntP κ ps ≤ ps.length
  | [] => Nat.le_refl _
  | p :: r => by
    have := cnt_le κ r
    unfold cntP
    rw [List.length_cons]
    split <;> omega
theorem low_dv {κ : Nat} : ∀ {ps}, FlP ps → Dv κ (totP ps - lowP κ ps)
  | [], _ => Dv.zero
  | p :: r, F => by
    have ih := low_dv (κ := κ) (ps := r) fun q hq => F q (List.mem_cons_of_mem _ hq)
    have hp := (F p (List.mem_cons_self ..)).1
    unfold totP lowP
    split
    · rw [show p.1 + totP r - (p.1 + lowP κ r) = totP r - lowP κ r by omega]; exact ih
    · rw [show p.1 + totP r - (0 + lowP κ r) = p.1 + (totP r - lowP κ r) by omega]
      exact (hp.mono (by omega)).add ih
theorem low_bd {κ k : Nat} : ∀ {ps}, FlP ps → (∀ p ∈ ps, p.2 < κ → p.2 ≤ k) → (lowP κ ps).natAbs ≤ ps.length * (9007199254740992 * 2 ^ k)
  | [], _, _ => Nat.zero_le _
  | p :: r, F, H => by
    have ih := low_bd (κ := κ) (k := k) (ps := r) (fun q hq => F q (List.mem_cons_of_mem _ hq)) fun q hq => H q (List.mem_cons_of_mem _ hq)
    have hp := (F p (List.mem_cons_self ..)).2
    unfold lowP
    rw [List.length_cons, Nat.add_mul, Nat.one_mul]
    split
    · rename_i h
      have h1 : 2 ^ p.2 ≤ 2 ^ k := Nat.pow_le_pow_right (by decide) (H p (List.mem_cons_self ..) h)
      generalize r.length * (9007199254740992 * 2 ^ k) = A at *
      omega
    · generalize r.length * (9007199254740992 * 2 ^ k) = A at *
      omega
theorem cnt_zero {κ : Nat} : ∀ {ps}, cntP κ ps = 0 → lowP κ ps = 0
  | [], _ => rfl
  | p :: r, h => by
    unfold cntP at h
    unfold lowP
    split at h
    · omega
    · rename_i hn
      rw [if_neg hn, cnt_zero (by omega)]; rfl
theorem cnt_max {κ : Nat} : ∀ {ps}, 0 < cntP κ ps → ∃ k, k < κ ∧ (∀ p ∈ ps, p.2 < κ → p.2 ≤ k) ∧ ∃ p ∈ ps, p.2 = k
  | [], h => absurd h (Nat.lt_irrefl 0)
  | p :: r, h => by
    by_cases hr : 0 < cntP κ r
    · obtain ⟨k, k1, k2, q, q1, q2⟩ := cnt_max hr
      by_cases hp : p.2 < κ ∧ k < p.2
      · refine ⟨p.2, hp.1, fun x hx hxk => ?_, p, List.mem_cons_self .., rfl⟩
        rcases List.mem_cons.1 hx with e | hx
        · rw [e]; exact Nat.le_refl _
        · have := k2 x hx hxk; omega
      · refine ⟨k, k1, fun x hx hxk => ?_, q, List.mem_cons_of_mem _ q1, q2⟩
        rcases List.mem_cons.1 hx with e | hx
        · subst e; omega
        · exact k2 x hx hxk
    · have hp : p.2 < κ := by
        unfold cntP at h
        split at h
        · assumption
        · omega
      refine ⟨p.2, hp, fun x hx hxk => ?_, p, List.mem_cons_self .., rfl⟩
      rcases List.mem_cons.1 hx with e | hx
      · rw [e]; exact Nat.le_refl _
      · exfalso
        have : ∀ {ps : List (Int × Nat)}, x ∈ ps → 0 < cntP κ ps := by
          intro ps
          induction ps with
          | nil => intro h; cases h
          | cons q r ih =>
            intro h
            unfold cntP
            rcases List.mem_cons.1 h with e | h
            · subst e; rw [if_pos hxk]; omega
            · have := ih h; omega
        exact hr (this hx)
theorem cnt_mono {κ κ' : Nat} (h : κ' ≤ κ) : ∀ ps, cntP κ' ps ≤ cntP κ ps
  | [] => Nat.le_refl _
  | p :: r => by
    have := cnt_mono h r
    unfold cntP
    split <;> split <;> omega
theorem cnt_lt {κ κ' k : Nat} (h : κ' ≤ k) (hk : k < κ) : ∀ {ps : List (Int × Nat)}, (∃ p ∈ ps, p.2 = k) → cntP κ' ps < cntP κ ps
  | [], h => by obtain ⟨p, hp, _⟩ := h; cases hp
  | q :: r, hx => by
    obtain ⟨p, hp, e⟩ := hx
    have hm := cnt_mono (show κ' ≤ κ by omega) r
    unfold cntP
    rcases List.mem_cons.1 hp with e2 | hp
    · subst e2
      rw [if_neg (by omega), if_pos (by omega)]; omega
    · have := cnt_lt h hk (ps := r) ⟨p, hp, e⟩
      split <;> split <;> omega
theorem pow_le_of {a b : Nat} (h : 2 ^ a ≤ 2 ^ b) : a ≤ b := (Nat.pow_le_pow_iff_right (by decide)).1 h
theorem e53' : (9007199254740992 : Nat) = 2 ^ 53 := by decide
/-- Two parts are enough for a summand. -/
theorem parts_cnt {ps : List (Int × Nat)} (F : FlP ps) (hl : ps.length ≤ 16) : ∀ (n κ : Nat) (r : Int), cntP κ ps ≤ n → Dv κ (totP ps - r) → 2 * r.natAbs ≤ 2 ^ κ → (parts r).length ≤ 2 * n := by
  intro n
  induction n with
  | zero =>
    intro κ r hc hd hr
    have hlow := cnt_zero (show cntP κ ps = 0 by omega)
    have h1 := low_dv (κ := κ) F
    rw [hlow, Int.sub_zero] at h1
    have h2 : Dv κ r := by
      have := h1.sub hd
      rw [show totP ps - (totP ps - r) = r by omega] at this
      exact this
    by_cases h0 : r = 0
    · rw [h0, parts_zero]; exact Nat.le_refl _
    · have := h2.ge h0
      have hp : 0 < 2 ^ κ := Nat.pow_pos (by decide)
      omega
  | succ n ih =>
    intro κ r hc hd hr
    by_cases h0 : r = 0
    · rw [h0, parts_zero]; exact Nat.zero_le _
    have hpos : 0 < cntP κ ps := by
      rcases Nat.eq_zero_or_pos (cntP κ ps) with e | e
      · exfalso
        have h1 := low_dv (κ := κ) F
        rw [cnt_zero e, Int.sub_zero] at h1
        have h2 := h1.sub hd
        rw [show totP ps - (totP ps - r) = r by omega] at h2
        have := h2.ge h0
        have hp : 0 < 2 ^ κ := Nat.pow_pos (by decide)
        omega
      · exact e
    obtain ⟨k, k1, k2, k3⟩ := cnt_max hpos
    have hb : r.natAbs ≤ 2 ^ (57 + k) := by
      have hs := low_bd F k2
      have hs : (lowP κ ps).natAbs ≤ 2 ^ (57 + k) := by
        refine Nat.le_trans hs (Nat.le_trans (Nat.mul_le_mul_right _ hl) ?_)
        rw [e53', ← Nat.pow_add, show (16 : Nat) = 2 ^ 4 by decide, ← Nat.pow_add, show 4 + (53 + k) = 57 + k by omega]
        exact Nat.le_refl _
      rcases Nat.lt_or_ge κ (59 + k) with h | h
      · have : 2 ^ κ ≤ 2 ^ (58 + k) := Nat.pow_le_pow_right (by decide) (by omega)
        rw [show 58 + k = (57 + k) + 1 by omega, Nat.pow_succ] at this
        omega
      · have h1 := low_dv (κ := κ) F
        have h2 := h1.sub hd
        rw [show totP ps - lowP κ ps - (totP ps - r) = r - lowP κ ps by omega] at h2
        have h3 : 2 ^ (59 + k) ≤ 2 ^ κ := Nat.pow_le_pow_right (by decide) h
        rw [show 59 + k = (57 + k) + 2 by omega, Nat.pow_add, show (2 : Nat) ^ 2 = 4 by decide] at h3
        by_cases h4 : r - lowP κ ps = 0
        · have : r = lowP κ ps := by omega
          rw [this]; exact hs
        · have := h2.ge h4
          have hp : 0 < 2 ^ κ := Nat.pow_pos (by decide)
          omega
    rw [parts_ne h0, List.length_cons]
    rcases rnd_cases r with e | ⟨j, j1, j2, j3, j4⟩
    · rw [e, Int.sub_self, parts_zero, List.length_nil]; omega
    have hj : j ≤ k + 4 := by
      have := Nat.le_trans j1 hb
      rw [e53', ← Nat.pow_add] at this
      have := pow_le_of this
      omega
    have hjκ : j + 54 ≤ κ := by
      have h1 : 2 ^ (53 + j) ≤ r.natAbs := by rw [Nat.pow_add, ← e53']; exact j1
      have h2 : 2 ^ (53 + j + 1) ≤ 2 ^ κ := by rw [Nat.pow_succ]; omega
      have := pow_le_of h2
      omega
    have d1 : Dv (j + 1) (totP ps - (r - rndI r)) := by
      have := (hd.mono (show j + 1 ≤ κ by omega)).add j3
      rw [show totP ps - r + rndI r = totP ps - (r - rndI r) by omega] at this
      exact this
    have b1 : (r - rndI r).natAbs ≤ 2 ^ j := by omega
    generalize r - rndI r = r1 at *
    by_cases h1 : r1 = 0
    · rw [h1, parts_zero, List.length_nil]; omega
    rw [parts_ne h1, List.length_cons]
    rcases rnd_cases r1 with e | ⟨i, i1, i2, i3, i4⟩
    · rw [e, Int.sub_self, parts_zero, List.length_nil]; omega
    have hi : i + 53 ≤ j := by
      have := Nat.le_trans i1 b1
      rw [e53', ← Nat.pow_add] at this
      have := pow_le_of this
      omega
    have d2 : Dv (i + 1) (totP ps - (r1 - rndI r1)) := by
      have := (d1.mono (show i + 1 ≤ j + 1 by omega)).add i3
      rw [show totP ps - r1 + rndI r1 = totP ps - (r1 - rndI r1) by omega] at this
      exact this
    have := ih (i + 1) (r1 - rndI r1) (by have := cnt_lt (show i + 1 ≤ k by omega) k1 k3; omega) d2 (by rw [Nat.pow_succ]; omega)
    omega
theorem fl_pairs : ∀ {es : List Int}, (∀ e ∈ es, Fl e) → ∃ ps, FlP ps ∧ ps.length = es.length ∧ totP ps = es.sum
  | [], _ => ⟨[], fun p hp => (by cases hp), rfl, rfl⟩
  | e :: r, H => by
    obtain ⟨ps, p1, p2, p3⟩ := fl_pairs (es := r) fun x hx => H x (List.mem_cons_of_mem _ hx)
    obtain ⟨t, t1, t2⟩ := (H e (List.mem_cons_self ..)).dv
    refine ⟨(e, t) :: ps, fun q hq => ?_, by rw [List.length_cons, List.length_cons, p2], by unfold totP; rw [p3, List.sum_cons]⟩
    rcases List.mem_cons.1 hq with k | hq
    · rw [k]; exact ⟨t1, t2⟩
    · exact p1 q hq
/-- A sum of floats has no more parts than twice as many and one. -/
theorem parts_len {es : List Int} (H : ∀ e ∈ es, Fl e) (hl : es.length ≤ 16) : (parts es.sum).length ≤ 2 * es.length + 1 := by
  obtain ⟨ps, p1, p2, p3⟩ := fl_pairs H
  rw [← p3, ← p2]
  by_cases h0 : totP ps = 0
  · rw [h0, parts_zero]; exact Nat.zero_le _
  rw [parts_ne h0, List.length_cons]
  rcases rnd_cases (totP ps) with e | ⟨j, j1, j2, j3, j4⟩
  · rw [e, Int.sub_self, parts_zero, List.length_nil]; omega
  have := parts_cnt p1 (by omega) ps.length (j + 1) (totP ps - rndI (totP ps)) (cnt_le _ _) (by rw [show totP ps - (totP ps - rndI (totP ps)) = rndI (totP ps) by omega]; exact j3) (by rw [Nat.pow_succ]; omega)
  omega
end Go.Eng
set_option linter.unusedVariables false
namespace Go.Proofs
open Go Go.Eng
/-- The nearest float of a whole number of units. -/
theorem toR_rnd {r : Int} (h : r.natAbs ≤ 2 ^ 1500) : isFin (toR 0 r 1074) = true ∧ fV (toR 0 r 1074) = rndI r := by
  obtain ⟨_, _, _, d, e⟩ := toR_wf 0 r 1074
  rw [d, e]
  unfold dirV
  by_cases h0 : r = 0
  · subst h0
    rw [if_pos rfl]
    exact ⟨by decide, by decide⟩
  · rw [if_neg h0, ← rung_dir]
    have hlt : r.natAbs < 3 * 2 ^ (51 + 2045) := by
      have := p2lt (a := 1500) (b := 51 + 2045) (by omega)
      generalize 2 ^ (51 + 2045) = P at *
      generalize 2 ^ 1500 = Q at *
      omega
    obtain ⟨c1, c2⟩ := rung_fV (decide (r < 0)) (K := 2045) (Nat.le_refl _) hlt
    exact ⟨c1, c2⟩
theorem sum_bd {M : Nat} : ∀ {es : List Int}, (∀ e ∈ es, e.natAbs ≤ 2 ^ M) → es.sum.natAbs ≤ es.length * 2 ^ M
  | [], _ => Nat.zero_le _
  | e :: r, H => by
    have ih := sum_bd (es := r) fun x hx => H x (List.mem_cons_of_mem _ hx)
    have := H e (List.mem_cons_self ..)
    rw [List.sum_cons, List.length_cons, Nat.add_mul, Nat.one_mul]
    generalize r.length * 2 ^ M = A at *
    omega
/-- The parts as floats are an expansion of the number. -/
theorem parts_good {x : Int} (hx : x.natAbs ≤ 2 ^ 1500) {ws : List Int} (hf : ∀ w ∈ ws, isFin w = true) (e : ws.map fV = parts x) (hl : ws.length ≤ 4096) : validP ws.reverse = true ∧ (ws.reverse.map fV).sum = x := by
  have hr : ws.reverse.map fV = (parts x).reverse := by rw [List.map_reverse, e]
  refine ⟨Good.valid (b := 1500) ⟨fun y hy => ?_, ?_⟩ (by rw [List.length_reverse]; exact hl), ?_⟩
  · have hy := List.mem_reverse.1 hy
    refine ⟨hf y hy, parts_le x hx _ ?_⟩
    rw [← e]
    exact List.mem_map_of_mem hy
  · rw [hr]; exact parts_vZ x
  · rw [hr, List.sum_reverse, parts_sum]
/-- An expansion's value has few parts. -/
theorem exp_parts {es : List Int} (G : Good 1490 es) (hl : es.length ≤ 12) : (es.map fV).sum.natAbs ≤ 2 ^ 1500 ∧ (parts (es.map fV).sum).length ≤ 2 * es.length + 1 := by
  refine ⟨?_, ?_⟩
  · obtain ⟨E, hE⟩ : ∃ E, E = 1490 := ⟨_, rfl⟩
    rw [← hE] at G
    have h1 := sum_bd (M := E) (es := es.map fV) fun y hy => by
      obtain ⟨z, hz, rfl⟩ := List.mem_map.1 hy
      exact (G.fin z hz).2
    rw [List.length_map] at h1
    have h2 : es.length * 2 ^ E ≤ 16 * 2 ^ E := Nat.mul_le_mul_right _ (by omega)
    have h3 : 16 * 2 ^ E ≤ 2 ^ 1500 := by
      rw [show (16 : Nat) = 2 ^ 4 by decide, ← Nat.pow_add]
      exact p2le (a := 4 + E) (b := 1500) (by omega)
    exact Nat.le_trans h1 (Nat.le_trans h2 h3)
  · have := parts_len (es := es.map fV) (fun y hy => by
      obtain ⟨z, hz, rfl⟩ := List.mem_map.1 hy
      exact fl_fV z) (by rw [List.length_map]; omega)
    rwa [List.length_map] at this
end Go.Proofs
set_option linter.unusedVariables false
/-! expansion.Parts. -/
namespace Go.Proofs
open Go Go.Eng
variable {B : World} {R : Ending → Heap → Prop} {h : Heap}
theorem num_nz {K : Nat} {neg : Bool} {p : Option Addr} {n : Nat} {e v : Int} (N : NumS K h neg p n e v) : n = 0 ↔ v = 0 := by
  obtain ⟨M, I, a1, a2⟩ := N
  have hl := I.d.len
  have hM : n = 0 ↔ M = 0 := by
    constructor
    · intro h0
      have := digs_val (b := B30) (by decide) M
      rw [List.length_eq_zero_iff.1 (hl.trans h0)] at this
      exact this.symm
    · intro h0
      rw [h0, digs_zero] at hl
      exact hl.symm
  rw [hM, a2]
  have hp : 0 < 2 ^ (e + (K : Int)).toNat := Nat.pow_pos (by decide)
  unfold Ieee.signed
  rw [Nat.shiftLeft_eq]
  constructor
  · intro h0; rw [h0, Nat.zero_mul]; cases neg <;> rfl
  · intro h0
    have : M * 2 ^ (e + (K : Int)).toNat = 0 := by
      generalize M * 2 ^ (e + (K : Int)).toNat = P at *
      cases neg <;> simp at h0 <;> omega
    rcases Nat.mul_eq_zero.1 this with k | k
    · exact k
    · omega
theorem num_lt {K : Nat} {neg : Bool} {p : Option Addr} {n : Nat} {e v : Int} (N : NumS K h neg p n e v) (h0 : v ≠ 0) : ∀ b o, p = some (⟨b, o, none⟩ : Addr) → b < h.size := by
  intro b o e
  have hn := (not_congr (num_nz N)).2 h0
  obtain ⟨M, I, _, _⟩ := N
  rcases I.d.sl with k | ⟨b', o', cs, k1, k2, _⟩
  · exact absurd (by have := I.d.len; rw [k] at this; exact this.symm) hn
  · rw [e] at k1; cases k1; exact k2.lt
theorem cls12 {b : Int} (fb : isFin b = true) (h0 : fV b ≠ 0) : cls b ≠ 0 ∧ cls b ≠ 3 := by
  refine ⟨fun e => h0 ?_, fun e => ?_⟩
  · unfold cls at e
    have h1 : fE b = 0 ∧ fT b = 0 := by
      repeat (first | omega | split at e)
    unfold fV fM
    rw [if_pos h1.1, h1.2]
    unfold Ieee.signed
    rw [Nat.shiftLeft_eq, Nat.zero_mul]
    split <;> rfl
  · have := cls_fin b
    rw [fb, e] at this
    exact absurd this (by decide)
/-- round.To, to the nearest. -/
theorem K1030N {neg : Bool} {p : Option Addr} {n c : Nat} {e v : Int} (N : NumS 1074 h neg p n e v)
    (H : ∀ h', Ext h h' → R (.returned (.tuple #[.int .i64 (toR 0 v 1074), .bool (inxV v (-((1074 : Nat) : Int))), .int .i64 (0 : Int)])) h') :
    Ent Tryz.prog B 16 #[.agg #[.bool neg, .slice p n c, .int .i64 e], .int .i64 (0 : Int)] R h := K1030 N (by decide) (by decide) fun h' f => H h' f
/-- An element appended to a list behind g: the list's block alone changes. -/
theorem apJ3 {g h : Heap} {p : Option Addr} {n c r e : Nat} {x : Int} {ws : List Int} {K : Option Addr → Nat → Nat → Heap → Prop} (L : Lj g h p n c ws) (hg : g.size ≤ h.size) (hn : n ≤ 1099511627776) (hx : Own h r #[.int .i64 x]) (hI : I64 x)
    (hk : ∀ q c' h', Lj g h' q (n + 1) c' (ws ++ [x]) → Fr (fun b => g.size ≤ b ∧ ∃ o, p = some (⟨b, o, none⟩ : Addr)) h h' → (∀ b o, q = some (⟨b, o, none⟩ : Addr) → (∃ o, p = some (⟨b, o, none⟩ : Addr)) ∨ h.size ≤ b) → K q (n + 1) c' h') : apW h p n c (some ⟨r, 0, none⟩) 1 1 8 e #[.int .i64 0] K := by
  have hr : Room h p c (fun b => g.size ≤ b ∧ ∃ o, p = some (⟨b, o, none⟩ : Addr)) := by
    rcases L.room with k | ⟨b, o, cs, k1, k2, k3, k4⟩
    · exact .inl k
    · exact .inr ⟨b, o, cs, k1, k2, k3, k4, o, k1⟩
  refine apJ L.sl hr L.len L.le hx (by decide) (fun hlt => ?_) (by omega) rfl (fun _ => L.pt) fun q c' h' s r le f => ?_
  · have := nsc_le hlt
    omega
  · rcases r with e | ⟨b, o, cs, e, e2, e3, e4⟩
    · omega
    · have hgb : g.size ≤ b := by rcases e4 with k | k; exact k.1; omega
      refine hk q c' h' ⟨s, by simp [L.len], .inr ⟨b, o, cs, e, e2, e3, hgb⟩, le, .inr ⟨b, o, e⟩, fun b' o' e' => ?_, fun y hy => ?_⟩ f fun b' o' e' => ?_
      · rw [e] at e'; cases e'; exact hgb
      · rcases List.mem_append.1 hy with hy | hy
        · exact L.all y hy
        · rw [List.mem_singleton.1 hy]; exact hI
      · rw [e] at e'; cases e'
        rcases e4 with k | k
        · exact .inl k.2
        · exact .inr k
/-- What stands at the head of the loop. -/
def PtI (h g : Heap) (x : Int) (rx rl re : Nat) (m0 : Nat) (vs : List Value) (h' : Heap) : Prop := match vs with
  | [.pointer a, .pointer b, .pointer c] => a = some (⟨rx, 0, none⟩ : Addr) ∧ b = some (⟨rl, 0, none⟩ : Addr) ∧ c = some (⟨re, 0, none⟩ : Addr) ∧ ∃ ng p n cc e r q m mc ws, m0 = r.natAbs ∧ Ext h h' ∧ g.size ≤ h'.size ∧
      Own h' rx #[.bool ng, .slice p n cc, .int .i64 e] ∧ NumS 1074 h' ng p n e r ∧ Own h' rl #[.slice q m mc] ∧ Own h' re #[.int .i64 0] ∧ Lj g h' q m mc ws ∧ (∀ w ∈ ws, isFin w = true) ∧ ws.map fV ++ parts r = parts x ∧ r.natAbs ≤ 2 ^ 1500 ∧
      (r ≠ 0 → ∀ b o, p = some (⟨b, o, none⟩ : Addr) → b ≠ rx ∧ b ≠ rl ∧ ∀ b' o', q = some (⟨b', o', none⟩ : Addr) → b' ≠ b)
  | _ => False
/-- What stands at the head of the loop that turns a list round. -/
def TuI (g hs : Heap) (rl re : Nat) (q : Option Addr) (m mc : Nat) (ws : List Int) (m0 : Nat) (vs : List Value) (h' : Heap) : Prop := match vs with
  | [.pointer b, .pointer c, .int _ k, .int _ i] => b = some (⟨rl, 0, none⟩ : Addr) ∧ c = some (⟨re, 0, none⟩ : Addr) ∧ k = ((m / 2 : Nat) : Int) ∧ ∃ j : Nat, i = (j : Int) ∧ j ≤ m / 2 ∧ m0 = m / 2 - j ∧ Fr (fun b => g.size ≤ b) hs h' ∧ Own h' rl #[.slice q m mc] ∧ Own h' re #[.int .i64 0] ∧
      (m = 0 ∨ ∃ b o cs, q = some (⟨b, o, none⟩ : Addr) ∧ g.size ≤ b ∧ Own h' b cs ∧ ∀ i, i < m → cs[o + i]? = some (.int .i64 (if i < j ∨ m ≤ i + j then ws.getD (m - 1 - i) 0 else ws.getD i 0)))
  | _ => False
/-- expansion.Parts, of a number whose parts are floats. -/
theorem K1341 {ng : Bool} {p : Option Addr} {n c : Nat} {e x : Int} (ht : TabH h) (N : NumS 1074 h ng p n e x) (hx : x.natAbs ≤ 2 ^ 1500) (hl : (parts x).length ≤ 1000)
    (H : ∀ q m c' ws h', Ext h h' → IntsH h' q ws → ws.length = m → m = (parts x).length → validP ws = true → (ws.map fV).sum = x → R (.returned (.tuple #[.slice q m c', .int .i64 (0 : Int)])) h') :
    Ent Tryz.prog B 7 #[.agg #[.bool ng, .slice p n c, .int .i64 e]] R h := by
  obtain ⟨M0, NI, NI2⟩ := N
  have N : NumS 1074 h ng p n e x := ⟨M0, NI, NI2⟩
  refine F1341_ok _ _ _ _ _ (alK fun rx h1 e1 f1 o1 z1 => alK fun rl h2 e2 f2 o2 z2 => alK fun re g e3 f3 o3 z3 => ?_)
  have F := Ext.trans (Ext.trans f1 f2) f3
  have Ox := (o1.ext f2).ext f3
  have Ol := o2.ext f3
  have s1 := f1.size
  refine ⟨rx, 0, rfl, _, Ox.cell _, _, _, _, Ox.cell _, _, Ox.cell _, K129 (NI.ext F) fun h4 f4 => ⟨_, rfl, fun e => (by cases e), fun _ => ?_⟩⟩
  refine ⟨PtI h g x rx rl re, x.natAbs, ⟨rfl, rfl, rfl, ng, p, n, c, e, x, none, 0, 0, [], rfl, Ext.trans F f4, f4.size, Ox.ext f4, (N.ext F).ext f4, Ol.ext f4, o3.ext f4, Lj.nil, fun w hw => (by cases hw), rfl, hx, fun h0 b o e => ⟨?_, ?_, fun b' o' e' => (by cases e')⟩⟩, ?_⟩
  · have := num_lt N h0 b o e; omega
  · have := num_lt N h0 b o e; omega
  clear Ox Ol f4
  rintro m0 k1 _ _ _ ⟨rfl, rfl, rfl, ng, p, n, cc, e, r, q, m, mc, ws, rfl, E, hgs, Ox, Nr, Ol, Oe, L, hfin, hpar, hr, hdis⟩ _
  refine ⟨rx, 0, rfl, rx, 0 + 1, rfl, _, _, _, Ox.cell _, fun hpos => ?_, fun hz => ?_⟩
  · have hn : n ≠ 0 := by have := of_decide_eq_true hpos; omega
    have hr0 : r ≠ 0 := fun k => hn ((num_nz Nr).2 k)
    obtain ⟨fb, vb⟩ := toR_rnd hr
    have hwf := toR_wf 0 r 1074
    have hnz := rnd_nz hr0
    obtain ⟨c0, c3⟩ := cls12 fb (by rw [vb]; exact hnz)
    refine ⟨rx, 0, rfl, _, Ox.cell _, _, _, _, Ox.cell _, _, Ox.cell _, K1030N Nr fun k2 fk2 => ⟨_, _, _, rfl, K17 ⟨_, rfl, ?_⟩⟩⟩
    rw [decide_eq_false c0, decide_eq_false c3]
    refine ⟨fun e => (by cases e), fun _ => ⟨fun e => (by cases e), fun _ => ?_⟩⟩
    have Ol2 := Ol.ext fk2
    refine ⟨rl, 0, rfl, _, _, _, Ol2.cell _, alK fun r5 k3 e5 f5 o5 z5 => ?_⟩
    have L3 := (L.ext fk2).ext f5
    have E3 := Ext.trans (Ext.trans E fk2) f5
    have s2 := fk2.size
    have s5 := f5.size
    have lp := num_lt Nr hr0
    have hm : m ≤ 1000 := by
      have h1 := L.len
      have := congrArg List.length hpar
      rw [List.length_append, List.length_map] at this
      omega
    refine apJ3 L3 (by omega) (by omega) o5 hwf.1 fun q' c' k4 L4 f6 hq' => ?_
    have nS : ∀ b, b < g.size → ¬ (g.size ≤ b ∧ ∃ o, q = some (⟨b, o, none⟩ : Addr)) := fun b hb k => by omega
    have Ol4 := (Ol2.ext f5).fr f6 (nS _ (by have := f3.size; omega))
    have Ox4 := ((Ox.ext fk2).ext f5).fr f6 (nS _ (by have := f3.size; have := f2.size; omega))
    have Oe4 := ((Oe.ext fk2).ext f5).fr f6 (nS _ (by have := o3.lt; omega))
    have N4 : NumS 1074 k4 ng p n e r := ((Nr.ext fk2).ext f5).fr f6 fun b o ep k => by
      obtain ⟨_, o', hq⟩ := k
      exact (hdis hr0 b o ep).2.2 b o' hq rfl
    have E4 : Ext h k4 := Fr.trans E3 f6 fun x hx k => by have := k.1; have := F.size; omega
    refine ⟨rl, 0, rfl, Ol4.stC (by simp) rfl fun ol5 fl => ?_⟩
    generalize setCell k4 _ _ = k5 at *
    have Ol5 : Own k5 rl #[.slice q' (m + 1) c'] := ol5
    have E5 : Ext h k5 := Fr.trans E4 fl fun x hx k => by omega
    have Ox5 := Ox4.fr fl (show ¬ rx = rl by omega)
    have Oe5 := Oe4.fr fl (show ¬ re = rl by have := Ol.lt; have := f3.size; omega)
    have N5 : NumS 1074 k5 ng p n e r := N4.fr fl fun b o ep k => (hdis hr0 b o ep).2.1 k
    have s6 := f6.size
    have sl := fl.size
    have L5 : Lj g k5 q' (m + 1) c' (ws ++ [toR 0 r 1074]) := ⟨L4.sl.fr fl fun b o ep _ k => by have := L4.fresh b o ep; have := o3.lt; omega, L4.len, L4.room.fr fl fun b k1 k2 => by have := o3.lt; omega, L4.le, L4.pt, L4.fresh, L4.all⟩
    refine K21g (ht.fr E5 id) fun n1 p1 m1 d1 x1 err k6 f7 A1 A2 => ⟨_, _, _, _, _, _, rfl, lay3 fun r7 k7 f8 l8 O7 => ?_⟩
    obtain ⟨_, N1⟩ := A1 fb
    rw [vb] at N1
    have Ox7 := (Ox5.ext f7).ext f8
    have N7 := (N5.ext f7).ext f8
    refine ⟨rx, 0, rfl, _, Ox7.cell _, _, _, _, Ox7.cell _, _, Ox7.cell _, r7, 0, rfl, _, O7.cell _, _, _, _, O7.cell _, _, O7.cell _, ?_⟩
    have b1 : bl r.natAbs ≤ 50000 := Nat.le_trans (bl_le_iff.2 (Nat.lt_of_le_of_lt hr (p2lt (a := 1500) (b := 1501) (by omega)))) (by decide)
    have b2 : bl (rndI r).natAbs ≤ 50000 := Nat.le_trans (bl_le_iff.2 (Nat.lt_of_le_of_lt (rnd_pow hr) (p2lt (a := 1500) (b := 1501) (by omega)))) (by decide)
    refine K44 (ht.fr (Ext.trans (Ext.trans E5 f7) f8) id) N7 (N1.ext f8) (by decide) b1 b2 fun ng' p' n' c'' e' k8 f9 fr9 N8 => ⟨_, _, _, _, _, _, rfl, ?_⟩
    have Ox8 := Ox7.ext f9
    refine ⟨rx, 0, rfl, Ox8.stC (by simp) rfl fun oa fa => oa.stC (by simp) rfl fun ob fb' => ob.stC (by simp) rfl fun oc fc => ⟨rfl, (r - rndI r).natAbs, rnd_less hr0, ?_⟩⟩
    have fabc := Fr.trans (S := fun x => x = rx) (Fr.trans (S := fun x => x = rx) fa fb' fun _ _ e => e) fc fun _ _ e => e
    generalize setCell (setCell (setCell k8 _ _) _ _) _ _ = k9 at *
    have s7 := f7.size
    have s8 := f8.size
    have s9 := f9.size
    have s10 := fabc.size
    have l3 := o3.lt
    have G8 : Ext k5 k8 := Ext.trans (Ext.trans f7 f8) f9
    have hq9 : ∀ b o, q' = some (⟨b, o, none⟩ : Addr) → b < k5.size := fun b o eq => by
      rcases hq' b o eq with ⟨o', k⟩ | k
      · have := L5.len
        rcases L5.sl with w | ⟨b2, o2, cs, w1, w2, _⟩
        · rw [w] at this; cases this
        · rw [eq] at w1; cases w1; exact w2.lt
      · have := L5.len
        rcases L5.sl with w | ⟨b2, o2, cs, w1, w2, _⟩
        · rw [w] at this; cases this
        · rw [eq] at w1; cases w1; exact w2.lt
    refine ⟨rfl, rfl, rfl, ng', p', n', c'', e', r - rndI r, q', m + 1, c', ws ++ [toR 0 r 1074], rfl, Fr.trans (Ext.trans E5 G8) fabc fun x hx k => by omega, by omega, oc, N8.fr fabc fun b o ep k => by have := fr9 b o ep; omega,
      (Ol5.ext G8).fr fabc (by omega), (Oe5.ext G8).fr fabc (by omega), ?_, ?_, ?_, Nat.le_trans (Nat.le_of_lt (rnd_less hr0)) hr, fun _ b o ep => ⟨by have := fr9 b o ep; omega, by have := fr9 b o ep; omega, fun b' o' eq k => by have := fr9 b o ep; have := hq9 b' o' eq; omega⟩⟩
    · have L8 := L5.ext G8
      exact ⟨L8.sl.fr fabc fun b o ep _ k => by have := L8.fresh b o ep; omega, L8.len, L8.room.fr fabc fun b k1 k2 => by omega, L8.le, L8.pt, L8.fresh, L8.all⟩
    · intro w hw
      rcases List.mem_append.1 hw with hw | hw
      · exact hfin w hw
      · rw [List.mem_singleton.1 hw]; exact fb
    · rw [List.map_append, List.append_assoc, ← hpar, parts_ne hr0, List.map_cons, List.map_nil, vb]; rfl
  · have hn : n = 0 := by have := of_decide_eq_false hz; omega
    have hr0 : r = 0 := (num_nz Nr).1 hn
    rw [hr0, parts_zero, List.append_nil] at hpar
    have hwl := L.len
    have hml : m = (parts x).length := by rw [← hpar, List.length_map]; exact hwl.symm
    obtain ⟨q1, q2⟩ := parts_good hx hfin hpar (by omega)
    have l3 := o3.lt
    have s2 := f2.size
    have s3 := f3.size
    have htd : IntKind.i64.wrap (Int.tdiv (m : Int) (2 : Int)) = ((m / 2 : Nat) : Int) := by
      rw [Int.tdiv_eq_ediv_of_nonneg (by omega), i64_in (by omega) (by omega)]; omega
    refine ⟨rl, 0, rfl, _, _, _, Ol.cell _, by decide, TuI g k1 rl re q m mc ws, m / 2, ⟨rfl, rfl, htd, 0, rfl, by omega, by omega, Fr.rfl', Ol, Oe, ?_⟩, ?_⟩
    · rcases L.sl with k | ⟨b, o, cs, k1, k2, k3⟩
      · left; rw [← hwl, k]; rfl
      · refine .inr ⟨b, o, cs, k1, L.fresh b o k1, k2, fun i hi => ?_⟩
        rw [if_neg (by omega), k3 i (by omega), List.getD_eq_getElem?_getD, List.getElem?_eq_getElem (by omega)]; rfl
    rintro m1 t1 _ _ _ _ ⟨rfl, rfl, rfl, j, rfl, hj, rfl, T, Tl, Te, hc⟩ _
    refine ⟨fun hlt => ?_, fun hge => ?_⟩
    · have hlt : j < m / 2 := by have := of_decide_eq_true hlt; omega
      rcases hc with hc | ⟨b, o, cs, hb, hgb, Ob, hcs⟩
      · omega
      have ixe : IntKind.i64.wrap ((IntKind.i64.wrap ((m : Int) - (1 : Int))) - (j : Int)) = ((m - 1 - j : Nat) : Int) := by
        rw [i64_in (x := (m : Int) - 1) (by omega) (by omega), i64_in (by omega) (by omega)]; omega
      refine ⟨rl, 0, rfl, _, _, _, Tl.cell _, rl, 0, rfl, _, _, _, Tl.cell _, rl, 0, rfl, _, _, _, Tl.cell _, rl, 0, rfl, _, _, _, Tl.cell _, rl, 0, rfl, _, _, _, Tl.cell _, ?_⟩
      rw [ixe, hb]
      refine ⟨b, o, rfl, by omega, by omega, b, _, rfl, _, by rw [Int.toNat_natCast, Nat.mul_one]; exact (Ob.cell _).trans (hcs _ (by omega)), rl, 0, rfl, _, _, _, Tl.cell _, ?_⟩
      rw [hb]
      refine ⟨b, o, rfl, by omega, by omega, b, _, rfl, _, by rw [Int.toNat_natCast, Nat.mul_one]; exact (Ob.cell _).trans (hcs _ (by omega)), ?_⟩
      have hsz : o + m ≤ cs.size := by
        have := hcs (m - 1) (by omega)
        have := (Array.getElem?_eq_some_iff.1 this).1
        omega
      refine ⟨b, o, rfl, by omega, by omega, b, _, rfl, ?_⟩
      rw [Int.toNat_natCast, Nat.mul_one]
      refine Ob.stC (by omega) rfl fun oc fc => ?_
      refine ⟨b, o, rfl, by omega, by omega, b, _, rfl, ?_⟩
      rw [Int.toNat_natCast, Nat.mul_one]
      refine oc.stC (by rw [Array.size_setIfInBounds]; omega) rfl fun od fd => ⟨rfl, m / 2 - (j + 1), by omega, ?_⟩
      have fcd := Fr.trans (S := fun x => x = b) fc fd fun _ _ e => e
      generalize setCell (setCell t1 _ _) _ _ = t2 at *
      refine ⟨rfl, rfl, rfl, j + 1, by rw [i64_in (by omega) (by omega)]; rfl, by omega, rfl, Fr.trans T fcd fun x hx k => by omega, hb ▸ Tl.fr fcd (by omega), Te.fr fcd (by omega), .inr ⟨b, o, _, rfl, hgb, od, fun i hi => ?_⟩⟩
      rw [if_neg (show ¬ (m - 1 - j < j ∨ m ≤ m - 1 - j + j) by omega), if_neg (show ¬ (j < j ∨ m ≤ j + j) by omega)]
      by_cases hi2 : i = m - 1 - j
      · subst hi2
        rw [Array.getElem?_setIfInBounds_self_of_lt (by rw [Array.size_setIfInBounds]; omega), if_pos (by omega), show m - 1 - (m - 1 - j) = j by omega]
      · rw [Array.getElem?_setIfInBounds_ne (by omega)]
        by_cases hi1 : i = j
        · subst hi1
          rw [Array.getElem?_setIfInBounds_self_of_lt (by omega), if_pos (by omega)]
        · rw [Array.getElem?_setIfInBounds_ne (by omega), hcs i hi]
          congr 2
          by_cases h1 : i < j ∨ m ≤ i + j
          · rw [if_pos h1, if_pos (by omega)]
          · rw [if_neg h1, if_neg (by omega)]
    · have hj2 : j = m / 2 := by have := of_decide_eq_false hge; omega
      refine ⟨rl, 0, rfl, _, _, _, Tl.cell _, K89 (fun _ => ⟨_, _, _, _, rfl, ?_⟩) (fun k => by omega)⟩
      refine expEnd Tl Te (by omega) fun h' f => ?_
      have E1 : Ext h t1 := Fr.trans E T fun x hx k => by omega
      refine H q m mc ws.reverse h' (Fr.trans E1 f fun x hx k => by omega) ⟨fun w hw => L.all w (List.mem_reverse.1 hw), ?_⟩ (by rw [List.length_reverse]; exact hwl) hml q1 q2
      rcases hc with hc | ⟨b, o, cs, hb, hgb, Ob, hcs⟩
      · left
        rw [List.reverse_eq_nil_iff]
        exact List.length_eq_zero_iff.1 (hwl.trans hc)
      · refine .inr ⟨b, o, hb, Nat.lt_of_lt_of_le Ob.lt f.size, fun i hi => ?_⟩
        rw [List.length_reverse] at hi
        rw [(Ob.fr f (by omega)).cell, hcs i (by omega), List.getElem_reverse]
        by_cases h1 : i < j ∨ m ≤ i + j
        · rw [if_pos h1, List.getD_eq_getElem?_getD, List.getElem?_eq_getElem (by omega)]
          simp [hwl]
        · rw [if_neg h1, List.getD_eq_getElem?_getD, List.getElem?_eq_getElem (by omega)]
          have : i = ws.length - 1 - i := by omega
          simp only [Option.getD_some, ← this]
end Go.Proofs
set_option linter.unusedVariables false
/-! plumblaw7.ExpansionBack. -/
namespace Go.Proofs
open Go Go.Eng
variable {B : World} {R : Ending → Heap → Prop} {h : Heap}
theorem bl1500 {x : Int} (hx : x.natAbs ≤ 2 ^ 1500) : bl x.natAbs ≤ 50000 :=
  Nat.le_trans (bl_le_iff.2 (Nat.lt_of_le_of_lt hx (p2lt (a := 1500) (b := 1501) (by omega)))) (by decide)
theorem K1340 {p : Option Addr} {n c : Nat} {xs : List Int} (ht : TabH h) (I : IntsH h p xs) (hn : xs.length = n) (H : ∀ h', Ext h h' → R (.returned (.bool true)) h') : Ent Tryz.prog B 3 #[.slice p n c] R h := by
  refine F1340_ok _ _ _ (K38 12 ht I hn (by decide) fun p1 n1 c1 es h1 f1 L1 G1 le1 => ⟨_, _, _, _, rfl, ?_⟩)
  refine K29 (ht.fr f1 id) fun h2 f2 => ⟨_, rfl, fun e => (by cases e), fun _ => ⟨fun e => (by cases e), fun _ => ?_⟩⟩
  have F2 := Ext.trans f1 f2
  have M1 := L1.ext f2
  obtain ⟨x1, x2⟩ := exp_parts G1 le1
  refine K39 (ht.fr F2 id) M1.ints M1.len (G1.valid (by omega)) fun s1 q1 m1 d1 e1 h3 f3 fr3 N1 => ⟨_, _, _, _, _, _, rfl, lay3 fun r4 h4 f4 hr4 O4 => ?_⟩
  have F4 := Ext.trans (Ext.trans F2 f3) f4
  generalize (es.map fV).sum = x at *
  refine ⟨r4, 0, rfl, _, O4.cell _, _, _, _, O4.cell _, _, O4.cell _, ?_⟩
  refine K1341 (ht.fr F4 id) (N1.ext f4) x1 (by omega) fun q m c' ws h5 f5 I5 l5 m5 v5 s5 => ⟨_, _, _, _, rfl, ?_⟩
  have F5 := Ext.trans F4 f5
  refine K39 (ht.fr F5 id) I5 l5 v5 fun s2 q2 m2 d2 e2 h6 f6 fr6 N2 => ⟨_, _, _, _, _, _, rfl, lay3 fun r7 h7 f7 hr7 O7 => ⟨fun _ => ⟨fun _ => ?_, fun e => (by cases e)⟩, fun e => absurd e (by decide)⟩⟩
  have G7 := Ext.trans f6 f7
  have O47 := (O4.ext f5).ext G7
  refine ⟨r4, 0, rfl, _, O47.cell _, _, _, _, O47.cell _, _, O47.cell _, r7, 0, rfl, _, O7.cell _, _, _, _, O7.cell _, _, O7.cell _, ?_⟩
  rw [s5] at N2
  refine K41 ((((N1.ext f4).ext f5).ext G7)) (N2.ext f7) (by decide) (bl1500 x1) (bl1500 x1) rfl fun h8 f8 => ⟨_, rfl, fun _ => ?_, fun e => (by cases e)⟩
  have hlen := L1.len
  have hw : IntKind.i64.wrap ((IntKind.i64.wrap ((n1 : Int) * (3 : Int))) + (1 : Int)) = (n1 : Int) * 3 + 1 := by
    rw [i64_in (x := (n1 : Int) * 3) (by omega) (by omega), i64_in (by omega) (by omega)]
  rw [hw, decide_eq_true (show (m : Int) ≤ (n1 : Int) * 3 + 1 by omega)]
  exact H h8 (Ext.trans (Ext.trans F5 G7) f8)
end Go.Proofs
