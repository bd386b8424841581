import Derived.Test.YtpnfpefcjeafbaaGreatFmtA44
import Derived.Test.YtpnfpefcjeafbaaGreatFmtA34
/- Here stand lemmas and contracts, in the order in which they are used. -/
set_option linter.unusedVariables false
set_option linter.unusedVariables false
/-! Sums of whole numbers are exact in every order; plumblaw5.SumsKept. -/
namespace Go.Proofs
open Go Go.Eng
variable {B : World} {R : Ending → Heap → Prop} {h : Heap}
theorem nr_neg (n : Int) : decide (nrP n < 0) = decide (n < 0) := by
  unfold nrP
  split
  · rw [pat_neg _ (by decide)]
  · rw [pat_neg _ (rung63' _ _)]
theorem nr_val {n : Int} (hn : n.natAbs ≤ 9007199254740992) : isFin (nrP n) = true ∧ fV (nrP n) = n * (UW : Int) := by
  obtain ⟨N, hN⟩ : ∃ N, N = 1074 := ⟨_, rfl⟩
  by_cases h0 : n = 0
  · subst h0; exact ⟨by decide, by rw [Int.zero_mul]; decide +kernel⟩
  unfold nrP
  rw [if_neg h0, rung_up n.natAbs hN (by omega)]
  have hb : n.natAbs * 2 ^ N < 3 * 2 ^ (51 + (N + 3)) := by
    have hp : 0 < 2 ^ N := Nat.pow_pos (by decide)
    rw [show 51 + (N + 3) = N + 54 by omega, Nat.pow_add, show (2 : Nat) ^ 54 = 18014398509481984 by decide]
    generalize 2 ^ N = P at *
    have : n.natAbs * P ≤ 9007199254740992 * P := Nat.mul_le_mul_right _ hn
    omega
  obtain ⟨a, b⟩ := rung_fV (decide (n < 0)) (K := N + 3) (by omega) hb
  refine ⟨a, ?_⟩
  rw [b]
  have hF : Fl (n * (UW : Int)) := ⟨n.natAbs, N, by rw [Int.natAbs_mul, Int.natAbs_natCast, uw_pow hN], hn⟩
  have hr := rnd_exact hF
  unfold rndI at hr
  have hp := uw_pos
  have hs : decide (n * (UW : Int) < 0) = decide (n < 0) := by
    rw [decide_eq_decide]
    constructor
    · intro h
      rcases Int.lt_or_le n 0 with k | k
      · exact k
      · have := Int.mul_nonneg k (show (0 : Int) ≤ (UW : Int) by omega); omega
    · intro h; exact Int.mul_neg_of_neg_of_pos h (by omega)
  rw [hs, Int.natAbs_mul, Int.natAbs_natCast, uw_pow hN] at hr
  rw [hr, uw_pow hN]
theorem uw_zero {v : Int} : v * (UW : Int) = 0 ↔ v = 0 := by
  have hp := uw_pos
  constructor
  · intro h
    rcases Int.mul_eq_zero.1 h with k | k
    · exact k
    · omega
  · intro h; rw [h, Int.zero_mul]
theorem uw_neg (v : Int) : decide (v * (UW : Int) < 0) = decide (v < 0) := by
  have hp := uw_pos
  rw [decide_eq_decide]
  constructor
  · intro h
    rcases Int.lt_or_le v 0 with k | k
    · exact k
    · have := Int.mul_nonneg k (show (0 : Int) ≤ (UW : Int) by omega); omega
  · intro h; exact Int.mul_neg_of_neg_of_pos h (by omega)
theorem nr_of {v : Int} {s : Bool} (hs : v = 0 → s = false) : pat (if v * (UW : Int) = 0 then s else decide (v * (UW : Int) < 0)) (rung (v * (UW : Int)).natAbs (-1074)) = nrP v := by
  obtain ⟨N, hN⟩ : ∃ N, N = 1074 := ⟨_, rfl⟩
  by_cases h0 : v = 0
  · rw [if_pos (uw_zero.2 h0), hs h0, h0, Int.zero_mul]
    show pat false (rung 0 (-1074)) = _
    rw [rung_zero]; rfl
  · rw [if_neg fun h => h0 (uw_zero.1 h), uw_neg]
    unfold nrP
    rw [if_neg h0, rung_up v.natAbs hN (by omega), Int.natAbs_mul, Int.natAbs_natCast, uw_pow hN]
abbrev ExI (n : Int) : Prop := n.natAbs ≤ 9007199254740992
theorem add_nr {x y : Int} (hx : ExI x) (hy : ExI y) : addP (nrP x) (nrP y) = nrP (x + y) := by
  obtain ⟨fa, va⟩ := nr_val hx
  obtain ⟨fb, vb⟩ := nr_val hy
  obtain ⟨a1, a2⟩ := fin_not fa
  obtain ⟨b1, b2⟩ := fin_not fb
  have e : addP (nrP x) (nrP y) = pat (if fV (nrP x) + fV (nrP y) = 0 then decide (nrP x < 0) && decide (nrP y < 0) else decide (fV (nrP x) + fV (nrP y) < 0)) (rung (fV (nrP x) + fV (nrP y)).natAbs (-1074)) := by
    unfold addP plusP fW
    rw [a1, a2, b1, b2, fa, fb]; rfl
  rw [e, va, vb, nr_neg, nr_neg, ← Int.add_mul]
  refine nr_of fun h => ?_
  by_cases k : x < 0
  · rw [decide_eq_false (show ¬ y < 0 by omega), Bool.and_false]
  · rw [decide_eq_false k]; rfl
theorem sub_nr {x y : Int} (hx : ExI x) (hy : ExI y) : subP (nrP x) (nrP y) = nrP (x - y) := by
  obtain ⟨fa, va⟩ := nr_val hx
  obtain ⟨fb, vb⟩ := nr_val hy
  obtain ⟨a1, a2⟩ := fin_not fa
  obtain ⟨b1, b2⟩ := fin_not fb
  have e : subP (nrP x) (nrP y) = pat (if fV (nrP x) + -fV (nrP y) = 0 then decide (nrP x < 0) && !decide (nrP y < 0) else decide (fV (nrP x) + -fV (nrP y) < 0)) (rung (fV (nrP x) + -fV (nrP y)).natAbs (-1074)) := by
    unfold subP plusP fW
    rw [a1, a2, b1, b2, fa, fb]; rfl
  rw [e, va, vb, nr_neg, nr_neg, ← Int.neg_mul, ← Int.add_mul, ← Int.sub_eq_add_neg]
  refine nr_of fun h => ?_
  by_cases k : x < 0
  · rw [decide_eq_true k, decide_eq_true (show y < 0 by omega)]; rfl
  · rw [decide_eq_false k]; rfl
theorem nrm_nr {x : Int} (hx : ExI x) : nrm (nrP x) = nrP x := fin_nrm (nr_val hx).1
theorem nr_zero : nrP 0 = 0 := by decide
theorem ExI0 : ExI 0 := by decide
theorem sumN_bd {ns : List Int} (h : ∀ n ∈ ns, n.natAbs ≤ 1099511627776) : ns.sum.natAbs ≤ ns.length * 1099511627776 := by
  induction ns with
  | nil => simp
  | cons a l ih =>
    rw [List.sum_cons, List.length_cons, Nat.add_mul, Nat.one_mul]
    have h1 := h a (by simp)
    have h2 := ih fun x hx => h x (by simp [hx])
    omega
theorem ExI_sum {ns : List Int} (h : ∀ n ∈ ns, n.natAbs ≤ 1099511627776) (hl : ns.length ≤ 500) : ExI ns.sum := by
  have := sumN_bd h
  have : ns.length * 1099511627776 ≤ 500 * 1099511627776 := Nat.mul_le_mul_right _ hl
  unfold ExI; omega
/-- What each step of a sum of whole numbers keeps. -/
theorem fold_nr {S : Type} {f : S → Int → S} {mk : Int → S} (hf : ∀ s x, ExI s → ExI x → ExI (s + x) → f (mk s) (nrP x) = mk (s + x)) {ns : List Int} : ∀ {s : Int}, (∀ n ∈ ns, n.natAbs ≤ 1099511627776) → s.natAbs + ns.length * 1099511627776 ≤ 9007199254740992 → (ns.map nrP).foldl f (mk s) = mk (s + ns.sum) := by
  induction ns with
  | nil => intro s _ _; simp
  | cons a l ih =>
    intro s h hb
    have h1 := h a (by simp)
    rw [List.length_cons, Nat.add_mul, Nat.one_mul] at hb
    rw [List.map_cons, List.foldl_cons, hf s a (by unfold ExI; omega) (by unfold ExI; omega) (by unfold ExI; omega), ih (fun x hx => h x (by simp [hx])) (by omega), List.sum_cons]
    congr 1; omega
variable {ns : List Int}
theorem len_bd (hl : ns.length ≤ 500) : (0 : Int).natAbs + ns.length * 1099511627776 ≤ 9007199254740992 := by
  have : ns.length * 1099511627776 ≤ 500 * 1099511627776 := Nat.mul_le_mul_right _ hl
  show 0 + _ ≤ _
  omega
theorem left_nr (h : ∀ n ∈ ns, n.natAbs ≤ 1099511627776) (hl : ns.length ≤ 500) : leftP (ns.map nrP) = nrP ns.sum := by
  have := fold_nr (f := fun s x => addP s (nrm x)) (mk := nrP) (fun s x hs hx _ => by rw [nrm_nr hx, add_nr hs hx]) h (len_bd hl)
  rw [nr_zero, Int.zero_add] at this
  exact this
theorem sum_rev (l : List Int) : l.reverse.sum = l.sum := by
  induction l with
  | nil => rfl
  | cons a l ih => rw [List.reverse_cons, List.sum_append, ih, List.sum_cons, List.sum_cons, List.sum_nil]; omega
theorem right_nr (h : ∀ n ∈ ns, n.natAbs ≤ 1099511627776) (hl : ns.length ≤ 500) : rightP (ns.map nrP) = nrP ns.sum := by
  unfold rightP
  rw [← List.map_reverse, left_nr (fun n hn => h n (List.mem_reverse.1 hn)) (by rw [List.length_reverse]; exact hl), sum_rev]
theorem sub_zero_nr {x : Int} (hx : ExI x) : subP (nrP x) 0 = nrP x := by
  have := sub_nr hx ExI0
  rwa [nr_zero, Int.sub_zero] at this
theorem kahan_nr (h : ∀ n ∈ ns, n.natAbs ≤ 1099511627776) (hl : ns.length ≤ 500) : kahanP (ns.map nrP) = nrP ns.sum := by
  have := fold_nr (f := kahS) (mk := fun s => (nrP s, (0 : Int))) (fun s x hs hx hsx => by
    show (addP (nrP s) (subP (nrm (nrP x)) 0), subP (subP (addP (nrP s) (subP (nrm (nrP x)) 0)) (nrP s)) (subP (nrm (nrP x)) 0)) = _
    rw [nrm_nr hx, sub_zero_nr hx, add_nr hs hx, sub_nr hsx hs, show s + x - s = x by omega, sub_nr hx hx, Int.sub_self, nr_zero]) h (len_bd hl)
  rw [nr_zero, Int.zero_add] at this
  unfold kahanP
  rw [this]
theorem neum_nr (h : ∀ n ∈ ns, n.natAbs ≤ 1099511627776) (hl : ns.length ≤ 500) : neumP (ns.map nrP) = nrP ns.sum := by
  have := fold_nr (f := neuS) (mk := fun s => (nrP s, (0 : Int))) (fun s x hs hx hsx => by
    show (addP (nrP s) (nrm (nrP x)), if leA (nrm (nrP x)) (nrP s) then addP 0 (addP (subP (nrP s) (addP (nrP s) (nrm (nrP x)))) (nrm (nrP x))) else addP 0 (addP (subP (nrm (nrP x)) (addP (nrP s) (nrm (nrP x)))) (nrP s))) = _
    have e0 : addP 0 0 = 0 := by decide +kernel
    have h1 : addP 0 (addP (subP (nrP s) (nrP (s + x))) (nrP x)) = 0 := by
      rw [sub_nr hs hsx, add_nr (by unfold ExI at *; omega) hx, show s - (s + x) + x = 0 by omega, nr_zero, e0]
    have h2 : addP 0 (addP (subP (nrP x) (nrP (s + x))) (nrP s)) = 0 := by
      rw [sub_nr hx hsx, add_nr (by unfold ExI at *; omega) hs, show x - (s + x) + s = 0 by omega, nr_zero, e0]
    rw [nrm_nr hx, add_nr hs hx, h1, h2, ite_self]) h (len_bd hl)
  rw [nr_zero, Int.zero_add] at this
  unfold neumP
  rw [this]
  show addP (nrP ns.sum) 0 = _
  have := add_nr (ExI_sum h hl) ExI0
  rwa [nr_zero, Int.add_zero] at this
theorem pairs_nr : ∀ (n : Nat) {ns : List Int}, ns.length = n → (∀ n ∈ ns, n.natAbs ≤ 1099511627776) → ns.length ≤ 500 → pairsP (ns.map nrP) = nrP ns.sum := by
  intro n
  induction n using Nat.strongRecOn with
  | _ n ih =>
  intro ns hn h hl
  rw [pairsP_eq, List.length_map, hn]
  by_cases h0 : n = 0
  · rw [if_pos h0]
    have : ns = [] := List.eq_nil_of_length_eq_zero (by omega)
    subst this; exact nr_zero.symm
  rw [if_neg h0]
  by_cases h1 : n = 1
  · rw [if_pos h1]
    match ns, hn with
    | [x], _ =>
      have hx : ExI x := by have := h x (by simp); unfold ExI; omega
      show addP (nrm (nrP x)) 0 = nrP (x + 0)
      rw [nrm_nr hx]
      have := add_nr hx ExI0
      rwa [nr_zero] at this
    | [], hn => simp at hn; omega
    | _ :: _ :: _, hn => simp at hn; omega
  rw [if_neg h1]
  have e1 : (ns.map nrP).take (n / 2) = (ns.take (n / 2)).map nrP := by rw [List.map_take]
  have e2 : (ns.map nrP).drop (n / 2) = (ns.drop (n / 2)).map nrP := by rw [List.map_drop]
  have l1 : (ns.take (n / 2)).length = n / 2 := by rw [List.length_take]; omega
  have l2 : (ns.drop (n / 2)).length = n - n / 2 := by rw [List.length_drop]; omega
  have b1 : ∀ x ∈ ns.take (n / 2), x.natAbs ≤ 1099511627776 := fun x hx => h x (List.mem_of_mem_take hx)
  have b2 : ∀ x ∈ ns.drop (n / 2), x.natAbs ≤ 1099511627776 := fun x hx => h x (List.mem_of_mem_drop hx)
  rw [e1, e2, ih (n / 2) (by omega) l1 b1 (by omega), ih (n - n / 2) (by omega) l2 b2 (by omega), add_nr (ExI_sum b1 (by omega)) (ExI_sum b2 (by omega))]
  congr 1
  rw [← List.sum_append, List.take_append_drop]
theorem sV_nr (h : ∀ n ∈ ns, n.natAbs ≤ 1099511627776) : sV (ns.map nrP) = ns.sum * (UW : Int) := by
  induction ns with
  | nil => simp [sV]
  | cons a l ih =>
    have ha : ExI a := by have := h a (by simp); unfold ExI; omega
    rw [List.map_cons, List.sum_cons, Int.add_mul]
    show fV (nrP a) + sV (l.map nrP) = _
    rw [(nr_val ha).2, ih fun x hx => h x (by simp [hx])]
theorem sum_nr (h : ∀ n ∈ ns, n.natAbs ≤ 1099511627776) (hl : ns.length ≤ 500) : sumV 0 (ns.map nrP) = nrP ns.sum := by
  have hS := ExI_sum h hl
  rw [sumV_dir, sV_nr h]
  generalize ns.sum = S at *
  have hd : dirV (0 : Int).toNat (S * (UW : Int)) (-((1074 : Nat) : Int)) = nrP S := by
    unfold dirV
    by_cases h0 : S = 0
    · rw [if_pos (uw_zero.2 h0), h0]; exact nr_zero.symm
    · rw [if_neg fun k => h0 (uw_zero.1 k)]
      have := nr_of (v := S) (s := false) fun _ => rfl
      rw [if_neg fun k => h0 (uw_zero.1 k)] at this
      show pat _ (dirP 0 _ _ (-1074)) = _
      rw [← rung_dir]
      exact this
  rw [hd]
  unfold pz
  rw [if_neg]
  intro hk
  have hv := (nr_val hS).2
  rw [hk] at hv
  have : fV (-9223372036854775808) = 0 := by decide +kernel
  rw [this] at hv
  have h0 := uw_zero.1 hv.symm
  rw [h0] at hk
  revert hk; decide
theorem nr_fin64 {n : Int} (hn : I64 n) : isFin (nrP n) = true := by
  obtain ⟨N, hN⟩ : ∃ N, N = 1074 := ⟨_, rfl⟩
  by_cases h0 : n = 0
  · subst h0; decide
  unfold nrP
  rw [if_neg h0, rung_up n.natAbs hN (by omega)]
  have hb : n.natAbs * 2 ^ N < 3 * 2 ^ (51 + (N + 13)) := by
    have hp : 0 < 2 ^ N := Nat.pow_pos (by decide)
    rw [show 51 + (N + 13) = N + 64 by omega, Nat.pow_add, show (2 : Nat) ^ 64 = 18446744073709551616 by decide]
    generalize 2 ^ N = P at *
    unfold I64 at hn
    have : n.natAbs * P ≤ 9223372036854775808 * P := Nat.mul_le_mul_right _ (by omega)
    omega
  exact (rung_fV (decide (n < 0)) (K := N + 13) (by omega) hb).1
/-- round.FromInt, to the nearest. -/
theorem K1343z {n : Int} (hn : I64 n) (H : ∀ h', Ext h h' → R (.returned (.tuple #[.int .i64 (nrP n), .int .i64 (0 : Int)])) h') : Ent Tryz.prog B 6 #[.int .i64 n, .int .i64 (0 : Int)] R h := by
  refine F1343_ok _ _ (alK fun r1 h1 e1 f1 o1 z1 => ⟨r1, 0, rfl, n, (o1.cell _).trans rfl, ?_⟩)
  rw [nearest_wd]
  refine K56 (wi_wd (nrP_I64 n)) ⟨_, rfl, K1068n (w := 0) (v := n) (K := 0) (by decide) (by decide) (by decide) (fun _ {R'} h2 f2 k => ?_) fun h2 f2 => ⟨_, _, rfl, ?_⟩⟩
  · refine ev1z (K1345 hn (o1.ext f2) fun r q h3 f3 I3 => k r q n 0 h3 f3 I3 (by decide) (by decide) ?_ ?_)
    · unfold I64 at hn
      have : n.natAbs < 2 ^ 64 := by
        rw [show (2 : Nat) ^ 64 = 18446744073709551616 by decide]; omega
      exact bl_of_lt this (by decide)
    · show n * 2 ^ 0 = n
      rw [Int.pow_zero, Int.mul_one]
  · have HH := H h2 (Ext.trans f1 f2)
    rw [if_pos (.inl rfl)]
    rw [fin_nrm (nr_fin64 hn)]
    exact HH
end Go.Proofs
set_option linter.unusedVariables false
/-! plumblaw5.SumsKept. -/
namespace Go.Proofs
open Go Go.Eng
variable {B : World} {R : Ending → Heap → Prop} {h : Heap}
def cut40 (x : Int) : Int := Int.tmod x 1099511627776
theorem cut40_bd (x : Int) : (cut40 x).natAbs ≤ 1099511627776 := by
  unfold cut40
  rw [Int.natAbs_tmod]
  exact Nat.le_of_lt (Nat.mod_lt _ (by decide))
theorem cut40_I64 (x : Int) : I64 (cut40 x) := by have := cut40_bd x; unfold I64; omega
/-- plumblaw5.SumsKept. -/
theorem K1379 {p : Option Addr} {n c : Nat} {l : List Int} (ht : TabH h) (I : IntsH h p l) (hn : l.length = n) (hm : n < 9223372036854775808) (H : ∀ h', Ext h h' → R (.returned (.bool true)) h') :
    Ent Tryz.prog B 3 #[.slice p n c] R h := by
  refine F1379_ok _ _ _ ⟨fun m vs h' => match vs with
    | [.slice p1 n1 c1, .slice p2 n2 c2, .int _ s, .int _ i] => p = p1 ∧ n = n1 ∧ ∃ j : Nat, i = (j : Int) ∧ j ≤ n ∧ j ≤ 500 ∧ m = 500 - j ∧ Ext h h' ∧ Lj h h' p2 n2 c2 (((l.take j).map cut40).map nrP) ∧ s = ((l.take j).map cut40).sum
    | _ => False, 500, ⟨rfl, rfl, 0, rfl, by omega, by omega, rfl, Fr.rfl', Lj.nil, rfl⟩, ?_⟩
  rintro m h' _ _ _ p2 n2 c2 _ _ ⟨rfl, rfl, j, rfl, hj, hj5, rfl, E, L, rfl⟩ _
  have hb : ∀ x ∈ (l.take j).map cut40, x.natAbs ≤ 1099511627776 := fun x hx => by
    obtain ⟨y, _, rfl⟩ := List.mem_map.1 hx
    exact cut40_bd y
  have hlen : ((l.take j).map cut40).length = j := by rw [List.length_map, List.length_take]; omega
  have hS : ExI ((l.take j).map cut40).sum := ExI_sum hb (by omega)
  have done : F1379_j6 B R (fun m vs h' => match vs with
    | [.slice p1 n1 c1, .slice p2 n2 c2, .int _ s, .int _ i] => p = p1 ∧ n = n1 ∧ ∃ j : Nat, i = (j : Int) ∧ j ≤ n ∧ j ≤ 500 ∧ m = 500 - j ∧ Ext h h' ∧ Lj h h' p2 n2 c2 (((l.take j).map cut40).map nrP) ∧ s = ((l.take j).map cut40).sum
    | _ => False) (500 - j) p n c p2 n2 c2 ((l.take j).map cut40).sum (j : Int) h' ∨ ¬ (j < n ∧ j < 500) := by
    by_cases hc : j < n ∧ j < 500
    · left
      have hjl : j < l.length := by omega
      have e1 : (l.take (j + 1)).map cut40 = (l.take j).map cut40 ++ [cut40 l[j]] := by rw [List.take_succ_eq_append_getElem hjl, List.map_append]; rfl
      have n2e : n2 = j := by have := L.len; rw [List.length_map, hlen] at this; omega
      refine (I.ext E).get hn hjl ⟨by decide, K1343z (cut40_I64 _) fun h2 f2 => ⟨_, _, rfl, alK fun r1 k1 e1' f3 o1 z1 => ?_⟩⟩
      have E3 := Ext.trans (Ext.trans E f2) f3
      refine apJ2 ((L.ext f2).ext f3) E3 (by omega) o1 (nrP_I64 _) fun p4 c4 k2 L4 E4 => ⟨500 - (j + 1), by omega, rfl, rfl, j + 1, ?_, by omega, by omega, rfl, E4, ?_, ?_⟩
      · rw [i64_in (by omega) (by omega)]; rfl
      · rw [e1, List.map_append]; exact L4
      · rw [e1, List.sum_append]
        show IntKind.i64.wrap (((l.take j).map cut40).sum + cut40 l[j]) = ((l.take j).map cut40).sum + (cut40 l[j] + 0)
        have := cut40_bd l[j]
        unfold ExI at hS
        rw [i64_in (by omega) (by omega), Int.add_zero]
    · exact .inr hc
  generalize hns : (l.take j).map cut40 = ns at *
  have fin : Ent Tryz.prog B 6 #[.int .i64 ns.sum, .int .i64 (0 : Int)] (retE (fun y5 z5 => ∃ a6 b6, y5 = .tuple #[.int .i64 a6, .int .i64 b6] ∧
      Ent Tryz.prog B 7 #[.slice p2 n2 c2, .int .i64 (0 : Int)] (retE (fun c6 d6 => ∃ e6 f6, c6 = .tuple #[.int .i64 e6, .int .i64 f6] ∧
      Ent Tryz.prog B 8 #[] (retE (fun g6 i6 => ∃ j6, g6 = .bool j6 ∧
      (j6 = true → F1379_j50 B R p2 n2 c2 a6 e6 (decide (f6 = (0 : Int))) i6) ∧
      (j6 = false → F1379_j50 B R p2 n2 c2 a6 e6 false i6)) (pk R)) d6) (pk R)) z5) (pk R)) h' := by
    have hI : I64 ns.sum := by unfold ExI at hS; unfold I64; omega
    have hf : ∀ x ∈ ns.map nrP, isFin x = true := fun x hx => by
      obtain ⟨y, hy, rfl⟩ := List.mem_map.1 hx
      exact (nr_val (by have := hb y hy; omega)).1
    have ll := L.len
    rw [List.length_map, hlen] at ll
    refine K1343z hI fun h2 f2 => ⟨_, _, rfl, ?_⟩
    have E2 := Ext.trans E f2
    refine K1360 (ht.fr E2 id) (L.ext f2).ints L.len (by omega) hf (by decide) (by decide) fun h3 f3 => ⟨_, _, rfl, ?_⟩
    have E3 := Ext.trans E2 f3
    rw [sum_nr hb (by omega)]
    refine K1361 (ht.fr E3 id) fun h4 f4 => ⟨_, rfl, fun _ => ⟨fun _ => ?_, fun e => absurd e (by decide)⟩, fun e => (by cases e)⟩
    have E4 := Ext.trans E3 f4
    have L4 := ((L.ext f2).ext f3).ext f4
    rw [decide_eq_true rfl]
    refine ⟨fun _ => K1368 L4.ints L4.len (by omega) fun h5 f5 => ⟨_, rfl, ?_⟩, fun e => (by cases e)⟩
    rw [left_nr hb (by omega), decide_eq_true rfl]
    have L5 := L4.ext f5
    refine ⟨fun _ => K1382 L5.ints L5.len (by omega) ⟨_, rfl, ?_⟩, fun e => (by cases e)⟩
    rw [right_nr hb (by omega), decide_eq_true rfl]
    refine ⟨fun _ => K1383 L5.ints L5.len (by omega) fun h6 f6 => ⟨_, rfl, ?_⟩, fun e => (by cases e)⟩
    rw [pairs_nr _ rfl hb (by omega), decide_eq_true rfl]
    have L6 := L5.ext f6
    refine ⟨fun _ => K1384 L6.ints L6.len (by omega) fun h7 f7 => ⟨_, rfl, ?_⟩, fun e => (by cases e)⟩
    rw [kahan_nr hb (by omega), decide_eq_true rfl]
    have L7 := L6.ext f7
    refine ⟨fun _ => K1385 L7.ints L7.len (by omega) fun h8 f8 => ⟨_, rfl, ?_⟩, fun e => (by cases e)⟩
    rw [neum_nr hb (by omega), decide_eq_true rfl]
    exact H h8 (Ext.trans (Ext.trans (Ext.trans (Ext.trans E4 f5) f6) f7) f8)
  refine ⟨fun e => ⟨fun e2 => ?_, fun _ => fin⟩, fun e => ⟨fun x => (by cases x), fun _ => fin⟩⟩
  rcases done with d | d
  · exact d
  · exact absurd ⟨by have := of_decide_eq_true e; omega, by have := of_decide_eq_true e2; omega⟩ d
end Go.Proofs
