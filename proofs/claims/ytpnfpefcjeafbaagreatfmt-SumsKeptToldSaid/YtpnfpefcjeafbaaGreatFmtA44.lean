import Derived.Test.YtpnfpefcjeafbaaGreatFmtA42
import Derived.Test.YtpnfpefcjeafbaaGreatFmtA43
import Derived.Test.YtpnfpefcjeafbaaGreatFmtA33
import Derived.Test.YtpnfpefcjeafbaaGreatFmtA24
import Derived.Test.YtpnfpefcjeafbaaGreatFmtA09
import Derived.Test.YtpnfpefcjeafbaaGreatFmtA36
import Derived.Test.YtpnfpefcjeafbaaGreatFmtA13
import Derived.Test.YtpnfpefcjeafbaaGreatFmtA28
import Derived.Tactics
import Derived.Recover
import Derived.WalkKit
import Derived.Test.YtpnfpefcjeafbaaGreatFmtA12
import Derived.Test.YtpnfpefcjeafbaaGreatFmtA34
/- Here stand lemmas and contracts, in the order in which they are used. -/
set_option linter.unusedVariables false
set_option linter.unusedVariables false
/-! sums.Right, Pairs, Kahan, Neumaier. -/
namespace Go.Eng
open Go
/-- Added from the last one on. -/
def rightP (l : List Int) : Int := Go.Proofs.leftP l.reverse
/-- Added by halves. -/
def pairsF : Nat → List Int → Int
  | 0, _ => 0
  | k + 1, l => if l.length = 0 then 0 else if l.length = 1 then addP (nrm (l.headD 0)) 0 else addP (pairsF k (l.take (l.length / 2))) (pairsF k (l.drop (l.length / 2)))
def pairsP (l : List Int) : Int := pairsF l.length l
theorem pairsF_eq : ∀ (k j : Nat) (l : List Int), l.length ≤ k → l.length ≤ j → pairsF k l = pairsF j l
  | 0, 0, l, _, _ => rfl
  | 0, j + 1, l, h, _ => by
    have : l.length = 0 := by omega
    show 0 = (if l.length = 0 then 0 else _); rw [if_pos this]
  | k + 1, 0, l, _, h => by
    have : l.length = 0 := by omega
    show (if l.length = 0 then 0 else _) = 0; rw [if_pos this]
  | k + 1, j + 1, l, h1, h2 => by
    show (if l.length = 0 then 0 else if l.length = 1 then addP (nrm (l.headD 0)) 0 else addP (pairsF k (l.take (l.length / 2))) (pairsF k (l.drop (l.length / 2)))) = (if l.length = 0 then 0 else if l.length = 1 then addP (nrm (l.headD 0)) 0 else addP (pairsF j (l.take (l.length / 2))) (pairsF j (l.drop (l.length / 2))))
    by_cases a : l.length = 0
    · rw [if_pos a, if_pos a]
    by_cases b : l.length = 1
    · rw [if_neg a, if_neg a, if_pos b, if_pos b]
    rw [if_neg a, if_neg a, if_neg b, if_neg b]
    rw [pairsF_eq k j (l.take (l.length / 2)) (by rw [List.length_take]; omega) (by rw [List.length_take]; omega), pairsF_eq k j (l.drop (l.length / 2)) (by rw [List.length_drop]; omega) (by rw [List.length_drop]; omega)]
theorem pairsP_eq (l : List Int) : pairsP l = if l.length = 0 then 0 else if l.length = 1 then addP (nrm (l.headD 0)) 0 else addP (pairsP (l.take (l.length / 2))) (pairsP (l.drop (l.length / 2))) := by
  unfold pairsP
  rw [pairsF_eq l.length (l.length + 1) l (by omega) (by omega)]
  show (if l.length = 0 then 0 else if l.length = 1 then addP (nrm (l.headD 0)) 0 else addP (pairsF l.length (l.take (l.length / 2))) (pairsF l.length (l.drop (l.length / 2)))) = _
  rw [pairsF_eq l.length (l.take (l.length / 2)).length (l.take (l.length / 2)) (by rw [List.length_take]; omega) (Nat.le_refl _), pairsF_eq l.length (l.drop (l.length / 2)).length (l.drop (l.length / 2)) (by rw [List.length_drop]; omega) (Nat.le_refl _)]
/-- Added with a correction for each step. -/
def kahS (s : Int × Int) (x : Int) : Int × Int :=
  let y := subP (nrm x) s.2
  let t := addP s.1 y
  (t, subP (subP t s.1) y)
def kahanP (l : List Int) : Int := (l.foldl kahS (0, 0)).1
/-- Is the one's magnitude at most the other's? -/
def leA (a b : Int) : Bool := !isNaN a && !isNaN b && decide (a % 9223372036854775808 ≤ b % 9223372036854775808)
/-- Added with a correction for all steps. -/
def neuS (s : Int × Int) (x : Int) : Int × Int :=
  let t := addP s.1 (nrm x)
  (t, if leA (nrm x) s.1 then addP s.2 (addP (subP s.1 t) (nrm x)) else addP s.2 (addP (subP (nrm x) t) s.1))
def neumP (l : List Int) : Int := addP (l.foldl neuS (0, 0)).1 (l.foldl neuS (0, 0)).2
end Go.Eng
namespace Go.Proofs
open Go Go.Eng
variable {B : World} {R : Ending → Heap → Prop} {h : Heap}
/-- sums.Right. -/
theorem K1382 {p : Option Addr} {n c : Nat} {l : List Int} (I : IntsH h p l) (hn : l.length = n) (hl : n ≤ 100000) (H : R (.returned (.int .i64 (rightP l))) h) :
    Ent Tryz.prog B 10 #[.slice p n c] R h := by
  refine F1382_ok _ _ _ ⟨fun m vs h' => match vs with
    | [.slice p1 n1 c1, .float _ s, .int _ nn, .int _ i] => p = p1 ∧ n = n1 ∧ nn = (n : Int) ∧ h = h' ∧ ∃ j : Nat, i = (j : Int) ∧ j ≤ n ∧ m = n - j ∧ WI s (leftP (l.reverse.take j))
    | _ => False, n, ⟨rfl, rfl, rfl, rfl, 0, rfl, by omega, rfl, wi_zero⟩, ?_⟩
  rintro m h' _ _ _ s _ _ ⟨rfl, rfl, rfl, rfl, j, rfl, hj, rfl, W⟩ _
  refine ⟨fun e2 => ?_, fun e2 => ?_⟩
  · have hjn : j < n := by have := of_decide_eq_true e2; omega
    have hi : n - 1 - j < l.length := by omega
    have e3 : IntKind.i64.wrap (IntKind.i64.wrap ((n : Int) - (1 : Int)) - (j : Int)) = ((n - 1 - j : Nat) : Int) := by
      rw [i64_in (x := (n : Int) - 1) (by omega) (by omega), i64_in (by omega) (by omega)]; omega
    rw [e3]
    have hr : j < l.reverse.length := by rw [List.length_reverse]; omega
    have er : l.reverse[j] = l[n - 1 - j] := by
      rw [List.getElem_reverse]; congr 1; omega
    refine I.get hn hi (K54 ⟨_, rfl, WI.add W (wi_wd (I.1 _ (List.getElem_mem hi))) fun z hz => ⟨n - (j + 1), by omega, rfl, rfl, rfl, rfl, j + 1, ?_, by omega, rfl, ?_⟩⟩)
    · rw [i64_in (by omega) (by omega)]; rfl
    · rw [leftP_take hr, er]; exact hz
  · have hjn : j = n := by have := of_decide_eq_false e2; omega
    rw [hjn, List.take_of_length_le (by rw [List.length_reverse]; omega)] at W
    exact K56 W ⟨_, rfl, H⟩
/-- Floats at an address. -/
def FlS (h : Heap) (p : Option Addr) (l : List Int) : Prop := l = [] ∨ ∃ e o, p = some (⟨e, o, none⟩ : Addr) ∧ ∀ i (hi : i < l.length), cell? h ⟨e, o + i, none⟩ = some (.float .f64 (wd l[i]))
theorem FlsA.at {e : Nat} {l : List Int} (A : FlsA h e l) : FlS h (some ⟨e, 0, none⟩) l := by
  obtain ⟨cs, oc, hs, hc⟩ := A
  exact .inr ⟨e, 0, rfl, fun i hi => by rw [Nat.zero_add]; exact (oc.cell _).trans (hc i hi)⟩
theorem FlS.part {p : Option Addr} {l : List Int} {a c m : Nat} (F : FlS h p l) (ha : a + m ≤ l.length) (hc : l.length ≤ c) : FlS h (slP p a c 1) ((l.drop a).take m) := by
  rcases Nat.eq_zero_or_pos m with k | k
  · subst k; exact .inl (by simp)
  rcases F with e | ⟨b, o, e, g⟩
  · subst e; simp at ha; omega
  subst e
  refine .inr ⟨b, o + a, ?_, fun i hi => ?_⟩
  · unfold slP
    rw [if_neg (by omega), Nat.mul_one]
    simp [Addr.add]
  · rw [List.length_take, List.length_drop] at hi
    rw [List.getElem_take, List.getElem_drop, show o + a + i = o + (a + i) by omega]
    exact g _ (by omega)
/-- sums.pairs. -/
theorem K1389 : ∀ (n : Nat) {R : Ending → Heap → Prop} {p : Option Addr} {c : Nat} {l : List Int}, FlS h p l → (∀ x ∈ l, I64 x) → l.length = n → n ≤ c → n ≤ 100000 → (∀ w, WI w (pairsP l) → R (.returned (.float .f64 w)) h) →
    Ent Tryz.prog B 34 #[.slice p n c] R h := by
  intro n
  induction n using Nat.strongRecOn with
  | _ n ih =>
  intro R p c l F hi hn hc hl H
  have he := pairsP_eq l
  refine F1389_ok _ _ _ ⟨fun e => ?_, fun e => ⟨fun e2 => ?_, fun e2 => ⟨by decide, ?_⟩⟩⟩
  · have h0 : l.length = 0 := by have := of_decide_eq_true e; omega
    rw [if_pos h0] at he
    exact H 0 (by rw [he]; exact wi_zero)
  · have h1 : l.length = 1 := by have := of_decide_eq_true e2; omega
    rw [if_neg (by omega), if_pos h1] at he
    obtain ⟨x, rfl⟩ : ∃ x, l = [x] := by
      match l, h1 with
      | [x], _ => exact ⟨x, rfl⟩
    rcases F with e0 | ⟨b, o, rfl, g⟩
    · cases e0
    have g0 := g 0 (by simp)
    refine ⟨b, o, rfl, by decide, by omega, b, _, rfl, wd x, ?_, WI.add (wi_wd (hi x (by simp))) wi_zero fun z hz => H z (by rw [he]; exact hz)⟩
    exact g0
  · have hge : 2 ≤ n := by
      have h1 := of_decide_eq_false e
      have h2 := of_decide_eq_false e2
      omega
    rw [if_neg (by omega), if_neg (by omega), hn] at he
    have ed : IntKind.i64.wrap (Int.tdiv (n : Int) (2 : Int)) = ((n / 2 : Nat) : Int) := by
      have : Int.tdiv (n : Int) (2 : Int) = ((n / 2 : Nat) : Int) := rfl
      rw [this, i64_in (by omega) (by omega)]
    rw [ed]
    refine sl_to rfl (by omega) ⟨by decide, sl_from rfl (by omega) ?_⟩
    have F1 : FlS h (slP p 0 c 1) (l.take (n / 2)) := by
      have := F.part (a := 0) (m := n / 2) (c := c) (by omega) (by omega)
      rwa [List.drop_zero] at this
    have F2 : FlS h (slP p (n / 2) c 1) (l.drop (n / 2)) := by
      have := F.part (a := n / 2) (m := n - n / 2) (c := c) (by omega) (by omega)
      rwa [List.take_of_length_le (by rw [List.length_drop]; omega)] at this
    rw [Nat.sub_zero, Nat.sub_zero]
    refine ih (n / 2) (by omega) F1 (fun x hx => hi x (List.mem_of_mem_take hx)) (by rw [List.length_take]; omega) (by omega) (by omega) fun w1 W1 => ⟨_, rfl, ?_⟩
    refine ih (n - n / 2) (by omega) F2 (fun x hx => hi x (List.mem_of_mem_drop hx)) (by rw [List.length_drop]; omega) (by omega) (by omega) fun w2 W2 => ⟨_, rfl, WI.add W1 W2 fun z hz => H z (by rw [he]; exact hz)⟩
/-- sums.Pairs. -/
theorem K1383 {p : Option Addr} {n c : Nat} {l : List Int} (I : IntsH h p l) (hn : l.length = n) (hl : n ≤ 100000) (H : ∀ h', Ext h h' → R (.returned (.int .i64 (pairsP l))) h') :
    Ent Tryz.prog B 11 #[.slice p n c] R h := by
  refine F1383_ok _ _ _ (K1366 (φ := id) I hn hl (fun x h' _ k => K54 k) fun e2 h2 f2 l2 A => ⟨_, _, _, rfl, ?_⟩)
  rw [List.map_id] at A
  exact K1389 n A.at I.1 hn (Nat.le_refl _) hl fun w W => ⟨_, rfl, K56 W ⟨_, rfl, H h2 f2⟩⟩
theorem fold_take {S : Type} {f : S → Int → S} {s : S} {l : List Int} {j : Nat} (hj : j < l.length) : (l.take (j + 1)).foldl f s = f ((l.take j).foldl f s) l[j] := by
  rw [List.take_add_one, List.foldl_append, List.getElem?_eq_getElem hj]; rfl
/-- sums.Kahan. -/
theorem K1384 {p : Option Addr} {n c : Nat} {l : List Int} (I : IntsH h p l) (hn : l.length = n) (hl : n ≤ 100000) (H : ∀ h', Ext h h' → R (.returned (.int .i64 (kahanP l))) h') :
    Ent Tryz.prog B 12 #[.slice p n c] R h := by
  refine F1384_ok _ _ _ (K1366 (φ := id) I hn hl (fun x h' _ k => K54 k) fun e2 h2 f2 l2 A => ⟨_, _, _, rfl, ?_⟩)
  rw [List.map_id] at A
  obtain ⟨cs, oc, hs, hc⟩ := A
  refine ⟨fun m vs h' => match vs with
    | [.float _ s, .float _ k, .slice p1 n1 c1, .int _ nn, .int _ i] => p1 = some (⟨e2, 0, none⟩ : Addr) ∧ n = n1 ∧ nn = (n : Int) ∧ h2 = h' ∧ ∃ j : Nat, i = (j : Int) ∧ j ≤ n ∧ m = n - j ∧ WI s ((l.take j).foldl kahS (0, 0)).1 ∧ WI k ((l.take j).foldl kahS (0, 0)).2
    | _ => False, n, ⟨rfl, rfl, rfl, rfl, 0, rfl, by omega, rfl, wi_zero, wi_zero⟩, ?_⟩
  rintro m h' s k _ _ _ _ _ ⟨rfl, rfl, rfl, rfl, j, rfl, hj, rfl, W, V⟩ _
  refine ⟨fun e3 => ?_, fun e3 => ?_⟩
  · have hjl : j < l.length := by have := of_decide_eq_true e3; omega
    have hcell : cell? h2 ⟨e2, 0 + (j : Int).toNat * 1, none⟩ = some (.float .f64 (wd l[j])) := by
      rw [Int.toNat_natCast, Nat.mul_one, Nat.zero_add]
      exact (oc.cell _).trans (hc j hjl)
    refine ⟨e2, 0, rfl, by omega, by omega, e2, _, rfl, wd l[j], hcell, WI.sub (wi_wd (I.1 _ (List.getElem_mem hjl))) V fun y hy => WI.add W hy fun t ht => WI.sub ht W fun d hd => WI.sub hd hy fun c2 hc2 => ⟨n - (j + 1), by omega, rfl, rfl, rfl, rfl, j + 1, ?_, by omega, rfl, ?_⟩⟩
    · rw [i64_in (by omega) (by omega)]; rfl
    · rw [fold_take hjl]; exact ⟨ht, hc2⟩
  · have hjn : j = n := by have := of_decide_eq_false e3; omega
    rw [hjn, List.take_of_length_le (by omega)] at W
    exact K56 W ⟨_, rfl, H h2 f2⟩
/-- math.Abs. -/
theorem K94 {w : Nat} (hw : w < 18446744073709551616) (H : R (.returned (.float .f64 (w % 9223372036854775808))) h) : Ent Tryz.prog B 35 #[.float .f64 w] R h := by
  refine F94_ok _ (E117 ⟨_, rfl, ?_⟩)
  rw [andNot_top hw]
  exact E116 ⟨_, rfl, H⟩
theorem leA_ord {w s : Nat} {i j : Int} (hw : WI w i) (hs : WI s j) : (FloatKind.f64.format.order (w % 9223372036854775808) (s % 9223372036854775808) == some .lt || FloatKind.f64.format.order (w % 9223372036854775808) (s % 9223372036854775808) == some .eq) = leA i j := by
  have key : ∀ {w : Nat} {i : Int}, WI w i → ∃ a : Int, wd a = w % 9223372036854775808 ∧ I64 a ∧ isNaN a = isNaN i ∧ 0 ≤ a ∧ (isNaN i = false → a = i % 9223372036854775808) := fun {w i} hw => by
    have h1 := hw.1
    refine ⟨((w % 9223372036854775808 : Nat) : Int), ?_, ?_, ?_, by omega, fun hn => ?_⟩
    · unfold wd; omega
    · unfold I64; omega
    · rw [← hw.nan]
      have k : fE ((w % 9223372036854775808 : Nat) : Int) = fE (sg w) ∧ fT ((w % 9223372036854775808 : Nat) : Int) = fT (sg w) := by
        unfold fE fT sg
        split <;> omega
      unfold isNaN
      rw [k.1, k.2]
    · have := hw.eq hn
      rw [← this]
      unfold sg
      split <;> omega
  obtain ⟨a, a1, a2, a3, a4, a5⟩ := key hw
  obtain ⟨b, b1, b2, b3, b4, b5⟩ := key hs
  rw [← a1, ← b1]
  unfold leA
  cases hi : isNaN i
  · cases hj : isNaN j
    · rw [hi] at a3
      rw [hj] at b3
      rw [order_rk a2 b2 a3 b3]
      have ra : rk a = a := by unfold rk; rw [if_neg (by omega)]
      have rb : rk b = b := by unfold rk; rw [if_neg (by omega)]
      rw [ra, rb, ← a5 hi, ← b5 hj]
      unfold compareOfLessAndEq
      by_cases h1 : a < b
      · rw [if_pos h1]; simp; omega
      · rw [if_neg h1]
        by_cases h2 : a = b
        · rw [if_pos h2]; simp; omega
        · rw [if_neg h2]; simp; omega
    · rw [order_nan a2 b2 (.inr (by rw [b3]; exact hj))]; rfl
  · rw [order_nan a2 b2 (.inl (by rw [a3]; exact hi))]; rfl
/-- sums.Neumaier. -/
theorem K1385 {p : Option Addr} {n c : Nat} {l : List Int} (I : IntsH h p l) (hn : l.length = n) (hl : n ≤ 100000) (H : ∀ h', Ext h h' → R (.returned (.int .i64 (neumP l))) h') :
    Ent Tryz.prog B 13 #[.slice p n c] R h := by
  refine F1385_ok _ _ _ (K1366 (φ := id) I hn hl (fun x h' _ k => K54 k) fun e2 h2 f2 l2 A => ⟨_, _, _, rfl, ?_⟩)
  rw [List.map_id] at A
  obtain ⟨cs, oc, hs, hc⟩ := A
  refine ⟨fun m vs h' => match vs with
    | [.float _ s, .float _ k, .slice p1 n1 c1, .int _ nn, .int _ i] => p1 = some (⟨e2, 0, none⟩ : Addr) ∧ n = n1 ∧ nn = (n : Int) ∧ h2 = h' ∧ ∃ j : Nat, i = (j : Int) ∧ j ≤ n ∧ m = n - j ∧ WI s ((l.take j).foldl neuS (0, 0)).1 ∧ WI k ((l.take j).foldl neuS (0, 0)).2
    | _ => False, n, ⟨rfl, rfl, rfl, rfl, 0, rfl, by omega, rfl, wi_zero, wi_zero⟩, ?_⟩
  rintro m h' s k _ _ _ _ _ ⟨rfl, rfl, rfl, rfl, j, rfl, hj, rfl, W, V⟩ _
  refine ⟨fun e3 => ?_, fun e3 => ?_⟩
  · have hjl : j < l.length := by have := of_decide_eq_true e3; omega
    have hcell : cell? h2 ⟨e2, 0 + (j : Int).toNat * 1, none⟩ = some (.float .f64 (wd l[j])) := by
      rw [Int.toNat_natCast, Nat.mul_one, Nat.zero_add]
      exact (oc.cell _).trans (hc j hjl)
    have X := wi_wd (I.1 _ (List.getElem_mem hjl))
    have ns : IntKind.i64.wrap ((j : Int) + (1 : Int)) = ((j + 1 : Nat) : Int) := by rw [i64_in (by omega) (by omega)]; rfl
    refine ⟨e2, 0, rfl, by omega, by omega, e2, _, rfl, wd l[j], hcell, WI.add W X fun t ht => K94 X.1 ⟨_, rfl, K94 W.1 ⟨_, rfl, ?_⟩⟩⟩
    rw [leA_ord X W]
    refine ⟨fun e4 => WI.sub W ht fun d hd => WI.add hd X fun a ha => WI.add V ha fun b hb => ⟨n - (j + 1), by omega, rfl, rfl, rfl, rfl, j + 1, ns, by omega, rfl, ?_⟩, fun e4 => WI.sub X ht fun d hd => WI.add hd W fun a ha => WI.add V ha fun b hb => ⟨n - (j + 1), by omega, rfl, rfl, rfl, rfl, j + 1, ns, by omega, rfl, ?_⟩⟩
    · rw [fold_take hjl]
      refine ⟨ht, ?_⟩
      show WI b (if leA _ _ = true then _ else _)
      rw [if_pos e4]; exact hb
    · rw [fold_take hjl]
      refine ⟨ht, ?_⟩
      show WI b (if leA _ _ = true then _ else _)
      rw [if_neg (by rw [e4]; decide)]; exact hb
  · have hjn : j = n := by have := of_decide_eq_false e3; omega
    rw [hjn, List.take_of_length_le (by omega)] at W V
    exact WI.add W V fun z hz => K56 hz ⟨_, rfl, H h2 f2⟩
end Go.Proofs
set_option linter.unusedVariables false
/-! A list of structs that is being made; plumblaw5.total. -/
namespace Go.Eng
open Go
/-- A list of rows of w values that is being made, in blocks that g has not. -/
structure Lw (w : Nat) (g h : Heap) (p : Option Addr) (n c : Nat) (vs : List Value) : Prop where
  sl : vs = [] ∨ ∃ b o cs, p = some ⟨b, o, none⟩ ∧ Own h b cs ∧ ∀ i (hi : i < vs.length), cs[o + i]? = some vs[i]
  len : vs.length = n * w
  room : c = 0 ∨ ∃ b o cs, p = some ⟨b, o, none⟩ ∧ Own h b cs ∧ o + c * w ≤ cs.size ∧ g.size ≤ b
  le : n ≤ c
  pt : Pt p
theorem Lw.nil {w : Nat} {g h : Heap} : Lw w g h none 0 0 [] := ⟨.inl rfl, by simp, .inl rfl, Nat.le_refl _, .inl rfl⟩
theorem Lw.ext {w : Nat} {g h h' : Heap} {p : Option Addr} {n c : Nat} {vs : List Value} (L : Lw w g h p n c vs) (f : Ext h h') : Lw w g h' p n c vs := by
  refine ⟨?_, L.len, ?_, L.le, L.pt⟩
  · rcases L.sl with k | ⟨b, o, cs, a1, a2, a3⟩
    · exact .inl k
    · exact .inr ⟨b, o, cs, a1, a2.ext f, a3⟩
  · rcases L.room with k | ⟨b, o, cs, a1, a2, a3⟩
    · exact .inl k
    · exact .inr ⟨b, o, cs, a1, a2.ext f, a3⟩
end Go.Eng
namespace Go.Proofs
open Go Go.Eng
variable {B : World} {R : Ending → Heap → Prop} {h : Heap}
theorem NumS.lt {K : Nat} {neg : Bool} {p : Option Addr} {n : Nat} {e v : Int} (N : NumS K h neg p n e v) (hn : 0 < n) : ∀ b o, p = some ⟨b, o, none⟩ → b < h.size := by
  obtain ⟨M, N1, _⟩ := N
  intro b o hp
  rcases N1.d.sl with k | ⟨b', o', cs, e1, e2, _⟩
  · have := N1.d.len; rw [k] at this; simp at this; omega
  · rw [hp] at e1; cases e1; exact e2.lt
theorem NumS.fr2 {K : Nat} {h' : Heap} {neg : Bool} {p : Option Addr} {n : Nat} {e v : Int} {S : Nat → Prop} (H : NumS K h neg p n e v) (f : Fr S h h') (hp : 0 < n → ∀ b o, p = some ⟨b, o, none⟩ → ¬ S b) : NumS K h' neg p n e v := by
  rcases Nat.eq_zero_or_pos n with a | a
  · obtain ⟨M, N1, N2⟩ := H
    have hd : digs B30 M = [] := List.eq_nil_of_length_eq_zero (by rw [N1.d.len, a])
    refine ⟨M, ⟨⟨N1.d.pt, .inl hd, N1.d.len, N1.d.dig, N1.d.trim⟩, N1.le, N1.zero, N1.pos⟩, N2⟩
  · exact H.fr f (hp a)
end Go.Proofs
set_option linter.unusedVariables false
/-! plumblaw5.SumsOnce. -/
namespace Go.Proofs
open Go Go.Eng
variable {B : World} {R : Ending → Heap → Prop} {h : Heap}
theorem sumV_dir (w : Int) (l : List Int) : sumV w l = pz (dirV w.toNat (sV l) (-((1074 : Nat) : Int))) := by
  obtain ⟨N, hN⟩ : ∃ N, N = 1074 := ⟨_, rfl⟩
  unfold sumV
  have h1 : ((2 ^ N : Nat) : Int) = (2 : Int) ^ N := by rw [Int.natCast_pow]; rfl
  rw [uw_pow hN, h1, (dirV_scale w.toNat (sV l) (-((2148 : Nat) : Int)) N).1]
  congr 2
  omega
end Go.Proofs
namespace Go.Proofs
open Go Go.Eng
/-- plumb/round.FromInt -/
def F1343 (B : World) (R : Po) (a0 b0 : Int) (h : Heap) : Prop :=
 alW h (.cells #[.int .i64 a0] 3) fun c0 d0 =>
 iP c0 0 fun e0 f0 => ∃ g0, cI d0 e0 f0 .i64 g0 ∧
 Ec B 25 #[.float .f64 (FloatKind.f64.nearest g0)] (retE (fun i0 j0 => ∃ k0, i0 = .int .i64 k0 ∧
 Ec B 24 #[.int .i64 b0, .int .i64 k0, .bool true, .func (.func 26) #[] #[.pointer (some ⟨c0, 0, none⟩)]] (retE (fun l0 m0 => ∃ n0 o0, l0 = .tuple #[.int .i64 n0, .int .i64 o0] ∧
 R (.returned (.tuple #[.int .i64 n0, .int .i64 o0])) m0)
(pk R)) j0)
(pk R)) d0
def F1343_L : Nat → List (Nat × TypeDesc) := fun _ => []
theorem F1343_ok {B : World} {R : Ending → Heap → Prop} (a0 b0 : Int) {h : Heap} (H : F1343 B R a0 b0 h) : Ec B 6 #[.int .i64 a0, .int .i64 b0] R h :=
 Ek Tryz.func6 (by kernel_rfl) (by kernel_rfl) (by kernel_rfl) F1343_L [] (by kernel_rfl) H

/-- plumb/round.FromInt$1 -/
def F1345 (B : World) (R : Po) (a0 : OA) (h : Heap) : Prop :=
 alW h (.cells #[.pointer none, .int .i64 0, .bool false] 46) fun b0 c0 =>
 isP a0 fun d0 e0 => ∃ f0, cI c0 d0 e0 .i64 f0 ∧
 Ec B 27 #[.int .i64 f0] (retE (fun g0 i0 => ∃ j0, g0 = .pointer j0 ∧
 iP b0 0 fun k0 l0 => stC i0 k0 l0 (.pointer j0) fun m0 =>
 stC m0 k0 (l0 + 1) (.int .i64 (0 : Int)) fun n0 =>
 stC n0 k0 (l0 + 1 + 1) (.bool false) fun o0 =>
 iP b0 0 fun p0 q0 =>
∃ r0, cell? o0 ⟨p0, q0, none⟩ = some (.pointer r0) ∧
∃ s0, cell? o0 ⟨p0, q0 + 1, none⟩ = some (.int .i64 s0) ∧
∃ t0, cell? o0 ⟨p0, q0 + 1 + 1, none⟩ = some (.bool t0) ∧
 R (.returned (.agg #[.pointer r0, .int .i64 s0, .bool t0])) o0)
(pk R)) c0
def F1345_L : Nat → List (Nat × TypeDesc) := fun _ => []
theorem F1345_ok {B : World} {R : Ending → Heap → Prop} (a0 : OA) {h : Heap} (H : F1345 B R a0 h) : Ec B 26 #[.pointer a0] R h :=
 Ek Tryz.func26 (by kernel_rfl) (by kernel_rfl) (by kernel_rfl) F1345_L [] (by kernel_rfl) H
end Go.Proofs
set_option linter.unusedVariables false
/-! The float of an int; round.FromInt down. -/
namespace Go.Proofs
open Go Go.Eng
variable {B : World} {R : Ending → Heap → Prop} {h : Heap}
/-- The pattern of an int's nearest float. -/
def nrP (n : Int) : Int := pat (decide (n < 0)) (if n = 0 then 0 else rung n.natAbs 0)
theorem nrP_I64 (n : Int) : I64 (nrP n) := by
  unfold nrP
  split
  · exact pat_I64 (by decide)
  · exact pat_I64 (rung63' _ _)
theorem nearest_wd (n : Int) : FloatKind.f64.nearest n = wd (nrP n) := by
  have h2 : FloatKind.f64.nearest n = Ieee.double.nearest (decide (n < 0)) n.natAbs 0 := rfl
  rw [h2]
  unfold nrP
  by_cases hk : n = 0
  · subst hk; rw [if_pos rfl, wd_pat _ (by decide)]; rfl
  · rw [if_neg hk, nearest_rung _ _ (by omega), wd_pat _ (rung63' _ _)]
/-- The closure of round.FromInt. -/
theorem K1345 {rx : Nat} {n : Int} (hn : I64 n) (Ox : Own h rx #[.int .i64 n]) (H : ∀ r q h', Ext h h' → IntAt h' r q n → R (.returned (.agg #[.pointer (some ⟨r, 0, none⟩), .int .i64 (0 : Int), .bool false])) h') :
    Ent Tryz.prog B 26 #[.pointer (some ⟨rx, 0, none⟩)] R h := by
  unfold I64 at hn
  refine F1345_ok _ (alK fun r1 h1 e1 f1 o1 z1 => ⟨rx, 0, rfl, n, ((Ox.ext f1).cell _).trans rfl, K120 hn.1 hn.2 fun r q h2 f2 l1 l2 l3 I2 => ⟨_, rfl, r1, 0, rfl, ?_⟩⟩)
  refine (o1.ext f2).stC (by simp) rfl fun oa fa => oa.stC (by simp) rfl fun ob fb => ob.stC (by simp) rfl fun oc fc => ⟨r1, 0, rfl, _, oc.cell _, _, oc.cell _, _, oc.cell _, ?_⟩
  have fabc := Fr.trans (S := fun x => x = r1) (Fr.trans (S := fun x => x = r1) fa fb fun _ _ e => e) fc fun _ _ e => e
  exact H r q _ (Fr.trans (Ext.trans f1 f2) fabc fun x hx e => by omega) (I2.fr fabc (by omega) (by omega))
/-- round.settle, of what one holds. -/
theorem K1068n {w near v : Int} {K : Nat} {ok : Bool} {f : Nat} {c1 : Value} (h0 : 0 ≤ w) (h4 : w < 4) (hK : K ≤ 5000)
    (Hf : ok = true → ∀ {R' : Ending → Heap → Prop} h', Ext h h' → (∀ r q m e h'', Ext h' h'' → IntAt h'' r q m → 0 ≤ e + (K : Int) → e ≤ 7000 → bl m.natAbs ≤ 12000 → m * 2 ^ (e + (K : Int)).toNat = v → R' (.returned (.agg #[.pointer (some ⟨r, 0, none⟩), .int .i64 e, .bool false])) h'') →
      EntV Tryz.prog B (.func (.func f) #[] #[c1]) #[] R' h')
    (H : ∀ h', Ext h h' → R (.returned (.tuple #[.int .i64 (if w = 0 ∨ ok = false ∨ v = 0 then near else dirV w.toNat v (-K)), .int .i64 (0 : Int)])) h') :
    Ent Tryz.prog B 24 #[.int .i64 w, .int .i64 near, .bool ok, .func (.func f) #[] #[c1]] R h := by
  refine F1068_ok _ _ _ _ (K1076 (by omega) h4 fun wv h1 f1 W1 hone => ⟨_, _, rfl, alK fun r2 h2 e2 f2 o2 z2 => ⟨r2, 0, rfl, o2.stC (by simp) hone fun oa fa => ?_⟩⟩)
  generalize setCell h2 _ _ = h3 at *
  have oa : Own h3 r2 #[wv] := oa
  have F3 : Ext h h3 := Fr.trans (Ext.trans f1 f2) fa fun x hx e => by have := f1.size; omega
  have W3 : WayV h3 w.toNat wv := W1.ext (Fr.trans f2 fa fun x hx e => by omega)
  refine ⟨fun e => (by cases e), fun _ => ⟨fun e => ?_, fun e => ?_⟩⟩
  · have hw : w = 0 := of_decide_eq_true e
    have HH := H h3 F3
    rw [if_pos (.inl hw)] at HH
    exact ⟨fun _ => HH, fun e => (by cases e)⟩
  have hw : w ≠ 0 := of_decide_eq_false e
  cases hok : ok
  · have HH := H h3 F3
    rw [if_pos (.inr (.inl hok))] at HH
    exact ⟨fun _ => HH, fun e => (by cases e)⟩
  refine ⟨fun e => (by cases e), fun _ => ?_⟩
  refine Hf hok h3 F3 fun r q m e h4 f4 I4 g1 g2 hb hv => ⟨_, _, _, rfl, ?_⟩
  refine alK fun r5 h5 e5 f5 o5 z5 => ⟨r5, 0, rfl, o5.stC (by simp) rfl fun oq fq => oq.stC (by simp) rfl fun or fr => or.stC (by simp) rfl fun os fs => ?_⟩
  have fqs := Fr.trans (S := fun x => x = r5) (Fr.trans (S := fun x => x = r5) fq fr fun _ _ e => e) fs fun _ _ e => e
  generalize setCell (setCell (setCell h5 _ _) _ _) _ _ = h6 at *
  have os : Own h6 r5 #[.pointer (some ⟨r, 0, none⟩), .int .i64 e, .bool false] := os
  have E46 : Ext h4 h6 := Fr.trans f5 fqs fun x hx e => by omega
  have I6 := I4.ext E46
  have O6 := (oa.ext f4).ext E46
  have E6 := Ext.trans (Ext.trans F3 f4) E46
  have hp : (0 : Int) < 2 ^ (e + (K : Int)).toNat := Int.pow_pos (by decide)
  refine ⟨r5, 0, rfl, r5, 0, rfl, _, os.cell _, K75 I6 ⟨_, rfl, fun e1 => ?_, fun e1 => ?_⟩⟩
  · have hm := Int.sign_eq_zero_iff_zero.1 (of_decide_eq_true e1)
    have hv0 : v = 0 := by rw [← hv, hm, Int.zero_mul]
    have HH := H h6 E6
    rw [if_pos (.inr (.inr hv0))] at HH
    exact HH
  have hm : m ≠ 0 := fun hm => of_decide_eq_false e1 (by rw [hm]; rfl)
  have hv0 : v ≠ 0 := by rw [← hv]; exact Int.mul_ne_zero hm (by omega)
  refine ⟨r5, 0, rfl, _, os.cell _, _, os.cell _, _, os.cell _, r2, 0, rfl, _, O6.cell _, ?_⟩
  refine K1057 ((W3.ext f4).ext E46) hone I6 (by omega) (by omega) (by omega) fun h7 f7 => ⟨_, _, rfl, ?_⟩
  have HH := H h7 (Ext.trans E6 f7)
  obtain ⟨d1, d2⟩ := dirV_scale w.toNat m (-(K : Int)) (e + (K : Int)).toNat
  rw [hv, show -(K : Int) + ((e + (K : Int)).toNat : Int) = e by omega] at d1
  rw [if_neg (fun x => by rcases x with x | x | x; exact hw x; rw [hok] at x; cases x; exact hv0 x), d1] at HH
  exact HH
theorem ev1z {f : Nat} {p : Value} (H : Ent Tryz.prog B f #[p] R h) : EntV Tryz.prog B (.func (.func f) #[] #[p]) #[] R h := H
end Go.Proofs
