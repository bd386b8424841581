import Derived.Test.YtkfafikejdhccaaGreatDoorA34
import Derived.Test.YtkfafikejdhccaaGreatDoorA36
import Derived.Test.YtkfafikejdhccaaGreatDoorA35
/- Here stand lemmas: the walk of ExpansionLooks. -/
set_option linter.unusedVariables false
set_option linter.unusedVariables false
namespace Go.Proofs
open Go Go.Eng
variable {B : World} {R : Ending → Heap → Prop} {h : Heap}
/-- The sign of a list's last float. -/
def signV (xs : List Int) : Int := match xs.getLast? with | none => 0 | some x => if x < 0 then -1 else 1
theorem IntsH.last {p : Option Addr} {xs : List Int} {n : Nat} (I : IntsH h p xs) (hn : xs.length = n) (h0 : n ≠ 0) (hlim : n ≤ 1000000000) {K : Int → Prop} (k : ∀ x, xs.getLast? = some x → I64 x → xs[n - 1]? = some x → K x) :
    ixW p n (IntKind.i64.wrap (((n : Nat) : Int) - (1 : Int))) 1 fun b o => isP (some ⟨b, o, none⟩) fun b o => ∃ x, cell? h ⟨b, o, none⟩ = some (.int .i64 x) ∧ K x := by
  have w : IntKind.i64.wrap (((n : Nat) : Int) - (1 : Int)) = ((n - 1 : Nat) : Int) := by rw [i64_in (by omega) (by omega)]; omega
  rw [w]
  have hl : n - 1 < xs.length := by omega
  refine I.get hn hl (k _ ?_ (I.1 _ (List.getElem_mem hl)) (List.getElem?_eq_getElem hl))
  rw [List.getLast?_eq_getElem?, List.getElem?_eq_getElem (by omega)]
  subst hn; rfl
/-- expansion.Sign. -/
theorem K47 {p : Option Addr} {n c : Nat} {xs : List Int} (I : IntsH h p xs) (hn : xs.length = n) (H : ∀ h', Ext h h' → R (.returned (.tuple #[.int .i64 (if validP xs then signV xs else 0), .int .i64 (if validP xs then 0 else 1)])) h') : Ent Tryz.prog B 47 #[.slice p n c] R h := by
  refine F47_ok _ _ _ (alK fun r h3 e3 f3 o3 z3 => K87 (ss := [(p, n, c, xs)]) o3 rfl (by decide) (fun s hs => ?_) ⟨_, rfl, ?_⟩)
  · rw [List.mem_singleton.1 hs]; exact ⟨I.ext f3, hn⟩
  have hall : (([(p, n, c, xs)] : List (Option Addr × Nat × Nat × List Int)).all fun s => validP s.2.2.2) = validP xs := by simp
  rw [hall]
  have H3 := H h3 f3
  cases hv : validP xs
  · rw [hv] at H3
    exact ⟨fun _ => H3, fun e => absurd e (by decide)⟩
  rw [hv] at H3
  simp only [if_true] at H3
  have hl := validP_len hv
  refine ⟨fun e => absurd e (by decide), fun _ => ⟨fun e => ?_, fun e => ?_⟩⟩
  · have h0 : xs = [] := List.eq_nil_of_length_eq_zero (by have := of_decide_eq_true e; omega)
    rw [h0] at H3; exact H3
  · refine (I.ext f3).last hn (by have := of_decide_eq_false e; omega) (by omega) fun x hx _ _ => ?_
    unfold signV at H3
    rw [hx] at H3
    refine ⟨fun e => ?_, fun e => ?_⟩
    · have := of_decide_eq_true e
      simp only [if_pos this] at H3; exact H3
    · have := of_decide_eq_false e
      simp only [if_neg this] at H3; exact H3
/-- plumbref7.Sign. -/
theorem K102 {p : Option Addr} {n c : Nat} {xs : List Int} (I : IntsH h p xs) (hn : xs.length = n) (hlim : n ≤ 1000000000) (H : R (.returned (.int .i64 (signV xs))) h) : Ent Tryz.prog B 102 #[.slice p n c] R h := by
  refine F102_ok _ _ _ ⟨fun e => ?_, fun e => ?_⟩
  · have h0 : xs = [] := List.eq_nil_of_length_eq_zero (by have := of_decide_eq_true e; omega)
    rw [h0] at H; exact H
  · refine I.last hn (by have := of_decide_eq_false e; omega) (by omega) fun x hx _ _ => ?_
    unfold signV at H
    rw [hx] at H
    refine ⟨fun e => ?_, fun e => ?_⟩
    · have := of_decide_eq_true e
      simp only [if_pos this] at H; exact H
    · have := of_decide_eq_false e
      simp only [if_neg this] at H; exact H
/-- The floats added up, from the least one on. -/
def estV (s : Int) : List Int → Int
  | [] => s
  | x :: r => estV (addP s x) r
theorem wi_zero : WI 0 0 := ⟨by decide, by decide⟩
/-- expansion.Estimate. -/
theorem K100 {p : Option Addr} {n c : Nat} {xs : List Int} (I : IntsH h p xs) (hn : xs.length = n) (H : ∀ h', Ext h h' → R (.returned (.tuple #[.int .i64 (if validP xs then estV 0 xs else 0), .int .i64 (if validP xs then 0 else 1)])) h') : Ent Tryz.prog B 100 #[.slice p n c] R h := by
  refine F100_ok _ _ _ (alK fun r h3 e3 f3 o3 z3 => K87 (ss := [(p, n, c, xs)]) o3 rfl (by decide) (fun s hs => ?_) ⟨_, rfl, ?_⟩)
  · rw [List.mem_singleton.1 hs]; exact ⟨I.ext f3, hn⟩
  have hall : (([(p, n, c, xs)] : List (Option Addr × Nat × Nat × List Int)).all fun s => validP s.2.2.2) = validP xs := by simp
  rw [hall]
  have H3 := H h3 f3
  cases hv : validP xs
  · rw [hv] at H3
    exact ⟨fun _ => H3, fun e => absurd e (by decide)⟩
  rw [hv] at H3
  simp only [if_true] at H3
  have hl := validP_len hv
  refine ⟨fun e => absurd e (by decide), fun _ => ?_⟩
  refine ⟨fun k vs h' => match vs with
    | [.float f w, .slice p1 n1 c1, .int _ y, .int _ i] => f = .f64 ∧ p = p1 ∧ n = n1 ∧ c = c1 ∧ y = (n : Int) ∧ h3 = h' ∧ ∃ j : Nat, i = (j : Int) ∧ j ≤ n ∧ k = n - j ∧ ∃ s, WI w s ∧ estV s (xs.drop j) = estV 0 xs
    | _ => False, n, ⟨rfl, rfl, rfl, rfl, rfl, rfl, 0, rfl, by omega, by omega, 0, wi_zero, rfl⟩, ?_⟩
  rintro k h1 w _ _ _ _ _ ⟨_, rfl, rfl, rfl, rfl, rfl, j, rfl, hj, rfl, s, hw, hg⟩ _
  refine ⟨fun e => ?_, fun e => ?_⟩
  · have hjn : j < xs.length := by have := of_decide_eq_true e; omega
    have hd : xs.drop j = xs[j] :: xs.drop (j + 1) := List.drop_eq_getElem_cons hjn
    rw [hd] at hg
    have hI : I64 xs[j] := I.1 _ (List.getElem_mem hjn)
    refine (I.ext f3).get hn hjn (K54 ⟨_, rfl, hw.add (wi_wd hI) fun z hz => ⟨n - (j + 1), by omega, rfl, rfl, rfl, rfl, rfl, rfl, j + 1, ?_, by omega, rfl, _, hz, ?_⟩⟩)
    · rw [i64_in (by omega) (by omega)]; rfl
    · rw [addP_nr]; exact hg
  · have hjn : j = n := by have := of_decide_eq_false e; omega
    rw [List.drop_of_length_le (by omega)] at hg
    have hg : s = estV 0 xs := hg
    refine K56 hw ⟨_, rfl, ?_⟩
    rw [hg]; exact H3
/-- plumbref7.Estimate. -/
theorem K103 {p : Option Addr} {n c : Nat} {xs : List Int} (I : IntsH h p xs) (hn : xs.length = n) (hlim : n ≤ 1000000000) (H : ∀ h', Ext h h' → R (.returned (.int .i64 (estV 0 xs))) h') : Ent Tryz.prog B 103 #[.slice p n c] R h := by
  refine F103_ok _ _ _ ⟨fun k vs h' => match vs with
    | [.slice p1 n1 c1, .int _ s, .int _ i] => p = p1 ∧ n = n1 ∧ c = c1 ∧ Ext h h' ∧ ∃ j : Nat, i = (j : Int) ∧ j ≤ n ∧ k = n - j ∧ I64 s ∧ estV s (xs.drop j) = estV 0 xs
    | _ => False, n, ⟨rfl, rfl, rfl, Fr.rfl', 0, rfl, by omega, by omega, ⟨by decide, by decide⟩, rfl⟩, ?_⟩
  rintro k h1 _ _ _ s _ ⟨rfl, rfl, rfl, F, j, rfl, hj, rfl, hs, hg⟩ _
  refine ⟨fun e => ?_, fun e => ?_⟩
  · have hjn : j < xs.length := by have := of_decide_eq_true e; omega
    have hd : xs.drop j = xs[j] :: xs.drop (j + 1) := List.drop_eq_getElem_cons hjn
    rw [hd] at hg
    have hI : I64 xs[j] := I.1 _ (List.getElem_mem hjn)
    refine (I.ext F).get hn hjn (K155 hs hI fun h' f => ⟨_, rfl, n - (j + 1), by omega, rfl, rfl, rfl, Ext.trans F f, j + 1, ?_, by omega, rfl, addP_I64 _ _, hg⟩)
    rw [i64_in (by omega) (by omega)]; rfl
  · have hjn : j = n := by have := of_decide_eq_false e; omega
    rw [List.drop_of_length_le (by omega)] at hg
    have hg : s = estV 0 xs := hg
    rw [hg]; exact H h1 F
end Go.Proofs
set_option linter.unusedVariables false
namespace Go.Proofs
open Go Go.Eng
variable {B : World} {R : Ending → Heap → Prop} {h : Heap}
/-- Compressing, downward: what is left, and the list, the least one first; none: a step was not exact. -/
def downP (q : Int) (acc : List Int) : List Int → Option (Int × List Int)
  | [] => some (q, acc)
  | y :: r => if sumOk (sumH q y) (fstL q y) q y then (if cls (fstL q y) = 0 then downP (sumH q y) acc r else downP (fstL q y) (sumH q y :: acc) r) else none
/-- Upward. -/
def upP (out : List Int) (q : Int) : List Int → Option (List Int)
  | [] => some (addL out q)
  | x :: r => if sumOk (sumH x q) (fstL x q) x q then upP (addL out (fstL x q)) (sumH x q) r else none
def compP (xs : List Int) : Option (List Int) :=
  match xs.reverse with
  | [] => some []
  | x :: r => match downP x [] r with
    | some (q, l) => upP [] q l
    | none => none
def compAns (xs : List Int) : List Int × Int := if validP xs then ansOf (compP xs) else ([], 1)
theorem fstL_I64 (a b : Int) : I64 (fstL a b) := subP_I64 _ _
theorem rev_last {xs rest : List Int} {x0 : Int} (h : xs.reverse = x0 :: rest) : xs.length = rest.length + 1 ∧ xs[xs.length - 1]? = some x0 ∧ ∀ j (hj : j < rest.length), xs[xs.length - 2 - j]? = some rest[j] := by
  have hl : xs.length = rest.length + 1 := by have := congrArg List.length h; simpa using this
  have g : ∀ i, i < xs.length → xs[xs.length - 1 - i]? = (x0 :: rest)[i]? := fun i hi => by rw [← h, List.getElem?_reverse hi]
  refine ⟨hl, ?_, fun j hj => ?_⟩
  · have := g 0 (by omega)
    rw [Nat.sub_zero] at this; rw [this]; rfl
  · have := g (j + 1) (by omega)
    rw [show xs.length - 1 - (j + 1) = xs.length - 2 - j by omega] at this
    rw [this, List.getElem?_cons_succ, List.getElem?_eq_getElem hj]
/-- expansion.Compress. -/
theorem K46 {p : Option Addr} {n c : Nat} {xs : List Int} (ht : TabH h) (I : IntsH h p xs) (hn : xs.length = n)
    (H : ∀ q m c' h', Ext h h' → Lj h h' q m c' (compAns xs).1 → R (.returned (.tuple #[.slice q m c', .int .i64 (compAns xs).2])) h') : Ent Tryz.prog B 46 #[.slice p n c] R h := by
  refine F46_ok _ _ _ (alK fun r3 h4 e4 f4 o4 z4 => alK fun r5 h6 e6 f6 o6 z6 => alK fun r7 h8 e8 f8 o8 z8 => ?_)
  have F8 := Ext.trans f4 (Ext.trans f6 f8)
  have O3 := (o4.ext f6).ext f8
  have O5 := o6.ext f8
  have hne : r5 ≠ r3 := by omega
  refine K87 (ss := [(p, n, c, xs)]) o8 rfl (by decide) (fun s hs => ?_) ⟨_, rfl, ?_⟩
  · rw [List.mem_singleton.1 hs]; exact ⟨I.ext F8, hn⟩
  have hall : (([(p, n, c, xs)] : List (Option Addr × Nat × Nat × List Int)).all fun s => validP s.2.2.2) = validP xs := by simp
  rw [hall]
  unfold compAns at H
  cases hv : validP xs
  · rw [hv] at H
    exact ⟨fun _ => ⟨fun _ => expEnd O3 O5 hne fun h' f => H none 0 0 h' (Fr.trans F8 f fun x hx e => by omega) Lj.nil, fun e => (by cases e)⟩, fun e => absurd e (by decide)⟩
  rw [hv] at H
  have hl := validP_len hv
  refine ⟨fun e => absurd e (by decide), fun _ => ⟨fun e => ?_, fun e => ?_⟩⟩
  · have h0 : xs = [] := List.eq_nil_of_length_eq_zero (by have := of_decide_eq_true e; omega)
    subst h0
    exact expEnd O3 O5 hne fun h' f => H none 0 0 h' (Fr.trans F8 f fun x hx e => by omega) Lj.nil
  have hn0 : n ≠ 0 := by have := of_decide_eq_false e; omega
  obtain ⟨x0, rest, hrev⟩ : ∃ x0 rest, xs.reverse = x0 :: rest := by
    cases hr : xs.reverse with
    | nil => have h1 := congrArg List.length hr; rw [List.length_reverse, List.length_nil] at h1; omega
    | cons a b => exact ⟨a, b, rfl⟩
  obtain ⟨hlr, hx0, hrest⟩ := rev_last hrev
  have hcomp : compP xs = match downP x0 [] rest with | some (q, l) => upP [] q l | none => none := by unfold compP; rw [hrev]
  refine ⟨by omega, by omega, by omega, by omega, ?_⟩
  rw [Int.toNat_natCast, Nat.mul_one]
  refine alK fun r50 h51 e51 f51 o51 z51 => ?_
  have ms : (mkCells #[Value.int .i64 0] n).size = n := by simp [mkCells]
  have F51 := Ext.trans F8 f51
  have hr50 : h.size ≤ r50 := by have := F8.size; omega
  have s6 := f6.size
  have s8 := f8.size
  refine (I.ext F51).last hn hn0 (by omega) fun x hx hxI hx2 => ?_
  have hxx : x = x0 := by rw [← hn, hx0] at hx2; exact (Option.some.inj hx2).symm
  subst hxx
  have w1 : IntKind.i64.wrap (((n : Nat) : Int) - (1 : Int)) = ((n - 1 : Nat) : Int) := by rw [i64_in (by omega) (by omega)]; omega
  rw [w1]
  refine ⟨fun k vs h' => match vs with
    | [.slice p1 n1 c1, .pointer a, .pointer b, .int _ nn, .slice g gn gc, .int _ at', .int _ q, .int _ nm, .int _ i] => p = p1 ∧ n = n1 ∧ c = c1 ∧ a = some (⟨r3, 0, none⟩ : Addr) ∧ b = some (⟨r5, 0, none⟩ : Addr) ∧ nn = (n : Int) ∧ g = some (⟨r50, 0, none⟩ : Addr) ∧ n = gn ∧ n = gc ∧ nm = ((n - 1 : Nat) : Int) ∧ I64 q ∧
        ∃ j : Nat, i = (j : Int) ∧ j ≤ n - 1 ∧ k = n - 1 - j ∧ Fr (fun x => x = r50) h51 h' ∧ ∃ acc cs, Own h' r50 cs ∧ cs.size = n ∧ acc.length ≤ j ∧ at' = ((n - acc.length : Nat) : Int) ∧ (∀ k (hk : k < acc.length), cs[n - acc.length + k]? = some (.int .i64 acc[k])) ∧ (∀ x ∈ acc, I64 x) ∧ downP q acc (rest.drop j) = downP x [] rest
    | _ => False, n - 1, ⟨rfl, rfl, rfl, rfl, rfl, rfl, rfl, rfl, rfl, rfl, hxI, 0, rfl, by omega, by omega, Fr.rfl', [], _, o51, ms, Nat.le_refl _, rfl, fun k hk => absurd hk (by simp), fun x hx => (by cases hx), rfl⟩, ?_⟩
  rintro k h1 _ _ _ _ _ _ _ _ _ at' q _ _ ⟨rfl, rfl, rfl, rfl, rfl, rfl, rfl, rfl, rfl, rfl, hq, j, rfl, hj, rfl, F, acc, cs, O, hcs, hal, hat, hcell, hacc, hg⟩ _
  have F1 : Ext h h1 := Fr.trans (S := fun _ => False) F51 F fun x hx e => by omega
  have O31 : Own h1 r3 #[.slice none 0 0] := (O3.ext f51).fr F (by omega)
  have O51 : Own h1 r5 #[.int .i64 0] := (O5.ext f51).fr F (by omega)
  have die : ∀ h2, Ext h1 h2 → compP xs = none → ∀ h3, Fr (fun x => x = r3 ∨ x = r5) h2 h3 → R (.returned (.tuple #[.slice none 0 0, .int .i64 (14 : Int)])) h3 := by
    intro h2 f2 hnone h3 f3
    rw [hnone] at H
    exact H none 0 0 h3 (Fr.trans (Ext.trans F1 f2) f3 fun x hx e => by omega) Lj.nil
  have hat1 : IntKind.i64.wrap (at' - (1 : Int)) = ((n - acc.length - 1 : Nat) : Int) := by rw [hat, i64_in (by omega) (by omega)]; omega
  refine ⟨fun e => ?_, fun e => ?_⟩
  · have hjn : j < rest.length := by have := of_decide_eq_true e; omega
    have wj : IntKind.i64.wrap ((IntKind.i64.wrap (((n : Nat) : Int) - (2 : Int))) - ((j : Nat) : Int)) = ((n - 2 - j : Nat) : Int) := by
      rw [i64_in (x := ((n : Nat) : Int) - (2 : Int)) (by omega) (by omega), i64_in (by omega) (by omega)]; omega
    have hjx : n - 2 - j < xs.length := by omega
    have hxj : xs[n - 2 - j] = rest[j] := by
      have := hrest j hjn
      rw [hn, List.getElem?_eq_getElem hjx] at this
      exact Option.some.inj this
    have hI : I64 rest[j] := by rw [← hxj]; exact I.1 _ (List.getElem_mem hjx)
    have hd : rest.drop j = rest[j] :: rest.drop (j + 1) := List.drop_eq_getElem_cons hjn
    rw [hd] at hg
    have eD : downP q acc (rest[j] :: rest.drop (j + 1)) = if sumOk (sumH q rest[j]) (fstL q rest[j]) q rest[j] then (if cls (fstL q rest[j]) = 0 then downP (sumH q rest[j]) acc (rest.drop (j + 1)) else downP (fstL q rest[j]) (sumH q rest[j] :: acc) (rest.drop (j + 1))) else none := rfl
    rw [eD] at hg
    rw [wj]
    refine (I.ext F1).get hn hjx ?_
    rw [hxj]
    generalize rest[j] = y at *
    refine K20 (ht.ext F1) hq hI fun h2 f2 => ⟨_, _, _, rfl, K107 (fun ok => ⟨_, _, rfl, K17 ⟨_, rfl, fun e1 => ?_, fun e1 => ?_⟩⟩) fun ok => ?_⟩
    · have hc : ¬ cls (fstL q y) = 0 := by intro k; rw [k] at e1; cases e1
      rw [ok, if_pos rfl, if_neg hc] at hg
      rw [hat1]
      refine ⟨r50, 0, rfl, by omega, by omega, r50, _, rfl, (O.ext f2).stC (by rw [Int.toNat_natCast]; omega) rfl fun a g => ⟨rfl, n - 1 - (j + 1), by omega, rfl, rfl, rfl, rfl, rfl, rfl, rfl, rfl, rfl, rfl, fstL_I64 _ _, j + 1, ?_, by omega, rfl, Fr.trans (Fr.trans F f2 fun x _ e => e.elim) g fun _ _ e => e, sumH q y :: acc, _, a, by rw [Array.size_setIfInBounds]; exact hcs, by rw [List.length_cons]; omega, by rw [List.length_cons]; omega, fun k hk => ?_, fun x hx => ?_, hg⟩⟩
      · rw [i64_in (by omega) (by omega)]; rfl
      · rw [Int.toNat_natCast, Nat.mul_one, Nat.zero_add]
        cases k with
        | zero =>
          rw [List.length_cons, Nat.add_zero, show n - (acc.length + 1) = n - acc.length - 1 by omega, Array.getElem?_setIfInBounds_self_of_lt (by omega)]; rfl
        | succ k =>
          rw [List.length_cons] at hk ⊢
          rw [Array.getElem?_setIfInBounds_ne (by omega), show n - (acc.length + 1) + (k + 1) = n - acc.length + k by omega, hcell k (by omega)]; rfl
      · rcases List.mem_cons.1 hx with e | hx
        · rw [e]; exact addP_I64 _ _
        · exact hacc x hx
    · have hc : cls (fstL q y) = 0 := by
        by_cases k : cls (fstL q y) = 0
        · exact k
        · rw [decide_eq_false k] at e1; cases e1
      rw [ok, if_pos rfl, if_pos hc] at hg
      refine ⟨rfl, n - 1 - (j + 1), by omega, rfl, rfl, rfl, rfl, rfl, rfl, rfl, rfl, rfl, rfl, addP_I64 _ _, j + 1, ?_, by omega, rfl, Fr.trans F f2 fun x _ e => e.elim, acc, cs, O.ext f2, hcs, by omega, hat, hcell, hacc, hg⟩
      rw [i64_in (by omega) (by omega)]; rfl
    · have hnone : compP xs = none := by
        rw [hcomp, ← hg, ok]; rfl
      exact expDie (O31.ext f2) (O51.ext f2) hne (die h2 f2 hnone)
  · have hjn : j = n - 1 := by have := of_decide_eq_false e; omega
    rw [List.drop_of_length_le (by omega)] at hg
    have hg : some (q, acc) = downP x [] rest := hg
    rw [← hg] at hcomp
    have hcomp : compP xs = upP [] q acc := hcomp
    rw [hat1]
    refine ⟨r50, 0, rfl, by omega, by omega, r50, _, rfl, O.stC (by rw [Int.toNat_natCast]; omega) rfl fun a g => ?_⟩
    rw [Int.toNat_natCast, Nat.mul_one, Nat.zero_add] at a g ⊢
    have hq0 : (cs.setIfInBounds (n - acc.length - 1) (Value.int .i64 q))[n - acc.length - 1]? = some (.int .i64 q) := Array.getElem?_setIfInBounds_self_of_lt (by omega)
    have hcs2 : (cs.setIfInBounds (n - acc.length - 1) (Value.int .i64 q)).size = n := by rw [Array.size_setIfInBounds]; exact hcs
    have hcell2 : ∀ k (hk : k < acc.length), (cs.setIfInBounds (n - acc.length - 1) (Value.int .i64 q))[n - acc.length + k]? = some (.int .i64 acc[k]) := fun k hk => by
      rw [Array.getElem?_setIfInBounds_ne (by omega)]; exact hcell k hk
    generalize setCell h1 ⟨r50, n - acc.length - 1, none⟩ (.int .i64 q) = hG at a g ⊢
    generalize cs.setIfInBounds (n - acc.length - 1) (Value.int .i64 q) = cs2 at *
    have FG : Ext h hG := Fr.trans (S := fun _ => False) F1 g fun x hx e => by omega
    refine ⟨r50, 0, rfl, by omega, by omega, r50, _, rfl, q, by rw [Int.toNat_natCast, Nat.mul_one, Nat.zero_add]; exact own_cell a hq0, ?_⟩
    have w3 : IntKind.i64.wrap (((n - acc.length - 1 : Nat) : Int) + (1 : Int)) = ((n - acc.length : Nat) : Int) := by rw [i64_in (by omega) (by omega)]; omega
    rw [w3]
    refine ⟨by omega, by omega, ?_⟩
    rw [Int.toNat_natCast]
    have hna : n - (n - acc.length) = acc.length := by omega
    have IA : IntsH hG (slP (some ⟨r50, 0, none⟩) (n - acc.length) n 1) acc := by
      refine ⟨hacc, ?_⟩
      by_cases h0 : acc = []
      · exact .inl h0
      · have hpos : 0 < acc.length := List.length_pos_iff.2 h0
        refine .inr ⟨r50, n - acc.length, ?_, a.lt, fun i hi => by rw [a.cell]; exact hcell2 i hi⟩
        unfold slP
        rw [if_neg (by omega)]
        show some ((⟨r50, 0, none⟩ : Addr).add ((n - acc.length) * 1)) = _
        rw [add_addr, Nat.mul_one, Nat.zero_add]
    have O3G : Own hG r3 #[.slice none 0 0] := O31.fr g (by omega)
    have O5G : Own hG r5 #[.int .i64 0] := O51.fr g (by omega)
    refine ⟨fun k vs h' => match vs with
      | [.pointer a, .pointer b, .int _ z, .slice o on oc, .slice p1 n1 c1, .int _ nn, .int _ i] => a = some (⟨r3, 0, none⟩ : Addr) ∧ b = some (⟨r5, 0, none⟩ : Addr) ∧ slP (some ⟨r50, 0, none⟩) (n - acc.length) n 1 = p1 ∧ n - (n - acc.length) = n1 ∧ n - (n - acc.length) = c1 ∧ nn = ((n - (n - acc.length) : Nat) : Int) ∧ I64 z ∧
          ∃ j : Nat, i = (j : Int) ∧ j ≤ acc.length ∧ k = acc.length - j ∧ Ext hG h' ∧ ∃ out, Lj hG h' o on oc out ∧ on ≤ j ∧ upP out z (acc.drop j) = upP [] q acc
      | _ => False, acc.length, ⟨rfl, rfl, rfl, rfl, rfl, rfl, hq, 0, rfl, by omega, by omega, Fr.rfl', [], Lj.nil, Nat.le_refl _, rfl⟩, ?_⟩
    rintro k h2 _ _ z o on oc _ _ _ _ _ ⟨rfl, rfl, rfl, rfl, rfl, rfl, hz, j, rfl, hj, rfl, F2, out, L, hon, hu⟩ _
    have G2 := Ext.trans FG F2
    have sG := FG.size
    refine ⟨fun e => ?_, fun e => ?_⟩
    · have hja : j < acc.length := by have := of_decide_eq_true e; omega
      have hd : acc.drop j = acc[j] :: acc.drop (j + 1) := List.drop_eq_getElem_cons hja
      rw [hd] at hu
      have hI : I64 acc[j] := hacc _ (List.getElem_mem hja)
      have eU : upP out z (acc[j] :: acc.drop (j + 1)) = if sumOk (sumH acc[j] z) (fstL acc[j] z) acc[j] z then upP (addL out (fstL acc[j] z)) (sumH acc[j] z) (acc.drop (j + 1)) else none := rfl
      rw [eU] at hu
      refine (IA.ext F2).get hna.symm hja ?_
      generalize acc[j] = y at *
      refine K20 (ht.ext G2) hI hz fun h3 f3 => ⟨_, _, _, rfl, K107 (fun ok => ⟨_, _, rfl, ?_⟩) fun ok => ?_⟩
      · rw [ok, if_pos rfl] at hu
        refine K108 (L.ext f3) (Ext.trans F2 f3) (by omega) (fstL_I64 _ _) fun q' m' c' h4' L' F' => ⟨_, _, _, rfl, rfl, acc.length - (j + 1), by omega, rfl, rfl, rfl, rfl, rfl, rfl, addP_I64 _ _, j + 1, ?_, by omega, rfl, F', _, L', ?_, hu⟩
        · rw [i64_in (by omega) (by omega)]; rfl
        · have := addL_len out (fstL y z)
          have := L'.len
          have := L.len
          omega
      · have hnone : compP xs = none := by rw [hcomp, ← hu, ok]; rfl
        have F3 := Ext.trans F2 f3
        rw [hnone] at H
        exact expDie (O3G.ext F3) (O5G.ext F3) hne fun h4' f4' => H none 0 0 h4' (Fr.trans (Ext.trans FG F3) f4' fun x hx e => by omega) Lj.nil
    · have hja : j = acc.length := by have := of_decide_eq_false e; omega
      rw [List.drop_of_length_le (by omega)] at hu
      have hsome : compP xs = some (addL out z) := by rw [hcomp, ← hu]; rfl
      rw [hsome] at H
      refine K108 L F2 (by omega) hz fun q' m' c' h4' L' F' => ⟨_, _, _, rfl, K89e (O3G.ext F') (O5G.ext F') hne L' O3G.lt O5G.lt fun q m c' h5 f5 L2 => H q m c' h5 (Fr.trans (Ext.trans FG F') f5 fun x hx e => by omega) (L2.base FG.size)⟩
end Go.Proofs
set_option linter.unusedVariables false
namespace Go.Proofs
open Go Go.Eng
variable {B : World} {R : Ending → Heap → Prop} {h : Heap}
def downR (q : Int) (acc : List Int) (bad : Bool) : List Int → Int × List Int × Bool
  | [] => (q, acc, bad)
  | y :: r => if cls (fstL q y) = 0 then downR (sumH q y) acc (bad || !sumOk (sumH q y) (fstL q y) q y) r else downR (fstL q y) (sumH q y :: acc) (bad || !sumOk (sumH q y) (fstL q y) q y) r
def upR (out : List Int) (q : Int) (bad : Bool) : List Int → List Int × Bool
  | [] => (addL out q, bad)
  | x :: r => upR (addL out (fstL x q)) (sumH x q) (bad || !sumOk (sumH x q) (fstL x q) x q) r
theorem downR_bad {ys : List Int} : ∀ {q : Int} {acc : List Int}, (downR q acc true ys).2.2 = true := by
  induction ys with
  | nil => intro q acc; rfl
  | cons y r ih =>
    intro q acc
    have e : downR q acc true (y :: r) = if cls (fstL q y) = 0 then downR (sumH q y) acc (true || !sumOk (sumH q y) (fstL q y) q y) r else downR (fstL q y) (sumH q y :: acc) (true || !sumOk (sumH q y) (fstL q y) q y) r := rfl
    rw [e, Bool.true_or]
    split <;> exact ih
theorem upR_bad {xs : List Int} : ∀ {out : List Int} {q : Int}, (upR out q true xs).2 = true := by
  induction xs with
  | nil => intro out q; rfl
  | cons x r ih =>
    intro out q
    have e : upR out q true (x :: r) = upR (addL out (fstL x q)) (sumH x q) (true || !sumOk (sumH x q) (fstL x q) x q) r := rfl
    rw [e, Bool.true_or]; exact ih
theorem downR_law {ys : List Int} : ∀ {q : Int} {acc : List Int}, match downP q acc ys with
    | some (a, l) => downR q acc false ys = (a, l, false)
    | none => (downR q acc false ys).2.2 = true := by
  induction ys with
  | nil => intro q acc; rfl
  | cons y r ih =>
    intro q acc
    have e1 : downP q acc (y :: r) = if sumOk (sumH q y) (fstL q y) q y then (if cls (fstL q y) = 0 then downP (sumH q y) acc r else downP (fstL q y) (sumH q y :: acc) r) else none := rfl
    have e2 : downR q acc false (y :: r) = if cls (fstL q y) = 0 then downR (sumH q y) acc (false || !sumOk (sumH q y) (fstL q y) q y) r else downR (fstL q y) (sumH q y :: acc) (false || !sumOk (sumH q y) (fstL q y) q y) r := rfl
    rw [e1, e2, Bool.false_or]
    cases sumOk (sumH q y) (fstL q y) q y
    · simp only [Bool.false_eq_true, if_false, Bool.not_false]
      split <;> exact downR_bad
    · simp only [if_true, Bool.not_true]
      by_cases hc : cls (fstL q y) = 0
      · simp only [if_pos hc]; exact ih
      · simp only [if_neg hc]; exact ih
theorem upR_law {xs : List Int} : ∀ {out : List Int} {q : Int}, match upP out q xs with
    | some l => upR out q false xs = (l, false)
    | none => (upR out q false xs).2 = true := by
  induction xs with
  | nil => intro out q; rfl
  | cons x r ih =>
    intro out q
    have e1 : upP out q (x :: r) = if sumOk (sumH x q) (fstL x q) x q then upP (addL out (fstL x q)) (sumH x q) r else none := rfl
    have e2 : upR out q false (x :: r) = upR (addL out (fstL x q)) (sumH x q) (false || !sumOk (sumH x q) (fstL x q) x q) r := rfl
    rw [e1, e2, Bool.false_or]
    cases sumOk (sumH x q) (fstL x q) x q
    · simp only [Bool.false_eq_true, if_false, Bool.not_false]
      exact upR_bad
    · simp only [if_true, Bool.not_true]
      exact ih
def compR (x : Int) (rest : List Int) : List Int × Bool := upR [] (downR x [] false rest).1 (downR x [] false rest).2.2 (downR x [] false rest).2.1
theorem compR_law {xs rest : List Int} {x : Int} (hrev : xs.reverse = x :: rest) : match compP xs with
    | some l => compR x rest = (l, false)
    | none => (compR x rest).2 = true := by
  have e : compP xs = match downP x [] rest with | some (q, l) => upP [] q l | none => none := by unfold compP; (rw [hrev]) <;> rfl
  rw [e]
  have h1 := @downR_law rest x []
  unfold compR
  cases hd : downP x [] rest with
  | none =>
    rw [hd] at h1
    have h1 : (downR x [] false rest).2.2 = true := h1
    show (upR [] _ _ _).2 = true
    rw [h1]; exact upR_bad
  | some ql =>
    obtain ⟨q, l⟩ := ql
    rw [hd] at h1
    have h1 : downR x [] false rest = (q, l, false) := h1
    rw [h1]
    exact upR_law
/-- What the first loop of plumbref7.Compress keeps. -/
abbrev cdI (h3 : Heap) (r n c : Nat) (p : Option Addr) (rest : List Int) (fin : Int × List Int × Bool) : Nat → List Value → Heap → Prop := fun k vs h' => match vs with
  | [.slice p1 n1 c1, .pointer a, .slice z zn zc, .int _ q, .int _ i] => p = p1 ∧ n = n1 ∧ c = c1 ∧ a = some (⟨r, 0, none⟩ : Addr) ∧ I64 q ∧
      ∃ j : Nat, i = (n : Int) - 2 - (j : Int) ∧ j ≤ n - 1 ∧ k = n - 1 - j ∧ Fr (fun x => x = r) h3 h' ∧ ∃ acc bd, Lj h3 h' z zn zc acc.reverse ∧ zn ≤ j ∧ Own h' r #[.slice none 0 0, .bool bd] ∧ downR q acc bd (rest.drop j) = fin
  | _ => False
/-- What the second one keeps. -/
abbrev cuI (h3 hS : Heap) (r zn zc : Nat) (z : Option Addr) (acc : List Int) (fin : List Int × Bool) : Nat → List Value → Heap → Prop := fun k vs h' => match vs with
  | [.pointer a, .slice z1 n1 c1, .int _ q, .int _ i] => a = some (⟨r, 0, none⟩ : Addr) ∧ z = z1 ∧ zn = n1 ∧ zc = c1 ∧ I64 q ∧
      ∃ j : Nat, i = (zn : Int) - 1 - (j : Int) ∧ j ≤ zn ∧ k = zn - j ∧ Fr (fun x => x = r) hS h' ∧ ∃ o on oc out bd, Own h' r #[.slice o on oc, .bool bd] ∧ Lj hS h' o on oc out ∧ on ≤ j ∧ upR out q bd (acc.drop j) = fin
  | _ => False
/-- plumbref7.Compress. -/
theorem K101 {p : Option Addr} {n c : Nat} {xs : List Int} (I : IntsH h p xs) (hn : xs.length = n) (hp : PtB h p) (hlim : n ≤ 100000)
    (H : ∀ q m c' h', Ext h h' → Lj h h' q m c' (ansOf (compP xs)).1 → R (.returned (.tuple #[.slice q m c', .int .i64 (ansOf (compP xs)).2])) h') : Ent Tryz.prog B 101 #[.slice p n c] R h := by
  refine F101_ok _ _ _ ⟨fun e => ?_, fun e => ?_⟩
  · have h0 : xs = [] := List.eq_nil_of_length_eq_zero (by have := of_decide_eq_true e; omega)
    subst h0
    exact H none 0 0 h Fr.rfl' Lj.nil
  have hn0 : n ≠ 0 := by have := of_decide_eq_false e; omega
  obtain ⟨x0, rest, hrev⟩ : ∃ x0 rest, xs.reverse = x0 :: rest := by
    cases hr : xs.reverse with
    | nil => have h1 := congrArg List.length hr; rw [List.length_reverse, List.length_nil] at h1; omega
    | cons a b => exact ⟨a, b, rfl⟩
  obtain ⟨hlr, hx0, hrest⟩ := rev_last hrev
  refine alK fun r h3 e3 f3 o3 z3 => ?_
  have hr := o3.lt
  have s3 := f3.size
  have hpr : ∀ a o, p = some ⟨a, o, none⟩ → ¬ a = r := fun a o e => by have := hp.lt ⟨o, e⟩; omega
  refine (I.ext f3).last hn hn0 (by omega) fun x hx hxI hx2 => ?_
  have hxx : x = x0 := by rw [← hn, hx0] at hx2; exact (Option.some.inj hx2).symm
  subst hxx
  have w2 : IntKind.i64.wrap (((n : Nat) : Int) - (2 : Int)) = (n : Int) - 2 := i64_in (by omega) (by omega)
  rw [w2]
  refine ⟨cdI h3 r n c p rest (downR x [] false rest), n - 1, ⟨rfl, rfl, rfl, rfl, hxI, 0, by omega, by omega, by omega, Fr.rfl', [], false, Lj.nil, by omega, o3, rfl⟩, ?_⟩
  rintro k h1 _ _ _ _ z zn zc q _ ⟨rfl, rfl, rfl, rfl, hq, j, rfl, hj, rfl, F, acc, bd, L, lz, Or, hg⟩ _
  have I1 : IntsH h1 p xs := ints_fr (I.ext f3) F hpr
  have sF := F.size
  refine ⟨fun e => ?_, fun e => ?_⟩
  · have hjn : j < rest.length := by have := of_decide_eq_true e; omega
    have ei : (n : Int) - 2 - (j : Int) = ((n - 2 - j : Nat) : Int) := by omega
    have hjx : n - 2 - j < xs.length := by omega
    have hxj : xs[n - 2 - j] = rest[j] := by
      have := hrest j hjn
      rw [hn, List.getElem?_eq_getElem hjx] at this
      exact Option.some.inj this
    have hI : I64 rest[j] := by rw [← hxj]; exact I.1 _ (List.getElem_mem hjx)
    have hd : rest.drop j = rest[j] :: rest.drop (j + 1) := List.drop_eq_getElem_cons hjn
    rw [hd] at hg
    rw [ei]
    refine I1.get hn hjx ?_
    rw [hxj]
    generalize rest[j] = y at *
    refine K72 hq hI fun h2 f2 => ⟨_, _, _, rfl, r, 0, rfl, r, _, rfl, r, _, rfl, _, (Or.ext f2).cell _, ?_⟩
    have wi : IntKind.i64.wrap (((n - 2 - j : Nat) : Int) - (1 : Int)) = (n : Int) - 2 - ((j + 1 : Nat) : Int) := by rw [i64_in (by omega) (by omega)]; omega
    have j44 : ∀ h5, Fr (fun x => x = r) h2 h5 → Own h5 r #[.slice none 0 0, .bool (bd || !sumOk (sumH q y) (fstL q y) q y)] →
        F101_j54 B R (cdI h3 r n c p rest (downR x [] false rest)) (n - 1 - j) p n c (some ⟨r, 0, none⟩) z zn zc ((n - 2 - j : Nat) : Int) (sumH q y) (fstL q y) h5 := by
      intro h5 f5 O5
      have L5 : Lj h3 h5 z zn zc acc.reverse := (L.ext f2).frS f5 fun x hx e => by omega
      have F5 : Fr (fun x => x = r) h3 h5 := Fr.trans (Fr.trans F f2 fun x _ e => e.elim) f5 fun _ _ e => e
      refine K84 (fstL_I64 _ _) ⟨_, rfl, fun e1 => ?_, fun e1 => ?_⟩
      · have hc : ¬ cls (fstL q y) = 0 := by intro k; rw [k] at e1; cases e1
        refine alK fun r57 h58 e58 f58 o58 z58 => apJT (L5.ext f58) (Fr.trans F5 f58 fun x _ e => e.elim) (by omega) o58 (addP_I64 _ _) fun q' c' h' L' F' f' => ⟨n - 1 - (j + 1), by omega, rfl, rfl, rfl, rfl, fstL_I64 _ _, j + 1, wi, by omega, rfl, F', sumH q y :: acc, _, ?_, by omega, (O5.ext f58).fr f' (by omega), ?_⟩
        · rw [List.reverse_cons]; exact L'
        · rw [← hg]
          show _ = (if cls (fstL q y) = 0 then downR (sumH q y) acc (bd || !sumOk (sumH q y) (fstL q y) q y) (rest.drop (j + 1)) else downR (fstL q y) (sumH q y :: acc) (bd || !sumOk (sumH q y) (fstL q y) q y) (rest.drop (j + 1)))
          rw [if_neg hc]
      · have hc : cls (fstL q y) = 0 := by
          by_cases k : cls (fstL q y) = 0
          · exact k
          · rw [decide_eq_false k] at e1; cases e1
        refine ⟨n - 1 - (j + 1), by omega, rfl, rfl, rfl, rfl, addP_I64 _ _, j + 1, wi, by omega, rfl, F5, acc, _, L5, by omega, O5, ?_⟩
        rw [← hg]
        show _ = (if cls (fstL q y) = 0 then downR (sumH q y) acc (bd || !sumOk (sumH q y) (fstL q y) q y) (rest.drop (j + 1)) else downR (fstL q y) (sumH q y :: acc) (bd || !sumOk (sumH q y) (fstL q y) q y) (rest.drop (j + 1)))
        rw [if_pos hc]
    cases bd with
    | true => exact ⟨fun _ => ⟨r, 0, rfl, r, _, rfl, r, _, rfl, (Or.ext f2).stC (by simp) rfl fun a g => j44 _ g a⟩, fun e => (by cases e)⟩
    | false => exact ⟨fun e => (by cases e), fun _ => ⟨r, 0, rfl, r, _, rfl, r, _, rfl, (Or.ext f2).stC (by simp) rfl fun a g => j44 _ g a⟩⟩
  · have hjn : j = n - 1 := by have := of_decide_eq_false e; omega
    rw [List.drop_of_length_le (by omega)] at hg
    have hg : (q, acc, bd) = downR x [] false rest := hg
    have hfin : compR x rest = upR [] q bd acc := by unfold compR; rw [← hg]
    have hzl := L.len
    rw [List.length_reverse] at hzl
    have w3 : IntKind.i64.wrap (((zn : Nat) : Int) - (1 : Int)) = (zn : Int) - 1 := i64_in (by omega) (by omega)
    rw [w3]
    have IZ := L.ints
    have hzr : ∀ a o, z = some ⟨a, o, none⟩ → ¬ a = r := fun a o e => by have := L.fresh a o e; omega
    refine ⟨cuI h3 h1 r zn zc z acc (compR x rest), zn, ⟨rfl, rfl, rfl, rfl, hq, 0, by omega, by omega, by omega, Fr.rfl', none, 0, 0, [], bd, Or, Lj.nil, Nat.le_refl _, hfin.symm⟩, ?_⟩
    rintro k h2 _ _ _ _ v _ ⟨rfl, rfl, rfl, rfl, hv, j2, rfl, hj2, rfl, F2, o, on, oc, out, bd2, O2, L2, hon, hu⟩ _
    have sF2 := F2.size
    refine ⟨fun e => ?_, fun e => ?_⟩
    · have hja : j2 < acc.length := by have := of_decide_eq_true e; omega
      have ei : (zn : Int) - 1 - (j2 : Int) = ((zn - 1 - j2 : Nat) : Int) := by omega
      have hd : acc.drop j2 = acc[j2] :: acc.drop (j2 + 1) := List.drop_eq_getElem_cons hja
      rw [hd] at hu
      have hjz : zn - 1 - j2 < acc.reverse.length := by rw [List.length_reverse]; omega
      have hget : acc.reverse[zn - 1 - j2] = acc[j2] := by
        rw [List.getElem_reverse]
        congr 1; omega
      have hI : I64 acc[j2] := by rw [← hget]; exact IZ.1 _ (List.getElem_mem hjz)
      rw [ei]
      refine (ints_fr IZ F2 hzr).get (by rw [List.length_reverse]; exact hzl) hjz ?_
      rw [hget]
      generalize acc[j2] = y at *
      refine K72 hI hv fun h4 f4 => ⟨_, _, _, rfl, r, 0, rfl, r, _, rfl, r, _, rfl, _, (O2.ext f4).cell _, ?_⟩
      have wi : IntKind.i64.wrap (((zn - 1 - j2 : Nat) : Int) - (1 : Int)) = (zn : Int) - 1 - ((j2 + 1 : Nat) : Int) := by rw [i64_in (by omega) (by omega)]; omega
      have j112 : ∀ h5, Fr (fun x => x = r) h4 h5 → Own h5 r #[.slice o on oc, .bool (bd2 || !sumOk (sumH y v) (fstL y v) y v)] →
          F101_j124 B R (cdI h3 r n c p rest (downR x [] false rest)) (n - 1 - j) (cuI h3 h1 r zn zc z acc (compR x rest)) (zn - j2) (some ⟨r, 0, none⟩) z zn zc ((zn - 1 - j2 : Nat) : Int) (sumH y v) (fstL y v) h5 := by
        intro h5 f5 O5
        have F5 : Fr (fun x => x = r) h1 h5 := Fr.trans (Fr.trans F2 f4 fun x _ e => e.elim) f5 fun _ _ e => e
        have lo := L2.len
        refine K154 (hB := h1) (T := fun x => x = r) O5 (by have := Or.lt; omega) rfl ((L2.ext f4).frS f5 fun x hx e => by have := Or.lt; omega) F5 (by omega) (fstL_I64 _ _) fun q' m' c' h' A L' F' f' => ⟨rfl, zn - (j2 + 1), by omega, rfl, rfl, rfl, rfl, addP_I64 _ _, j2 + 1, wi, by omega, rfl, F', q', m', c', _, _, A, L', ?_, ?_⟩
        · have := L'.len
          have := addL_len out (fstL y v)
          omega
        · rw [← hu]; rfl
      cases bd2 with
      | true => exact ⟨fun _ => ⟨r, 0, rfl, r, _, rfl, r, _, rfl, (O2.ext f4).stC (by simp) rfl fun a g => j112 _ g a⟩, fun e => (by cases e)⟩
      | false => exact ⟨fun e => (by cases e), fun _ => ⟨r, 0, rfl, r, _, rfl, r, _, rfl, (O2.ext f4).stC (by simp) rfl fun a g => j112 _ g a⟩⟩
    · have hja : j2 = zn := by have := of_decide_eq_false e; omega
      rw [List.drop_of_length_le (by omega)] at hu
      have hu : (addL out v, bd2) = compR x rest := hu
      have lo := L2.len
      refine K154 (hB := h1) (T := fun x => x = r) O2 Or.lt rfl L2 F2 (by omega) hv fun q' m' c' h' A L' F' f' => ⟨rfl, ?_⟩
      have e1 : (compR x rest).1 = addL out v := by rw [← hu]
      have e2 : (compR x rest).2 = bd2 := by rw [← hu]
      have FA : Ext h h' := Fr.trans (S := fun _ => False) (Fr.trans (S := fun _ => False) f3 F fun x hx e => by omega) F' fun x hx e => by omega
      exact answer_end (hB := h) (res := compR x rest) (compR_law hrev) (by rw [e2]; exact A) (by rw [e1]; exact L'.base (by omega)) fun q' m' c'' L' => ⟨_, _, _, _, rfl, H q' m' c'' _ FA L'⟩
end Go.Proofs
set_option linter.unusedVariables false
namespace Go.Eng
open Go
theorem same3 {h h' : Heap} {b : Nat} {cs : Array Value} {S : Nat → Prop} (H : Own h b cs) (f : Fr S h h') (hb : ¬ S b) : sameCells h h' b 0 3 := by
  have h1 := H.fr f hb
  simp only [sameCells]
  simp [H.cell, h1.cell]
end Go.Eng
namespace Go.Proofs
open Go Go.Eng
variable {B : World} {R : Ending → Heap → Prop} {h : Heap}
theorem sum_bl {L : Nat} {vs : List Int} (h : ∀ v ∈ vs, bl v.natAbs ≤ L) : bl vs.sum.natAbs ≤ L + vs.length := by
  induction vs with
  | nil => exact Nat.zero_le _
  | cons v r ih =>
    rw [List.sum_cons, List.length_cons]
    have h1 := h v (List.mem_cons_self ..)
    have h2 := ih fun x hx => h x (List.mem_cons_of_mem _ hx)
    exact bl_add (L := L + r.length) (by omega) h2
/-- dyadic.Sum, and the room of its digits. -/
theorem K119n {K n c : Nat} {p : Option Addr} {vs : List Int} (ht : TabH h) (N : NumL K h p vs) (hn : vs.length = n) (hl : n ≤ 20000) (hK : K ≤ 1048576) (hv : ∀ v ∈ vs, bl v.natAbs ≤ 3000)
    (H : ∀ neg' p' n' c' e' h', Ext h h' → Fresh h p' → Room h' p' c' (fun b => h.size ≤ b) → n' ≤ c' → NumS K h' neg' p' n' e' vs.sum → R (.returned (.tuple #[.agg #[.bool neg', .slice p' n' c', .int .i64 e'], .int .i64 (0 : Int)])) h') :
    Ent Tryz.prog B 119 #[.slice p n c] R h := by
  refine F119_ok _ _ _ (alK fun r2 h3 e2 f2 o2 z2 => alK fun r4 h5 e4 f4 o4 z4 => ?_)
  have F := Ext.trans f2 f4
  refine K67 (N.ext F) hn (by omega) fun xs h28 f28 X => ⟨_, _, _, rfl, ?_⟩
  refine K66 X hn (by omega) hK (fun i _ => ?_) (fun x hx => Nat.le_trans (hv x hx) (by decide)) fun r q m e' h46 f46 I he hs => ⟨_, _, rfl, ?_⟩
  · have := sum_bl (L := 3000) (vs := vs.take i) fun v h => hv v (List.mem_of_mem_take h)
    have h2 : (vs.take i).length ≤ n := by rw [List.length_take, hn]; exact Nat.min_le_right _ _
    omega
  refine K65R (ht.ext (Ext.trans F (Ext.trans f28 f46))) I he hs (by have := sum_bl hv; omega) hK fun neg' p' n' c' e' h65 f65 fr65 rm le N => ⟨_, _, _, _, _, rfl, ?_⟩
  have FX := Ext.trans f28 (Ext.trans f46 f65)
  have s5 := F.size
  have s46 := (Ext.trans f28 f46).size
  have l2 := (o2.ext f4).lt
  have l4 := o4.lt
  refine numEnd ((o2.ext f4).ext FX) (o4.ext FX) (by omega) fun h' f => ?_
  exact H neg' p' n' c' e' h' (Fr.trans (Ext.trans F FX) f fun x hx e => by omega) (fr65.mono (by omega)) ((rm.fr f fun b k1 k2 => by omega).mono fun b k => by omega) le (N.fr f fun b o e e3 => by have := fr65 b o e; omega)
/-- expansion.Exact. -/
theorem K95 {p : Option Addr} {n c : Nat} {xs : List Int} (ht : TabH h) (I : IntsH h p xs) (hn : xs.length = n)
    (H1 : validP xs = true → ∀ neg q m c' e h', Ext h h' → Fresh h q → Room h' q c' (fun b => h.size ≤ b) → m ≤ c' → NumS 1074 h' neg q m e (xs.map fV).sum → R (.returned (.tuple #[.agg #[.bool neg, .slice q m c', .int .i64 e], .int .i64 (0 : Int)])) h')
    (H2 : validP xs = false → ∀ h', Ext h h' → R (.returned (.tuple #[.agg #[.bool false, .slice none 0 0, .int .i64 (0 : Int)], .int .i64 (1 : Int)])) h') : Ent Tryz.prog B 95 #[.slice p n c] R h := by
  refine F95_ok _ _ _ (alK fun r2 h3 e2 f2 o2 z2 => alK fun r4 h5 e4 f4 o4 z4 => K87 (ss := [(p, n, c, xs)]) o4 rfl (by decide) (fun s hs => ?_) ⟨_, rfl, ?_⟩)
  · rw [List.mem_singleton.1 hs]; exact ⟨(I.ext f2).ext f4, hn⟩
  have hall : (([(p, n, c, xs)] : List (Option Addr × Nat × Nat × List Int)).all fun s => validP s.2.2.2) = validP xs := by simp
  rw [hall]
  have F5 := Ext.trans f2 f4
  have O2 := o2.ext f4
  have s5 := F5.size
  have s2 := f2.size
  cases hv : validP xs
  · refine ⟨fun _ => ?_, fun e => absurd e (by decide)⟩
    refine ⟨r2, 0, rfl, O2.stC (by simp) rfl fun oa fa => oa.stC (by simp) rfl fun ob fb => ob.stC (by simp) rfl fun oc fc => ⟨r2, 0, rfl, _, oc.cell _, _, _, _, oc.cell _, _, oc.cell _, ?_⟩⟩
    have fabc := Fr.trans (S := fun x => x = r2) (Fr.trans (S := fun x => x = r2) fa fb fun _ _ e => e) fc fun _ _ e => e
    exact H2 hv _ (Fr.trans F5 fabc fun x hx e => by omega)
  refine ⟨fun e => absurd e (by decide), fun _ => ?_⟩
  have hl := validP_len hv
  have hfin : ∀ x ∈ xs, isFin x = true := by
    have := (Bool.and_eq_true_iff.1 hv).2
    exact (vOk_iff.1 this).1
  refine ⟨by omega, by omega, by omega, by omega, ?_⟩
  rw [Int.toNat_natCast]
  refine alK fun r21 h22 e21 f21 o21 z21 => ?_
  have ms : (mkCells #[Value.bool false, .slice none 0 0, .int .i64 0] (n * 3)).size = n * 3 := by simp [mkCells]
  have F22 := Ext.trans F5 f21
  have hr21 : h.size ≤ r21 := by omega
  refine ⟨fun k vs h' => match vs with
    | [.slice p1 n1 c1, .pointer a, .slice g gn gc, .int _ nn, .int _ i] => p = p1 ∧ n = n1 ∧ c = c1 ∧ a = some (⟨r2, 0, none⟩ : Addr) ∧ g = some (⟨r21, 0, none⟩ : Addr) ∧ n = gn ∧ n = gc ∧ nn = (n : Int) ∧
        ∃ j : Nat, i = (j : Int) ∧ j ≤ n ∧ k = n - j ∧ Fr (fun x => x = r21) h22 h' ∧ ∃ cs, Own h' r21 cs ∧ cs.size = n * 3 ∧ ∀ i (hi : i < xs.length), i < j → ∃ neg q m c e, cs[i * 3]? = some (.bool neg) ∧ cs[i * 3 + 1]? = some (.slice q m c) ∧ cs[i * 3 + 1 + 1]? = some (.int .i64 e) ∧ NumS 1074 h' neg q m e (fV xs[i]) ∧ ∀ b o, q = some ⟨b, o, none⟩ → r21 < b
    | _ => False, n, ⟨rfl, rfl, rfl, rfl, rfl, rfl, rfl, rfl, 0, rfl, by omega, by omega, Fr.rfl', _, o21, ms, fun i _ h0 => absurd h0 (by omega)⟩, ?_⟩
  rintro k h1 _ _ _ _ _ _ _ _ _ ⟨rfl, rfl, rfl, rfl, rfl, rfl, rfl, rfl, j, rfl, hj, rfl, F, cs, O, hcs, hg⟩ _
  have F1 : Ext h h1 := Fr.trans (S := fun _ => False) F22 F fun x hx e => by omega
  have lr := O.lt
  refine ⟨fun e => ?_, fun e => ?_⟩
  · have hjn : j < xs.length := by have := of_decide_eq_true e; omega
    refine (I.ext F1).get hn hjn (K21 (ht.ext F1) (hfin _ (List.getElem_mem hjn)) fun neg q m c' e' h2 f2' fr N => ⟨_, _, _, _, _, _, rfl, r21, 0, rfl, by omega, by omega, r21, _, rfl, ?_⟩)
    rw [Int.toNat_natCast, Nat.zero_add]
    refine (O.ext f2').stC (by omega) rfl fun oa fa => oa.stC (by simp; omega) rfl fun ob fb => ob.stC (by simp; omega) rfl fun oc fc => ?_
    have fabc := Fr.trans (S := fun x => x = r21) (Fr.trans (S := fun x => x = r21) fa fb fun _ _ e => e) fc fun _ _ e => e
    have hq : ∀ b o, q = some ⟨b, o, none⟩ → r21 < b := fun b o e => by have := fr b o e; omega
    refine ⟨n - (j + 1), by omega, rfl, rfl, rfl, rfl, rfl, rfl, rfl, rfl, j + 1, ?_, by omega, rfl, Fr.trans (Fr.trans F f2' fun x _ e => e.elim) fabc fun _ _ e => e, _, oc, by simp [hcs], fun i hi hij => ?_⟩
    · rw [i64_in (by omega) (by omega)]; rfl
    · by_cases hij2 : i = j
      · subst hij2
        refine ⟨neg, q, m, c', e', ?_, ?_, ?_, N.fr fabc fun b o e k => by have := hq b o e; omega, hq⟩
        · rw [Array.getElem?_setIfInBounds_ne (by omega), Array.getElem?_setIfInBounds_ne (by omega), Array.getElem?_setIfInBounds_self_of_lt (by omega)]
        · rw [Array.getElem?_setIfInBounds_ne (by omega), Array.getElem?_setIfInBounds_self_of_lt (by simp; omega)]
        · rw [Array.getElem?_setIfInBounds_self_of_lt (by simp; omega)]
      · obtain ⟨neg', q', m', c2, e2', g1, g2, g3, g4, g5⟩ := hg i hi (by omega)
        refine ⟨neg', q', m', c2, e2', ?_, ?_, ?_, (g4.ext f2').fr fabc fun b o e k => by have := g5 b o e; omega, g5⟩
        · rw [Array.getElem?_setIfInBounds_ne (by omega), Array.getElem?_setIfInBounds_ne (by omega), Array.getElem?_setIfInBounds_ne (by omega)]; exact g1
        · rw [Array.getElem?_setIfInBounds_ne (by omega), Array.getElem?_setIfInBounds_ne (by omega), Array.getElem?_setIfInBounds_ne (by omega)]; exact g2
        · rw [Array.getElem?_setIfInBounds_ne (by omega), Array.getElem?_setIfInBounds_ne (by omega), Array.getElem?_setIfInBounds_ne (by omega)]; exact g3
  · have hjn : j = n := by have := of_decide_eq_false e; omega
    have NL : NumL 1074 h1 (some ⟨r21, 0, none⟩) (xs.map fV) := by
      refine .inr ⟨r21, 0, cs, rfl, O, fun i hi => ?_⟩
      rw [List.length_map] at hi
      obtain ⟨neg', q', m', c2, e2', g1, g2, g3, g4, g5⟩ := hg i hi (by omega)
      refine ⟨neg', q', m', c2, e2', by rw [Nat.zero_add]; exact g1, by rw [Nat.zero_add]; exact g2, by rw [Nat.zero_add]; exact g3, ?_⟩
      rw [List.getElem_map]; exact g4
    refine K119n (ht.ext F1) NL (by rw [List.length_map]; exact hn) (by omega) (by decide) (fun v hv2 => ?_) fun neg q m c' e' h2 f2' fr rm le N => ⟨_, _, _, _, _, _, rfl, ?_⟩
    · obtain ⟨x, hx, rfl⟩ := List.mem_map.1 hv2
      exact Nat.le_trans (fV_bl (hfin x hx)) (by decide)
    have O2' : Own h2 r2 #[.bool false, .slice none 0 0, .int .i64 0] := ((O2.ext f21).fr F (by omega)).ext f2'
    have sF := F1.size
    have l2 : r2 < h1.size := ((O2.ext f21).fr F (show ¬ r2 = r21 by omega)).lt
    refine ⟨r2, 0, rfl, O2'.stC (by simp) rfl fun oa fa => oa.stC (by simp) rfl fun ob fb => ob.stC (by simp) rfl fun oc fc => ⟨r2, 0, rfl, _, oc.cell _, _, _, _, oc.cell _, _, oc.cell _, ?_⟩⟩
    have fabc := Fr.trans (S := fun x => x = r2) (Fr.trans (S := fun x => x = r2) fa fb fun _ _ e => e) fc fun _ _ e => e
    exact H1 hv neg q m c' e' _ (Fr.trans (Ext.trans F1 f2') fabc fun x hx e => by omega) (fr.mono sF) ((rm.fr fabc fun b k1 k2 => by omega).mono fun b k => by omega) le (N.fr fabc fun b o e k => by have := fr b o e; omega)
/-- plumbref7.Exact. -/
theorem K105 {p : Option Addr} {n c : Nat} {xs : List Int} (I : IntsH h p xs) (hn : xs.length = n) (hp : PtB h p) (hlim : n ≤ 20000) (hfin : ∀ x ∈ xs, isFin x = true)
    (H : ∀ neg q m c' e h', Ext h h' → Fresh h q → NumS 1074 h' neg q m e (xs.map fV).sum → R (.returned (.agg #[.bool neg, .slice q m c', .int .i64 e])) h') : Ent Tryz.prog B 105 #[.slice p n c] R h := by
  refine F105_ok _ _ _ (alK fun r2 h3 e2 f2 o2 z2 => alK fun r4 h5 e4 f4 o4 z4 => ?_)
  have F5 := Ext.trans f2 f4
  have O2 := o2.ext f4
  have s2 := f2.size
  have l4 := o4.lt
  have hpr : ∀ a o, p = some ⟨a, o, none⟩ → ¬ a = r4 := fun a o e => by have := hp.lt ⟨o, e⟩; omega
  refine ⟨fun k vs h' => match vs with
    | [.slice p1 n1 c1, .pointer a, .pointer b, .int _ i] => p = p1 ∧ n = n1 ∧ c = c1 ∧ a = some (⟨r2, 0, none⟩ : Addr) ∧ b = some (⟨r4, 0, none⟩ : Addr) ∧
        ∃ j : Nat, i = (j : Int) ∧ j ≤ n ∧ k = n - j ∧ Fr (fun x => x = r4) h5 h' ∧ ∃ neg q m c2 e, Own h' r4 #[.bool neg, .slice q m c2, .int .i64 e] ∧ Fresh h5 q ∧ NumS 1074 h' neg q m e ((xs.take j).map fV).sum
    | _ => False, n, ⟨rfl, rfl, rfl, rfl, rfl, 0, rfl, by omega, by omega, Fr.rfl', false, none, 0, 0, 0, o4, Fresh.nil, numS_zero _ _⟩, ?_⟩
  rintro k h1 _ _ _ _ _ _ ⟨rfl, rfl, rfl, rfl, rfl, j, rfl, hj, rfl, F, neg, q, m, c2, e, Or, fr, N⟩ _
  have I1 : IntsH h1 p xs := ints_fr (I.ext F5) F hpr
  have F1 : Ext h h1 := Fr.trans (S := fun _ => False) F5 F fun x hx e => by omega
  have sF := F.size
  refine ⟨fun e => ?_, fun e => ?_⟩
  · have hjn : j < xs.length := by have := of_decide_eq_true e; omega
    have hf := hfin _ (List.getElem_mem hjn)
    refine ⟨r4, 0, rfl, _, Or.cell _, _, _, _, Or.cell _, _, Or.cell _, I1.get hn hjn (K114 (I.1 _ (List.getElem_mem hjn)) hf fun neg2 q2 m2 c3 e3 h6 f6 fr2 N2 => ⟨_, _, _, _, _, rfl, same3 Or f6 id, ?_⟩)⟩
    have hb1 : bl ((xs.take j).map fV).sum.natAbs ≤ 50000 := by
      have := sum_bl (L := 2100) (vs := (xs.take j).map fV) fun v hv => by
        obtain ⟨x, hx, rfl⟩ := List.mem_map.1 hv
        exact fV_bl (hfin x (List.mem_of_mem_take hx))
      have h2 : ((xs.take j).map fV).length ≤ n := by rw [List.length_map, List.length_take]; omega
      omega
    refine K133B (hB := h5) (N.ext f6) N2 (by decide) hb1 (by have := fV_bl hf; omega) (by have := f6.size; omega) fr (fr2.mono sF) fun neg' p' n' c' e' h7 f7 frr N' => ⟨_, _, _, _, _, rfl, ?_⟩
    refine ⟨r4, 0, rfl, ((Or.ext f6).ext f7).stC (by simp) rfl fun oa fa => oa.stC (by simp) rfl fun ob fb => ob.stC (by simp) rfl fun oc fc => ?_⟩
    have fabc := Fr.trans (S := fun x => x = r4) (Fr.trans (S := fun x => x = r4) fa fb fun _ _ e => e) fc fun _ _ e => e
    refine ⟨n - (j + 1), by omega, rfl, rfl, rfl, rfl, rfl, j + 1, ?_, by omega, rfl, Fr.trans (Fr.trans F (Ext.trans f6 f7) fun x _ e => e.elim) fabc fun _ _ e => e, neg', p', n', c', e', oc, frr, ?_⟩
    · rw [i64_in (by omega) (by omega)]; rfl
    · rw [List.take_succ_eq_append_getElem hjn, List.map_append, List.sum_append, List.map_singleton, List.sum_singleton]
      exact N'.fr fabc fun b o e k => by have := frr b o e; omega
  · have hjn : j = n := by have := of_decide_eq_false e; omega
    rw [List.take_of_length_le (by omega)] at N
    have O2' : Own h1 r2 #[.bool false, .slice none 0 0, .int .i64 0] := O2.fr F (by omega)
    refine ⟨r4, 0, rfl, _, Or.cell _, _, _, _, Or.cell _, _, Or.cell _, ret3 O2' fun h' f => ?_⟩
    have s5 := F5.size
    exact H neg q m c2 _ h' (Fr.trans F1 f fun x hx e => by omega) (fr.mono s5) (N.fr f fun b o e k => by have := fr b o e; omega)
end Go.Proofs
set_option linter.unusedVariables false
namespace Go.Proofs
open Go Go.Eng
variable {B : World} {R : Ending → Heap → Prop} {h : Heap}
theorem yes {b : Bool} {X Y : Prop} (hb : b = true) (x : X) : (b = true → X) ∧ (b = false → Y) := ⟨fun _ => x, fun e => by rw [hb] at e; cases e⟩
theorem nope {b : Bool} {X Y : Prop} (hb : b = false) (y : Y) : (b = true → X) ∧ (b = false → Y) := ⟨fun e => (by rw [hb] at e; cases e), fun _ => y⟩
abbrev intL (ds : List Nat) : List Int := ds.map fun w : Nat => (w : Int)
theorem dig_I64 {ds : List Nat} (D : Dig B30 ds) : ∀ x ∈ intL ds, I64 x := by
  intro x hx
  obtain ⟨w, hw, rfl⟩ := List.mem_map.1 hx
  have h1 := D w hw
  have h2 : B30 = 1073741824 := rfl
  unfold I64; omega
/-- An exact number's digits, as a list that was answered. -/
theorem numI_out {h0 : Heap} {neg : Bool} {q : Option Addr} {m c : Nat} {e : Int} {M : Nat} (N : NumI h neg q m e (digs B30 M)) (rm : Room h q c fun b => h0.size ≤ b) (le : m ≤ c) : Out h (Off h0.size h.size) q m c (intL (digs B30 M)) := by
  have hl := N.d.len
  refine ⟨by rw [List.length_map]; exact hl, le, N.d.pt, ⟨dig_I64 N.d.dig, ?_⟩, ?_⟩
  · rcases N.d.sl with k | ⟨b, o, cs, k, O, g⟩
    · left; rw [k]; rfl
    · by_cases h0' : digs B30 M = []
      · left; rw [h0']; rfl
      · right
        have hm : 0 < m := by rw [← hl]; exact List.length_pos_iff.2 h0'
        refine ⟨b, o, k, O.lt, fun k2 => ?_, fun i hi => ?_⟩
        · rcases rm with k3 | ⟨b', o', cs', k3, O', _, k4⟩
          · omega
          · rw [k] at k3; cases k3
            exact k2 ⟨k4, O.lt⟩
        · rw [List.length_map] at hi
          rw [O.cell, g i hi, List.getElem_map]
  · rcases rm with k3 | ⟨b', o', cs', k3, O', g, k4⟩
    · exact .inl k3
    · exact .inr ⟨b', o', cs', k3, O', g, fun k2 => k2 ⟨k4, O'.lt⟩⟩
theorem numI_rd {hB : Heap} {neg : Bool} {q : Option Addr} {m : Nat} {e : Int} {M : Nat} {T : Nat → Prop} (N : NumI h neg q m e (digs B30 M)) (fr : Fresh hB q) (hT : ∀ b, hB.size ≤ b → ¬ T b) : Rd h T q (intL (digs B30 M)) := by
  refine ⟨dig_I64 N.d.dig, ?_⟩
  rcases N.d.sl with k | ⟨b, o, cs, k, O, g⟩
  · left; rw [k]; rfl
  · exact .inr ⟨b, o, k, O.lt, hT b (fr b o k), fun i hi => by
      rw [List.length_map] at hi
      rw [O.cell, g i hi, List.getElem_map]⟩
/-- expansion.Exact, in one. -/
theorem K95g {p : Option Addr} {n c : Nat} {xs : List Int} (ht : TabH h) (I : IntsH h p xs) (hn : xs.length = n)
    (H : ∀ neg q m c' e err h', Ext h h' → ((validP xs = true ∧ err = 0 ∧ Fresh h q ∧ Room h' q c' (fun b => h.size ≤ b) ∧ m ≤ c' ∧ NumS 1074 h' neg q m e (xs.map fV).sum) ∨ (validP xs = false ∧ err = 1 ∧ neg = false ∧ q = none ∧ m = 0 ∧ c' = 0 ∧ e = 0)) →
      R (.returned (.tuple #[.agg #[.bool neg, .slice q m c', .int .i64 e], .int .i64 err])) h') : Ent Tryz.prog B 95 #[.slice p n c] R h :=
  K95 ht I hn (fun hv neg q m c' e h' F fr rm le N => H neg q m c' e 0 h' F (.inl ⟨hv, rfl, fr, rm, le, N⟩)) fun hv h' F => H false none 0 0 0 1 h' F (.inr ⟨hv, rfl, rfl, rfl, rfl, rfl, rfl⟩)
/-- plumblaw7.looks. -/
theorem K45 {r cL cW n c : Nat} {pL pW p : Option Addr} {es : List En} {xs : List Int} (ht : TabH h) (I : IntsH h p xs) (hn : xs.length = n) (hlim : n ≤ 5000) (hpt : PtB h p) (hpT : ∀ x, Blk p x → ¬ KB r pL pW x)
    (K : Kept h r pL cL pW cW es) (hl : es.length ≤ 390) (H : KeepK R h r pL pW es 2) :
    Ent Tryz.prog B 45 #[.pointer (some ⟨r, 0, none⟩), .slice p n c] R h := by
  refine F45_ok _ _ _ _ (K77 I hn hpt.pt (by omega) fun qc mc cc h1 f1 Lc => ⟨_, _, _, rfl, ?_⟩)
  have hmc : mc = n + 3 := by have := Lc.len; simp [hn] at this; omega
  subst hmc
  have lc := Lc.le
  refine ⟨by omega, by omega, ?_⟩
  rw [Int.toNat_natCast]
  refine K78 (I.ext f1) hn fun h2 f2 => ⟨_, rfl, ?_⟩
  have F2 := Ext.trans f1 f2
  have Ix : ∀ {g}, Ext h2 g → IntsH g (slP qc 0 cc 1) xs := fun e => ((lent_ints Lc).ext f2).ext e
  refine K47 (Ix Fr.rfl') hn fun h3 f3 => ⟨_, _, rfl, K100 (Ix f3) hn fun h4 f4 => ⟨_, _, rfl, ?_⟩⟩
  have F24 := Ext.trans f3 f4
  refine K95g (ht.ext (Ext.trans F2 F24)) (Ix F24) hn fun neg q m c' e err h5 f5 P => ⟨_, _, _, _, _, _, rfl, alK fun r36 h37 e37 f37 o37 z37 => ?_⟩
  refine ⟨r36, 0, rfl, o37.stC (by simp) rfl fun oa fa => oa.stC (by simp) rfl fun ob fb => ob.stC (by simp) rfl fun oc fc => ?_⟩
  have fabc := Fr.trans (S := fun x => x = r36) (Fr.trans (S := fun x => x = r36) fa fb fun _ _ e => e) fc fun _ _ e => e
  have ON : Own _ r36 #[.bool neg, .slice q m c', .int .i64 e] := oc
  clear fa fb fc oa ob oc
  generalize setCell (setCell (setCell h37 ⟨r36, 0, none⟩ (.bool neg)) ⟨r36, 0 + 1, none⟩ (.slice q m c')) ⟨r36, 0 + 1 + 1, none⟩ (.int .i64 e) = h6 at fabc ON ⊢
  have f56 : Ext h5 h6 := Fr.trans (S := fun _ => False) f37 fabc fun x hx e => by omega
  have F26 := Ext.trans F24 (Ext.trans f5 f56)
  refine K46 (ht.ext (Ext.trans F2 F26)) (Ix F26) hn fun ql nl cl h7 f7 Ll => ⟨_, _, _, _, rfl, K37 (Ix (Ext.trans F26 f7)) hn ⟨_, rfl, ?_⟩⟩
  have F27 := Ext.trans F26 f7
  have F7 := Ext.trans F2 F27
  refine nope (by cases validP xs <;> rfl) ?_
  have s1 := f1.size
  have s2 := f2.size
  have s3 := F24.size
  have s5 := f5.size
  have s6 := f56.size
  have s7 := f7.size
  have hcb : ∀ x, Blk qc x → h.size ≤ x := fun x ⟨o, e⟩ => Lc.fresh x o e
  have hcl : ∀ x, Blk qc x → x < h1.size := fun x hx => (Lc.room.ptB (by omega)).lt hx
  refine K81 ((Lc.ext f2).ext F27) (I.ext F7) hn (by omega) fun h8 f8 => ⟨_, rfl, ?_⟩
  have F8 : Ext h h8 := Fr.trans (S := fun _ => False) F7 f8 fun x hx k => by have := hcb x k; omega
  have s8 := f8.size
  have K8' := K.ext F8
  have low : ∀ x, KT r pL pW es x → x < h1.size := fun x k => by have := K.lt k; omega
  have hr36 : h5.size ≤ r36 := by omega
  have ON8 : Own h8 r36 #[.bool neg, .slice q m c', .int .i64 e] := (ON.ext f7).fr f8 fun k => by have := hcl _ k; omega
  have Ll8 : Out h8 (Off h6.size h7.size) ql nl cl (compAns xs).1 := Ll.off.off f8 fun x b1 b2 k => by have := hcl x k; omega
  have I8 := I.ext F8
  have P8 : PtB h8 p := hpt.mono (by have := F8.size; omega)
  refine nope rfl ?_
  rcases P with ⟨hv, rfl, fr, rm, le, N⟩ | ⟨hv, rfl, rfl, rfl, rfl, rfl, rfl⟩
  · -- an expansion
    have hfin : ∀ x ∈ xs, isFin x = true := (vOk_iff.1 (Bool.and_eq_true_iff.1 hv).2).1
    have hc : compAns xs = ansOf (compP xs) := by unfold compAns; rw [hv]; rfl
    rw [hv]
    rw [hc] at Ll8 ⊢
    refine nope rfl (K101 I8 hn P8 (by omega) fun q1 m1 c1 h9 f9 L9 => ⟨_, _, _, _, rfl, yes rfl (K102 (I8.ext f9) hn (by omega) ⟨_, rfl, ?_⟩)⟩)
    refine yes (decide_eq_true rfl) (yes rfl (K103 (I8.ext f9) hn (by omega) fun h10 f10 => ⟨_, rfl, ?_⟩))
    have G10 := Ext.trans f9 f10
    refine yes (decide_eq_true rfl) (yes rfl ?_)
    obtain ⟨M, NI, ha, hb⟩ := N
    have NI8 : NumI h8 neg q m e (digs B30 M) := by
      have N6 := (NI.ext f56).ext f7
      exact ⟨⟨N6.d.pt, N6.d.sl.fr f8 fun b o e1 _ k => by have := fr b o e1; have := hcl b k; omega, N6.d.len, N6.d.dig, N6.d.trim⟩, N6.le, N6.zero, N6.pos⟩
    have rm8 : Room h8 q c' (fun b => h4.size ≤ b) := ((rm.ext f56).ext f7).fr f8 fun b k1 k2 => by have := hcl b k2; omega
    refine ⟨r36, 0, rfl, _, (ON8.ext G10).cell _, _, _, _, (ON8.ext G10).cell _, _, (ON8.ext G10).cell _, K105 (I8.ext G10) hn ((P8.mono f9.size).mono f10.size) (by omega) hfin fun neg2 q2 m2 c2 e2 h11 f11 fr2 N2 => ⟨_, _, _, _, _, rfl, same3 (ON8.ext G10) f11 id, ?_⟩⟩
    have G11 := Ext.trans G10 f11
    have NS : NumS 1074 h11 neg q m e (xs.map fV).sum := ⟨M, NI8.ext G11, ha, hb⟩
    refine K104 NS N2 fun h12 f12 => ⟨_, rfl, yes (decide_eq_true rfl) ?_⟩
    have G12 := Ext.trans G11 f12
    have ON12 := ON8.ext G12
    refine ⟨r36, 0, rfl, r36, 0 + 1, rfl, _, _, _, ON12.cell _, K105 ((I8.ext G12)) hn (((P8.mono f9.size).mono f10.size).mono (by have := f11.size; have := f12.size; omega)) (by omega) hfin fun neg3 q3 m3 c3 e3 h13 f13 fr3 N3 => ⟨_, _, _, _, _, rfl, same1 ON12 f13 id, ?_⟩⟩
    have G13 := Ext.trans G12 f13
    obtain ⟨M', NI3, ha3, hb3⟩ := N3
    have NI13 := NI8.ext G13
    obtain ⟨_, _, hM⟩ := numS_inj NI13 NI3 ha ha3 (hb.symm.trans hb3)
    subst hM
    have sz9 := f9.size
    have sz10 := f10.size
    have sz11 := f11.size
    have sz12 := f12.size
    have sz13 := f13.size
    have Om : Out h13 (Off h4.size h5.size) q m c' (intL (digs B30 M)) := by
      have O5 := numI_out NI rm le
      exact (((O5.ext f56).ext f7).off f8 fun x b1 b2 k => by have := hcl x k; omega).ext G13
    have Rm : Rd h13 (KB r pL pW) q3 (intL (digs B30 M)) := numI_rd NI3 fr3 fun b hb k => by have := low b (.inl k); omega
    have m2000 := NI13.le
    have m3000 := NI3.le
    refine K106 (lo := h4.size) (hi := h5.size) (K8'.ext G13) (by omega) Om (fun b b1 b2 k => by have := low b k; omega) Rm (by rw [List.length_map]; exact NI3.d.len) NI3.d.pt (by omega) fun pL1 cL1 pW1 cW1 e1 hA KA FA BA ZA => ⟨_, rfl, yes rfl (yes (decide_eq_true rfl) ?_)⟩
    have sA := FA.size
    have kb : ∀ b, KB r pL pW b → b < h1.size := fun b k => low b (.inl k)
    have LlA : Out hA (Off h6.size h7.size) ql nl cl (ansOf (compP xs)).1 := (Ll8.ext G13).off FA fun b b1 b2 k => by have := kb b k; omega
    have R9 : Rd h13 (KB r pL pW) q1 (ansOf (compP xs)).1 := (((L9.out (T := KB r pL pW) fun x b1 b2 k => by have := kb x k; omega).ext f10).ext (Ext.trans f11 (Ext.trans f12 f13))).rd
    have lA := ansOf_len (compP xs)
    have nA := LlA.len
    refine K106 KA (by simp; omega) LlA (fun b b1 b2 k => by
      rcases ZA b k with k | k | k
      · have := low b k; omega
      · omega
      · omega) (R9.fr FA (fun _ _ k => k) BA) L9.len L9.pt (by omega) fun pL2 cL2 pW2 cW2 e2' hB KB2 FB BB ZB => ⟨_, rfl, ?_⟩
    have sB := FB.size
    have KB' : Kept hB r pL2 cL2 pW2 cW2 (es ++ [e1, e2']) := by
      have := KB2
      simp only [List.append_assoc, List.cons_append, List.nil_append] at this
      exact this
    have F13 : Ext h h13 := Ext.trans F8 G13
    have FS1 : Fr (KB r pL pW) h hA := Fr.trans F13.to FA fun _ _ k => k
    have FS2 : Fr (KB r pL pW) h hB := Fr.trans FS1 FB fun b hb k => BA b (by omega) k
    refine H pL2 cL2 pW2 cW2 [e1, e2'] hB KB' (by simp) FS2 (fun b hb k => BA b (by omega) (BB b (by omega) k)) fun b k => ?_
    have k' : KT r pL2 pW2 (es ++ [e1] ++ [e2']) b := by
      simp only [List.append_assoc, List.cons_append, List.nil_append]
      exact k
    rcases ZB b k' with k | k | k
    · rcases ZA b k with k | k | k
      · exact .inl k
      · exact .inr (by omega)
      · exact .inr (by omega)
    · exact .inr (by omega)
    · exact .inr (by omega)
  · -- none
    have hc : compAns xs = ([], 1) := by unfold compAns; rw [hv]; rfl
    rw [hv]
    rw [hc] at Ll8 ⊢
    have n0 : nl = 0 := Ll8.len.symm
    subst n0
    refine yes rfl (yes rfl (yes rfl (yes rfl (yes rfl (yes rfl (yes rfl ⟨r36, 0, rfl, r36, _, rfl, _, ON8.cell _, yes rfl ⟨r36, 0, rfl, r36, _, rfl, _, _, _, ON8.cell _, yes rfl ⟨r36, 0, rfl, r36, _, rfl, _, ON8.cell _, yes rfl ?_⟩⟩⟩))))))
    exact H pL cL pW cW [] h8 (by rw [List.append_nil]; exact K8') (by simp) F8.to (fun _ _ k => k) fun b k => by rw [List.append_nil] at k; exact .inl k
end Go.Proofs
set_option linter.unusedVariables false
namespace Go.Proofs
open Go Go.Eng
variable {B : World} {R : Ending → Heap → Prop} {h : Heap}
/-- plumblaw7.ExpansionLooks. -/
theorem K13 {p : Option Addr} {n c : Nat} (ht : TabH h) (hs : SlH h p n c) (H : ∀ h', Ext h h' → R (.returned (.bool true)) h') : Ent Tryz.prog B 13 #[.slice p n c] R h := by
  obtain ⟨xs, I, hn, hpt, hc⟩ := hs
  refine F13_ok _ _ _ (alK fun r h4 e4 f4 o4 z4 => K29 (ht.ext f4) fun h6 f6 => ⟨_, rfl, fun _ => ?_, fun e => (by cases e)⟩)
  have G6 := Ext.trans f4 f6
  have Kp0 : Kept h6 r none 0 none 0 [] := (Kept.new o4).ext f6
  have s6 := G6.size
  refine ⟨fun e => ⟨fun _ => ?_, fun e => (by cases e)⟩, fun e => ?_⟩
  · refine K31 Kp0 (by decide) fun h' G' => ⟨_, rfl, H h' (Fr.trans (S := fun _ => False) G6 G' fun x hx k => by have := KT0 k; omega)⟩
  · have hn5 : n ≤ 4200 := by have := of_decide_eq_false e; omega
    refine K45 (ht.ext G6) (I.ext G6) hn (by omega) (hpt.mono s6) (fun x hx k => by have := KB0 k; have := hpt.lt hx; omega) Kp0 (by decide) fun pL cL pW cW es h7 Kp7 l7 G7 B7 Z7 => ⟨_, rfl, fun _ => ?_, fun e => (by cases e)⟩
    refine K31 Kp7 (by rw [List.nil_append]; omega) fun h8 G8 => ⟨_, rfl, H h8 ?_⟩
    have A7 : Ext h h7 := Fr.trans (S := fun _ => False) G6 G7 fun x hx k => by have := KB0 k; omega
    refine Fr.trans (S := fun _ => False) A7 G8 fun x hx k => ?_
    rcases Z7 x k with k | k
    · have := KT0 k; omega
    · omega
end Go.Proofs
