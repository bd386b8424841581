import Derived.Test.YtkfafikejdhccaaGreatDoorA34
import Derived.Test.YtkfafikejdhccaaGreatDoorA36
import Derived.Test.YtkfafikejdhccaaGreatDoorA35
/- Here stand lemmas: exact values of expansions. -/
set_option linter.unusedVariables false
set_option linter.unusedVariables false
namespace Go.Proofs
open Go Go.Eng
variable {B : World} {R : Ending → Heap → Prop} {h : Heap}
/-- The sign of a list's last float. -/
def signV (xs : List Int) : Int := match xs.getLast? with | none => 0 | some x => if x < 0 then -1 else 1
theorem IntsH.last {p : Option Addr} {xs : List Int} {n : Nat} (I : IntsH h p xs) (hn : xs.length = n) (h0 : n ≠ 0) (hlim : n ≤ 1000000000) {K : Int → Prop} (k : ∀ x, xs.getLast? = some x → I64 x → xs[n - 1]? = some x → K x) :
    ixW p n (IntKind.i64.wrap (((n : Nat) : Int) - (1 : Int))) 1 fun b o => isP (some ⟨b, o, none⟩) fun b o => ∃ x, cell? h ⟨b, o, none⟩ = some (.int .i64 x) ∧ K x := by
  have w : IntKind.i64.wrap (((n : Nat) : Int) - (1 : Int)) = ((n - 1 : Nat) : Int) := by rw [i64_in (by omega) (by omega)]; omega
  rw [w]
  have hl : n - 1 < xs.length := by omega
  refine I.get hn hl (k _ ?_ (I.1 _ (List.getElem_mem hl)) (List.getElem?_eq_getElem hl))
  rw [List.getLast?_eq_getElem?, List.getElem?_eq_getElem (by omega)]
  subst hn; rfl
/-- expansion.Sign. -/
theorem K47 {p : Option Addr} {n c : Nat} {xs : List Int} (I : IntsH h p xs) (hn : xs.length = n) (H : ∀ h', Ext h h' → R (.returned (.tuple #[.int .i64 (if validP xs then signV xs else 0), .int .i64 (if validP xs then 0 else 1)])) h') : Ent Tryz.prog B 47 #[.slice p n c] R h := by
  refine F47_ok _ _ _ (alK fun r h3 e3 f3 o3 z3 => K87 (ss := [(p, n, c, xs)]) o3 rfl (by decide) (fun s hs => ?_) ⟨_, rfl, ?_⟩)
  · rw [List.mem_singleton.1 hs]; exact ⟨I.ext f3, hn⟩
  have hall : (([(p, n, c, xs)] : List (Option Addr × Nat × Nat × List Int)).all fun s => validP s.2.2.2) = validP xs := by simp
  rw [hall]
  have H3 := H h3 f3
  cases hv : validP xs
  · rw [hv] at H3
    exact ⟨fun _ => H3, fun e => absurd e (by decide)⟩
  rw [hv] at H3
  simp only [if_true] at H3
  have hl := validP_len hv
  refine ⟨fun e => absurd e (by decide), fun _ => ⟨fun e => ?_, fun e => ?_⟩⟩
  · have h0 : xs = [] := List.eq_nil_of_length_eq_zero (by have := of_decide_eq_true e; omega)
    rw [h0] at H3; exact H3
  · refine (I.ext f3).last hn (by have := of_decide_eq_false e; omega) (by omega) fun x hx _ _ => ?_
    unfold signV at H3
    rw [hx] at H3
    refine ⟨fun e => ?_, fun e => ?_⟩
    · have := of_decide_eq_true e
      simp only [if_pos this] at H3; exact H3
    · have := of_decide_eq_false e
      simp only [if_neg this] at H3; exact H3
end Go.Proofs
set_option linter.unusedVariables false
namespace Go.Proofs
open Go Go.Eng
variable {B : World} {R : Ending → Heap → Prop} {h : Heap}
/-- Compressing, downward: what is left, and the list, the least one first; none: a step was not exact. -/
def downP (q : Int) (acc : List Int) : List Int → Option (Int × List Int)
  | [] => some (q, acc)
  | y :: r => if sumOk (sumH q y) (fstL q y) q y then (if cls (fstL q y) = 0 then downP (sumH q y) acc r else downP (fstL q y) (sumH q y :: acc) r) else none
/-- Upward. -/
def upP (out : List Int) (q : Int) : List Int → Option (List Int)
  | [] => some (addL out q)
  | x :: r => if sumOk (sumH x q) (fstL x q) x q then upP (addL out (fstL x q)) (sumH x q) r else none
def compP (xs : List Int) : Option (List Int) :=
  match xs.reverse with
  | [] => some []
  | x :: r => match downP x [] r with
    | some (q, l) => upP [] q l
    | none => none
def compAns (xs : List Int) : List Int × Int := if validP xs then ansOf (compP xs) else ([], 1)
theorem fstL_I64 (a b : Int) : I64 (fstL a b) := subP_I64 _ _
theorem rev_last {xs rest : List Int} {x0 : Int} (h : xs.reverse = x0 :: rest) : xs.length = rest.length + 1 ∧ xs[xs.length - 1]? = some x0 ∧ ∀ j (hj : j < rest.length), xs[xs.length - 2 - j]? = some rest[j] := by
  have hl : xs.length = rest.length + 1 := by have := congrArg List.length h; simpa using this
  have g : ∀ i, i < xs.length → xs[xs.length - 1 - i]? = (x0 :: rest)[i]? := fun i hi => by rw [← h, List.getElem?_reverse hi]
  refine ⟨hl, ?_, fun j hj => ?_⟩
  · have := g 0 (by omega)
    rw [Nat.sub_zero] at this; rw [this]; rfl
  · have := g (j + 1) (by omega)
    rw [show xs.length - 1 - (j + 1) = xs.length - 2 - j by omega] at this
    rw [this, List.getElem?_cons_succ, List.getElem?_eq_getElem hj]
/-- expansion.Compress. -/
theorem K46 {p : Option Addr} {n c : Nat} {xs : List Int} (ht : TabH h) (I : IntsH h p xs) (hn : xs.length = n)
    (H : ∀ q m c' h', Ext h h' → Lj h h' q m c' (compAns xs).1 → R (.returned (.tuple #[.slice q m c', .int .i64 (compAns xs).2])) h') : Ent Tryz.prog B 46 #[.slice p n c] R h := by
  refine F46_ok _ _ _ (alK fun r3 h4 e4 f4 o4 z4 => alK fun r5 h6 e6 f6 o6 z6 => alK fun r7 h8 e8 f8 o8 z8 => ?_)
  have F8 := Ext.trans f4 (Ext.trans f6 f8)
  have O3 := (o4.ext f6).ext f8
  have O5 := o6.ext f8
  have hne : r5 ≠ r3 := by omega
  refine K87 (ss := [(p, n, c, xs)]) o8 rfl (by decide) (fun s hs => ?_) ⟨_, rfl, ?_⟩
  · rw [List.mem_singleton.1 hs]; exact ⟨I.ext F8, hn⟩
  have hall : (([(p, n, c, xs)] : List (Option Addr × Nat × Nat × List Int)).all fun s => validP s.2.2.2) = validP xs := by simp
  rw [hall]
  unfold compAns at H
  cases hv : validP xs
  · rw [hv] at H
    exact ⟨fun _ => ⟨fun _ => expEnd O3 O5 hne fun h' f => H none 0 0 h' (Fr.trans F8 f fun x hx e => by omega) Lj.nil, fun e => (by cases e)⟩, fun e => absurd e (by decide)⟩
  rw [hv] at H
  have hl := validP_len hv
  refine ⟨fun e => absurd e (by decide), fun _ => ⟨fun e => ?_, fun e => ?_⟩⟩
  · have h0 : xs = [] := List.eq_nil_of_length_eq_zero (by have := of_decide_eq_true e; omega)
    subst h0
    exact expEnd O3 O5 hne fun h' f => H none 0 0 h' (Fr.trans F8 f fun x hx e => by omega) Lj.nil
  have hn0 : n ≠ 0 := by have := of_decide_eq_false e; omega
  obtain ⟨x0, rest, hrev⟩ : ∃ x0 rest, xs.reverse = x0 :: rest := by
    cases hr : xs.reverse with
    | nil => have h1 := congrArg List.length hr; rw [List.length_reverse, List.length_nil] at h1; omega
    | cons a b => exact ⟨a, b, rfl⟩
  obtain ⟨hlr, hx0, hrest⟩ := rev_last hrev
  have hcomp : compP xs = match downP x0 [] rest with | some (q, l) => upP [] q l | none => none := by unfold compP; rw [hrev]
  refine ⟨by omega, by omega, by omega, by omega, ?_⟩
  rw [Int.toNat_natCast, Nat.mul_one]
  refine alK fun r50 h51 e51 f51 o51 z51 => ?_
  have ms : (mkCells #[Value.int .i64 0] n).size = n := by simp [mkCells]
  have F51 := Ext.trans F8 f51
  have hr50 : h.size ≤ r50 := by have := F8.size; omega
  have s6 := f6.size
  have s8 := f8.size
  refine (I.ext F51).last hn hn0 (by omega) fun x hx hxI hx2 => ?_
  have hxx : x = x0 := by rw [← hn, hx0] at hx2; exact (Option.some.inj hx2).symm
  subst hxx
  have w1 : IntKind.i64.wrap (((n : Nat) : Int) - (1 : Int)) = ((n - 1 : Nat) : Int) := by rw [i64_in (by omega) (by omega)]; omega
  rw [w1]
  refine ⟨fun k vs h' => match vs with
    | [.slice p1 n1 c1, .pointer a, .pointer b, .int _ nn, .slice g gn gc, .int _ at', .int _ q, .int _ nm, .int _ i] => p = p1 ∧ n = n1 ∧ c = c1 ∧ a = some (⟨r3, 0, none⟩ : Addr) ∧ b = some (⟨r5, 0, none⟩ : Addr) ∧ nn = (n : Int) ∧ g = some (⟨r50, 0, none⟩ : Addr) ∧ n = gn ∧ n = gc ∧ nm = ((n - 1 : Nat) : Int) ∧ I64 q ∧
        ∃ j : Nat, i = (j : Int) ∧ j ≤ n - 1 ∧ k = n - 1 - j ∧ Fr (fun x => x = r50) h51 h' ∧ ∃ acc cs, Own h' r50 cs ∧ cs.size = n ∧ acc.length ≤ j ∧ at' = ((n - acc.length : Nat) : Int) ∧ (∀ k (hk : k < acc.length), cs[n - acc.length + k]? = some (.int .i64 acc[k])) ∧ (∀ x ∈ acc, I64 x) ∧ downP q acc (rest.drop j) = downP x [] rest
    | _ => False, n - 1, ⟨rfl, rfl, rfl, rfl, rfl, rfl, rfl, rfl, rfl, rfl, hxI, 0, rfl, by omega, by omega, Fr.rfl', [], _, o51, ms, Nat.le_refl _, rfl, fun k hk => absurd hk (by simp), fun x hx => (by cases hx), rfl⟩, ?_⟩
  rintro k h1 _ _ _ _ _ _ _ _ _ at' q _ _ ⟨rfl, rfl, rfl, rfl, rfl, rfl, rfl, rfl, rfl, rfl, hq, j, rfl, hj, rfl, F, acc, cs, O, hcs, hal, hat, hcell, hacc, hg⟩ _
  have F1 : Ext h h1 := Fr.trans (S := fun _ => False) F51 F fun x hx e => by omega
  have O31 : Own h1 r3 #[.slice none 0 0] := (O3.ext f51).fr F (by omega)
  have O51 : Own h1 r5 #[.int .i64 0] := (O5.ext f51).fr F (by omega)
  have die : ∀ h2, Ext h1 h2 → compP xs = none → ∀ h3, Fr (fun x => x = r3 ∨ x = r5) h2 h3 → R (.returned (.tuple #[.slice none 0 0, .int .i64 (14 : Int)])) h3 := by
    intro h2 f2 hnone h3 f3
    rw [hnone] at H
    exact H none 0 0 h3 (Fr.trans (Ext.trans F1 f2) f3 fun x hx e => by omega) Lj.nil
  have hat1 : IntKind.i64.wrap (at' - (1 : Int)) = ((n - acc.length - 1 : Nat) : Int) := by rw [hat, i64_in (by omega) (by omega)]; omega
  refine ⟨fun e => ?_, fun e => ?_⟩
  · have hjn : j < rest.length := by have := of_decide_eq_true e; omega
    have wj : IntKind.i64.wrap ((IntKind.i64.wrap (((n : Nat) : Int) - (2 : Int))) - ((j : Nat) : Int)) = ((n - 2 - j : Nat) : Int) := by
      rw [i64_in (x := ((n : Nat) : Int) - (2 : Int)) (by omega) (by omega), i64_in (by omega) (by omega)]; omega
    have hjx : n - 2 - j < xs.length := by omega
    have hxj : xs[n - 2 - j] = rest[j] := by
      have := hrest j hjn
      rw [hn, List.getElem?_eq_getElem hjx] at this
      exact Option.some.inj this
    have hI : I64 rest[j] := by rw [← hxj]; exact I.1 _ (List.getElem_mem hjx)
    have hd : rest.drop j = rest[j] :: rest.drop (j + 1) := List.drop_eq_getElem_cons hjn
    rw [hd] at hg
    have eD : downP q acc (rest[j] :: rest.drop (j + 1)) = if sumOk (sumH q rest[j]) (fstL q rest[j]) q rest[j] then (if cls (fstL q rest[j]) = 0 then downP (sumH q rest[j]) acc (rest.drop (j + 1)) else downP (fstL q rest[j]) (sumH q rest[j] :: acc) (rest.drop (j + 1))) else none := rfl
    rw [eD] at hg
    rw [wj]
    refine (I.ext F1).get hn hjx ?_
    rw [hxj]
    generalize rest[j] = y at *
    refine K20 (ht.ext F1) hq hI fun h2 f2 => ⟨_, _, _, rfl, K107 (fun ok => ⟨_, _, rfl, K17 ⟨_, rfl, fun e1 => ?_, fun e1 => ?_⟩⟩) fun ok => ?_⟩
    · have hc : ¬ cls (fstL q y) = 0 := by intro k; rw [k] at e1; cases e1
      rw [ok, if_pos rfl, if_neg hc] at hg
      rw [hat1]
      refine ⟨r50, 0, rfl, by omega, by omega, r50, _, rfl, (O.ext f2).stC (by rw [Int.toNat_natCast]; omega) rfl fun a g => ⟨rfl, n - 1 - (j + 1), by omega, rfl, rfl, rfl, rfl, rfl, rfl, rfl, rfl, rfl, rfl, fstL_I64 _ _, j + 1, ?_, by omega, rfl, Fr.trans (Fr.trans F f2 fun x _ e => e.elim) g fun _ _ e => e, sumH q y :: acc, _, a, by rw [Array.size_setIfInBounds]; exact hcs, by rw [List.length_cons]; omega, by rw [List.length_cons]; omega, fun k hk => ?_, fun x hx => ?_, hg⟩⟩
      · rw [i64_in (by omega) (by omega)]; rfl
      · rw [Int.toNat_natCast, Nat.mul_one, Nat.zero_add]
        cases k with
        | zero =>
          rw [List.length_cons, Nat.add_zero, show n - (acc.length + 1) = n - acc.length - 1 by omega, Array.getElem?_setIfInBounds_self_of_lt (by omega)]; rfl
        | succ k =>
          rw [List.length_cons] at hk ⊢
          rw [Array.getElem?_setIfInBounds_ne (by omega), show n - (acc.length + 1) + (k + 1) = n - acc.length + k by omega, hcell k (by omega)]; rfl
      · rcases List.mem_cons.1 hx with e | hx
        · rw [e]; exact addP_I64 _ _
        · exact hacc x hx
    · have hc : cls (fstL q y) = 0 := by
        by_cases k : cls (fstL q y) = 0
        · exact k
        · rw [decide_eq_false k] at e1; cases e1
      rw [ok, if_pos rfl, if_pos hc] at hg
      refine ⟨rfl, n - 1 - (j + 1), by omega, rfl, rfl, rfl, rfl, rfl, rfl, rfl, rfl, rfl, rfl, addP_I64 _ _, j + 1, ?_, by omega, rfl, Fr.trans F f2 fun x _ e => e.elim, acc, cs, O.ext f2, hcs, by omega, hat, hcell, hacc, hg⟩
      rw [i64_in (by omega) (by omega)]; rfl
    · have hnone : compP xs = none := by
        rw [hcomp, ← hg, ok]; rfl
      exact expDie (O31.ext f2) (O51.ext f2) hne (die h2 f2 hnone)
  · have hjn : j = n - 1 := by have := of_decide_eq_false e; omega
    rw [List.drop_of_length_le (by omega)] at hg
    have hg : some (q, acc) = downP x [] rest := hg
    rw [← hg] at hcomp
    have hcomp : compP xs = upP [] q acc := hcomp
    rw [hat1]
    refine ⟨r50, 0, rfl, by omega, by omega, r50, _, rfl, O.stC (by rw [Int.toNat_natCast]; omega) rfl fun a g => ?_⟩
    rw [Int.toNat_natCast, Nat.mul_one, Nat.zero_add] at a g ⊢
    have hq0 : (cs.setIfInBounds (n - acc.length - 1) (Value.int .i64 q))[n - acc.length - 1]? = some (.int .i64 q) := Array.getElem?_setIfInBounds_self_of_lt (by omega)
    have hcs2 : (cs.setIfInBounds (n - acc.length - 1) (Value.int .i64 q)).size = n := by rw [Array.size_setIfInBounds]; exact hcs
    have hcell2 : ∀ k (hk : k < acc.length), (cs.setIfInBounds (n - acc.length - 1) (Value.int .i64 q))[n - acc.length + k]? = some (.int .i64 acc[k]) := fun k hk => by
      rw [Array.getElem?_setIfInBounds_ne (by omega)]; exact hcell k hk
    generalize setCell h1 ⟨r50, n - acc.length - 1, none⟩ (.int .i64 q) = hG at a g ⊢
    generalize cs.setIfInBounds (n - acc.length - 1) (Value.int .i64 q) = cs2 at *
    have FG : Ext h hG := Fr.trans (S := fun _ => False) F1 g fun x hx e => by omega
    refine ⟨r50, 0, rfl, by omega, by omega, r50, _, rfl, q, by rw [Int.toNat_natCast, Nat.mul_one, Nat.zero_add]; exact own_cell a hq0, ?_⟩
    have w3 : IntKind.i64.wrap (((n - acc.length - 1 : Nat) : Int) + (1 : Int)) = ((n - acc.length : Nat) : Int) := by rw [i64_in (by omega) (by omega)]; omega
    rw [w3]
    refine ⟨by omega, by omega, ?_⟩
    rw [Int.toNat_natCast]
    have hna : n - (n - acc.length) = acc.length := by omega
    have IA : IntsH hG (slP (some ⟨r50, 0, none⟩) (n - acc.length) n 1) acc := by
      refine ⟨hacc, ?_⟩
      by_cases h0 : acc = []
      · exact .inl h0
      · have hpos : 0 < acc.length := List.length_pos_iff.2 h0
        refine .inr ⟨r50, n - acc.length, ?_, a.lt, fun i hi => by rw [a.cell]; exact hcell2 i hi⟩
        unfold slP
        rw [if_neg (by omega)]
        show some ((⟨r50, 0, none⟩ : Addr).add ((n - acc.length) * 1)) = _
        rw [add_addr, Nat.mul_one, Nat.zero_add]
    have O3G : Own hG r3 #[.slice none 0 0] := O31.fr g (by omega)
    have O5G : Own hG r5 #[.int .i64 0] := O51.fr g (by omega)
    refine ⟨fun k vs h' => match vs with
      | [.pointer a, .pointer b, .int _ z, .slice o on oc, .slice p1 n1 c1, .int _ nn, .int _ i] => a = some (⟨r3, 0, none⟩ : Addr) ∧ b = some (⟨r5, 0, none⟩ : Addr) ∧ slP (some ⟨r50, 0, none⟩) (n - acc.length) n 1 = p1 ∧ n - (n - acc.length) = n1 ∧ n - (n - acc.length) = c1 ∧ nn = ((n - (n - acc.length) : Nat) : Int) ∧ I64 z ∧
          ∃ j : Nat, i = (j : Int) ∧ j ≤ acc.length ∧ k = acc.length - j ∧ Ext hG h' ∧ ∃ out, Lj hG h' o on oc out ∧ on ≤ j ∧ upP out z (acc.drop j) = upP [] q acc
      | _ => False, acc.length, ⟨rfl, rfl, rfl, rfl, rfl, rfl, hq, 0, rfl, by omega, by omega, Fr.rfl', [], Lj.nil, Nat.le_refl _, rfl⟩, ?_⟩
    rintro k h2 _ _ z o on oc _ _ _ _ _ ⟨rfl, rfl, rfl, rfl, rfl, rfl, hz, j, rfl, hj, rfl, F2, out, L, hon, hu⟩ _
    have G2 := Ext.trans FG F2
    have sG := FG.size
    refine ⟨fun e => ?_, fun e => ?_⟩
    · have hja : j < acc.length := by have := of_decide_eq_true e; omega
      have hd : acc.drop j = acc[j] :: acc.drop (j + 1) := List.drop_eq_getElem_cons hja
      rw [hd] at hu
      have hI : I64 acc[j] := hacc _ (List.getElem_mem hja)
      have eU : upP out z (acc[j] :: acc.drop (j + 1)) = if sumOk (sumH acc[j] z) (fstL acc[j] z) acc[j] z then upP (addL out (fstL acc[j] z)) (sumH acc[j] z) (acc.drop (j + 1)) else none := rfl
      rw [eU] at hu
      refine (IA.ext F2).get hna.symm hja ?_
      generalize acc[j] = y at *
      refine K20 (ht.ext G2) hI hz fun h3 f3 => ⟨_, _, _, rfl, K107 (fun ok => ⟨_, _, rfl, ?_⟩) fun ok => ?_⟩
      · rw [ok, if_pos rfl] at hu
        refine K108 (L.ext f3) (Ext.trans F2 f3) (by omega) (fstL_I64 _ _) fun q' m' c' h4' L' F' => ⟨_, _, _, rfl, rfl, acc.length - (j + 1), by omega, rfl, rfl, rfl, rfl, rfl, rfl, addP_I64 _ _, j + 1, ?_, by omega, rfl, F', _, L', ?_, hu⟩
        · rw [i64_in (by omega) (by omega)]; rfl
        · have := addL_len out (fstL y z)
          have := L'.len
          have := L.len
          omega
      · have hnone : compP xs = none := by rw [hcomp, ← hu, ok]; rfl
        have F3 := Ext.trans F2 f3
        rw [hnone] at H
        exact expDie (O3G.ext F3) (O5G.ext F3) hne fun h4' f4' => H none 0 0 h4' (Fr.trans (Ext.trans FG F3) f4' fun x hx e => by omega) Lj.nil
    · have hja : j = acc.length := by have := of_decide_eq_false e; omega
      rw [List.drop_of_length_le (by omega)] at hu
      have hsome : compP xs = some (addL out z) := by rw [hcomp, ← hu]; rfl
      rw [hsome] at H
      refine K108 L F2 (by omega) hz fun q' m' c' h4' L' F' => ⟨_, _, _, rfl, K89e (O3G.ext F') (O5G.ext F') hne L' O3G.lt O5G.lt fun q m c' h5 f5 L2 => H q m c' h5 (Fr.trans (Ext.trans FG F') f5 fun x hx e => by omega) (L2.base FG.size)⟩
end Go.Proofs
set_option linter.unusedVariables false
namespace Go.Proofs
open Go Go.Eng
variable {B : World} {R : Ending → Heap → Prop} {h : Heap}
end Go.Proofs
set_option linter.unusedVariables false
namespace Go.Eng
open Go
theorem same3 {h h' : Heap} {b : Nat} {cs : Array Value} {S : Nat → Prop} (H : Own h b cs) (f : Fr S h h') (hb : ¬ S b) : sameCells h h' b 0 3 := by
  have h1 := H.fr f hb
  simp only [sameCells]
  simp [H.cell, h1.cell]
end Go.Eng
namespace Go.Proofs
open Go Go.Eng
variable {B : World} {R : Ending → Heap → Prop} {h : Heap}
theorem sum_bl {L : Nat} {vs : List Int} (h : ∀ v ∈ vs, bl v.natAbs ≤ L) : bl vs.sum.natAbs ≤ L + vs.length := by
  induction vs with
  | nil => exact Nat.zero_le _
  | cons v r ih =>
    rw [List.sum_cons, List.length_cons]
    have h1 := h v (List.mem_cons_self ..)
    have h2 := ih fun x hx => h x (List.mem_cons_of_mem _ hx)
    exact bl_add (L := L + r.length) (by omega) h2
/-- dyadic.Sum, and the room of its digits. -/
theorem K119n {K n c : Nat} {p : Option Addr} {vs : List Int} (ht : TabH h) (N : NumL K h p vs) (hn : vs.length = n) (hl : n ≤ 20000) (hK : K ≤ 1048576) (hv : ∀ v ∈ vs, bl v.natAbs ≤ 3000)
    (H : ∀ neg' p' n' c' e' h', Ext h h' → Fresh h p' → Room h' p' c' (fun b => h.size ≤ b) → n' ≤ c' → NumS K h' neg' p' n' e' vs.sum → R (.returned (.tuple #[.agg #[.bool neg', .slice p' n' c', .int .i64 e'], .int .i64 (0 : Int)])) h') :
    Ent Tryz.prog B 119 #[.slice p n c] R h := by
  refine F119_ok _ _ _ (alK fun r2 h3 e2 f2 o2 z2 => alK fun r4 h5 e4 f4 o4 z4 => ?_)
  have F := Ext.trans f2 f4
  refine K67 (N.ext F) hn (by omega) fun xs h28 f28 X => ⟨_, _, _, rfl, ?_⟩
  refine K66 X hn (by omega) hK (fun i _ => ?_) (fun x hx => Nat.le_trans (hv x hx) (by decide)) fun r q m e' h46 f46 I he hs => ⟨_, _, rfl, ?_⟩
  · have := sum_bl (L := 3000) (vs := vs.take i) fun v h => hv v (List.mem_of_mem_take h)
    have h2 : (vs.take i).length ≤ n := by rw [List.length_take, hn]; exact Nat.min_le_right _ _
    omega
  refine K65R (ht.ext (Ext.trans F (Ext.trans f28 f46))) I he hs (by have := sum_bl hv; omega) hK fun neg' p' n' c' e' h65 f65 fr65 rm le N => ⟨_, _, _, _, _, rfl, ?_⟩
  have FX := Ext.trans f28 (Ext.trans f46 f65)
  have s5 := F.size
  have s46 := (Ext.trans f28 f46).size
  have l2 := (o2.ext f4).lt
  have l4 := o4.lt
  refine numEnd ((o2.ext f4).ext FX) (o4.ext FX) (by omega) fun h' f => ?_
  exact H neg' p' n' c' e' h' (Fr.trans (Ext.trans F FX) f fun x hx e => by omega) (fr65.mono (by omega)) ((rm.fr f fun b k1 k2 => by omega).mono fun b k => by omega) le (N.fr f fun b o e e3 => by have := fr65 b o e; omega)
/-- expansion.Exact. -/
theorem K95 {p : Option Addr} {n c : Nat} {xs : List Int} (ht : TabH h) (I : IntsH h p xs) (hn : xs.length = n)
    (H1 : validP xs = true → ∀ neg q m c' e h', Ext h h' → Fresh h q → Room h' q c' (fun b => h.size ≤ b) → m ≤ c' → NumS 1074 h' neg q m e (xs.map fV).sum → R (.returned (.tuple #[.agg #[.bool neg, .slice q m c', .int .i64 e], .int .i64 (0 : Int)])) h')
    (H2 : validP xs = false → ∀ h', Ext h h' → R (.returned (.tuple #[.agg #[.bool false, .slice none 0 0, .int .i64 (0 : Int)], .int .i64 (1 : Int)])) h') : Ent Tryz.prog B 95 #[.slice p n c] R h := by
  refine F95_ok _ _ _ (alK fun r2 h3 e2 f2 o2 z2 => alK fun r4 h5 e4 f4 o4 z4 => K87 (ss := [(p, n, c, xs)]) o4 rfl (by decide) (fun s hs => ?_) ⟨_, rfl, ?_⟩)
  · rw [List.mem_singleton.1 hs]; exact ⟨(I.ext f2).ext f4, hn⟩
  have hall : (([(p, n, c, xs)] : List (Option Addr × Nat × Nat × List Int)).all fun s => validP s.2.2.2) = validP xs := by simp
  rw [hall]
  have F5 := Ext.trans f2 f4
  have O2 := o2.ext f4
  have s5 := F5.size
  have s2 := f2.size
  cases hv : validP xs
  · refine ⟨fun _ => ?_, fun e => absurd e (by decide)⟩
    refine ⟨r2, 0, rfl, O2.stC (by simp) rfl fun oa fa => oa.stC (by simp) rfl fun ob fb => ob.stC (by simp) rfl fun oc fc => ⟨r2, 0, rfl, _, oc.cell _, _, _, _, oc.cell _, _, oc.cell _, ?_⟩⟩
    have fabc := Fr.trans (S := fun x => x = r2) (Fr.trans (S := fun x => x = r2) fa fb fun _ _ e => e) fc fun _ _ e => e
    exact H2 hv _ (Fr.trans F5 fabc fun x hx e => by omega)
  refine ⟨fun e => absurd e (by decide), fun _ => ?_⟩
  have hl := validP_len hv
  have hfin : ∀ x ∈ xs, isFin x = true := by
    have := (Bool.and_eq_true_iff.1 hv).2
    exact (vOk_iff.1 this).1
  refine ⟨by omega, by omega, by omega, by omega, ?_⟩
  rw [Int.toNat_natCast]
  refine alK fun r21 h22 e21 f21 o21 z21 => ?_
  have ms : (mkCells #[Value.bool false, .slice none 0 0, .int .i64 0] (n * 3)).size = n * 3 := by simp [mkCells]
  have F22 := Ext.trans F5 f21
  have hr21 : h.size ≤ r21 := by omega
  refine ⟨fun k vs h' => match vs with
    | [.slice p1 n1 c1, .pointer a, .slice g gn gc, .int _ nn, .int _ i] => p = p1 ∧ n = n1 ∧ c = c1 ∧ a = some (⟨r2, 0, none⟩ : Addr) ∧ g = some (⟨r21, 0, none⟩ : Addr) ∧ n = gn ∧ n = gc ∧ nn = (n : Int) ∧
        ∃ j : Nat, i = (j : Int) ∧ j ≤ n ∧ k = n - j ∧ Fr (fun x => x = r21) h22 h' ∧ ∃ cs, Own h' r21 cs ∧ cs.size = n * 3 ∧ ∀ i (hi : i < xs.length), i < j → ∃ neg q m c e, cs[i * 3]? = some (.bool neg) ∧ cs[i * 3 + 1]? = some (.slice q m c) ∧ cs[i * 3 + 1 + 1]? = some (.int .i64 e) ∧ NumS 1074 h' neg q m e (fV xs[i]) ∧ ∀ b o, q = some ⟨b, o, none⟩ → r21 < b
    | _ => False, n, ⟨rfl, rfl, rfl, rfl, rfl, rfl, rfl, rfl, 0, rfl, by omega, by omega, Fr.rfl', _, o21, ms, fun i _ h0 => absurd h0 (by omega)⟩, ?_⟩
  rintro k h1 _ _ _ _ _ _ _ _ _ ⟨rfl, rfl, rfl, rfl, rfl, rfl, rfl, rfl, j, rfl, hj, rfl, F, cs, O, hcs, hg⟩ _
  have F1 : Ext h h1 := Fr.trans (S := fun _ => False) F22 F fun x hx e => by omega
  have lr := O.lt
  refine ⟨fun e => ?_, fun e => ?_⟩
  · have hjn : j < xs.length := by have := of_decide_eq_true e; omega
    refine (I.ext F1).get hn hjn (K21 (ht.ext F1) (hfin _ (List.getElem_mem hjn)) fun neg q m c' e' h2 f2' fr N => ⟨_, _, _, _, _, _, rfl, r21, 0, rfl, by omega, by omega, r21, _, rfl, ?_⟩)
    rw [Int.toNat_natCast, Nat.zero_add]
    refine (O.ext f2').stC (by omega) rfl fun oa fa => oa.stC (by simp; omega) rfl fun ob fb => ob.stC (by simp; omega) rfl fun oc fc => ?_
    have fabc := Fr.trans (S := fun x => x = r21) (Fr.trans (S := fun x => x = r21) fa fb fun _ _ e => e) fc fun _ _ e => e
    have hq : ∀ b o, q = some ⟨b, o, none⟩ → r21 < b := fun b o e => by have := fr b o e; omega
    refine ⟨n - (j + 1), by omega, rfl, rfl, rfl, rfl, rfl, rfl, rfl, rfl, j + 1, ?_, by omega, rfl, Fr.trans (Fr.trans F f2' fun x _ e => e.elim) fabc fun _ _ e => e, _, oc, by simp [hcs], fun i hi hij => ?_⟩
    · rw [i64_in (by omega) (by omega)]; rfl
    · by_cases hij2 : i = j
      · subst hij2
        refine ⟨neg, q, m, c', e', ?_, ?_, ?_, N.fr fabc fun b o e k => by have := hq b o e; omega, hq⟩
        · rw [Array.getElem?_setIfInBounds_ne (by omega), Array.getElem?_setIfInBounds_ne (by omega), Array.getElem?_setIfInBounds_self_of_lt (by omega)]
        · rw [Array.getElem?_setIfInBounds_ne (by omega), Array.getElem?_setIfInBounds_self_of_lt (by simp; omega)]
        · rw [Array.getElem?_setIfInBounds_self_of_lt (by simp; omega)]
      · obtain ⟨neg', q', m', c2, e2', g1, g2, g3, g4, g5⟩ := hg i hi (by omega)
        refine ⟨neg', q', m', c2, e2', ?_, ?_, ?_, (g4.ext f2').fr fabc fun b o e k => by have := g5 b o e; omega, g5⟩
        · rw [Array.getElem?_setIfInBounds_ne (by omega), Array.getElem?_setIfInBounds_ne (by omega), Array.getElem?_setIfInBounds_ne (by omega)]; exact g1
        · rw [Array.getElem?_setIfInBounds_ne (by omega), Array.getElem?_setIfInBounds_ne (by omega), Array.getElem?_setIfInBounds_ne (by omega)]; exact g2
        · rw [Array.getElem?_setIfInBounds_ne (by omega), Array.getElem?_setIfInBounds_ne (by omega), Array.getElem?_setIfInBounds_ne (by omega)]; exact g3
  · have hjn : j = n := by have := of_decide_eq_false e; omega
    have NL : NumL 1074 h1 (some ⟨r21, 0, none⟩) (xs.map fV) := by
      refine .inr ⟨r21, 0, cs, rfl, O, fun i hi => ?_⟩
      rw [List.length_map] at hi
      obtain ⟨neg', q', m', c2, e2', g1, g2, g3, g4, g5⟩ := hg i hi (by omega)
      refine ⟨neg', q', m', c2, e2', by rw [Nat.zero_add]; exact g1, by rw [Nat.zero_add]; exact g2, by rw [Nat.zero_add]; exact g3, ?_⟩
      rw [List.getElem_map]; exact g4
    refine K119n (ht.ext F1) NL (by rw [List.length_map]; exact hn) (by omega) (by decide) (fun v hv2 => ?_) fun neg q m c' e' h2 f2' fr rm le N => ⟨_, _, _, _, _, _, rfl, ?_⟩
    · obtain ⟨x, hx, rfl⟩ := List.mem_map.1 hv2
      exact Nat.le_trans (fV_bl (hfin x hx)) (by decide)
    have O2' : Own h2 r2 #[.bool false, .slice none 0 0, .int .i64 0] := ((O2.ext f21).fr F (by omega)).ext f2'
    have sF := F1.size
    have l2 : r2 < h1.size := ((O2.ext f21).fr F (show ¬ r2 = r21 by omega)).lt
    refine ⟨r2, 0, rfl, O2'.stC (by simp) rfl fun oa fa => oa.stC (by simp) rfl fun ob fb => ob.stC (by simp) rfl fun oc fc => ⟨r2, 0, rfl, _, oc.cell _, _, _, _, oc.cell _, _, oc.cell _, ?_⟩⟩
    have fabc := Fr.trans (S := fun x => x = r2) (Fr.trans (S := fun x => x = r2) fa fb fun _ _ e => e) fc fun _ _ e => e
    exact H1 hv neg q m c' e' _ (Fr.trans (Ext.trans F1 f2') fabc fun x hx e => by omega) (fr.mono sF) ((rm.fr fabc fun b k1 k2 => by omega).mono fun b k => by omega) le (N.fr fabc fun b o e k => by have := fr b o e; omega)
end Go.Proofs
set_option linter.unusedVariables false
namespace Go.Proofs
open Go Go.Eng
variable {B : World} {R : Ending → Heap → Prop} {h : Heap}
theorem yes {b : Bool} {X Y : Prop} (hb : b = true) (x : X) : (b = true → X) ∧ (b = false → Y) := ⟨fun _ => x, fun e => by rw [hb] at e; cases e⟩
theorem nope {b : Bool} {X Y : Prop} (hb : b = false) (y : Y) : (b = true → X) ∧ (b = false → Y) := ⟨fun e => (by rw [hb] at e; cases e), fun _ => y⟩
end Go.Proofs
set_option linter.unusedVariables false
namespace Go.Proofs
open Go Go.Eng
variable {B : World} {R : Ending → Heap → Prop} {h : Heap}
end Go.Proofs
