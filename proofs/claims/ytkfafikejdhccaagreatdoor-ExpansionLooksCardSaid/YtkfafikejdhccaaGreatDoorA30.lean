import Derived.Test.YtkfafikejdhccaaGreatDoorA29
import Derived.Test.YtkfafikejdhccaaGreatDoorA28
import Derived.Test.YtkfafikejdhccaaGreatDoorA27
/- Here stand lemmas: expansions: contracts, second part. -/
set_option linter.unusedVariables false
namespace Go.Eng
open Go
theorem apJT {h0 h : Heap} {T : Nat → Prop} {p : Option Addr} {n c r e : Nat} {x : Int} {ws : List Int} {K : Option Addr → Nat → Nat → Heap → Prop} (L : Lj h0 h p n c ws) (F : Fr T h0 h) (hn : n ≤ 1099511627776) (hx : Own h r #[.int .i64 x]) (hI : I64 x)
    (hk : ∀ q c' h', Lj h0 h' q (n + 1) c' (ws ++ [x]) → Fr T h0 h' → Fr (fun x => h0.size ≤ x) h h' → K q (n + 1) c' h') : apW h p n c (some ⟨r, 0, none⟩) 1 1 8 e #[.int .i64 0] K := by
  have hs := F.size
  refine apJ L.sl L.room L.len L.le hx (by decide) (fun hlt => ?_) (by omega) rfl (fun _ => L.pt) fun q c' h' s r le f => ?_
  · have := nsc_le hlt
    omega
  · have r' : Room h' q c' (fun b => h0.size ≤ b) := r.mono fun b hb => by rcases hb with e | e; exact e; omega
    rcases r' with e | ⟨b, o, cs, e, e2, e3, e4⟩
    · omega
    · refine hk q c' h' ⟨s, by simp [L.len], .inr ⟨b, o, cs, e, e2, e3, e4⟩, le, .inr ⟨b, o, e⟩, fun b' o' e' => ?_, fun y hy => ?_⟩ (Fr.trans F f fun x hx e => by omega) f
      · rw [e] at e'; cases e'; exact e4
      · rcases List.mem_append.1 hy with hy | hy
        · exact L.all y hy
        · rw [List.mem_singleton.1 hy]; exact hI
end Go.Eng
namespace Go.Proofs
open Go Go.Eng
variable {B : World} {R : Ending → Heap → Prop} {h : Heap}
theorem _root_.Go.Eng.Lj.frS {h0 h h' : Heap} {p : Option Addr} {n c : Nat} {S : Nat → Prop} {ws : List Int} (L : Lj h0 h p n c ws) (f : Fr S h h') (hs : ∀ x, h0.size ≤ x → ¬ S x) : Lj h0 h' p n c ws :=
  ⟨L.sl.fr f fun b o e _ => hs b (L.fresh b o e), L.len, L.room.fr f fun b k => hs b k, L.le, L.pt, L.fresh, L.all⟩
/-- (*row).add. -/
theorem K154 {hB : Heap} {T : Nat → Prop} {r n c : Nat} {bad : Bool} {p : Option Addr} {ws : List Int} {b : Int} (O : Own h r #[.slice p n c, .bool bad]) (hr : r < hB.size) (hT : T r) (L : Lj hB h p n c ws) (F : Fr T hB h) (hn : n ≤ 1099511627776) (hb : I64 b)
    (H : ∀ q m c' h', Own h' r #[.slice q m c', .bool bad] → Lj hB h' q m c' (addL ws b) → Fr T hB h' → Fr (fun x => x = r ∨ hB.size ≤ x) h h' → R (.returned (.tuple #[])) h') : Ent Tryz.prog B 154 #[.pointer (some ⟨r, 0, none⟩), .int .i64 b] R h := by
  refine F154_ok _ _ (K84 hb ⟨_, rfl, ?_⟩)
  unfold addL at H
  refine ⟨fun e => ?_, fun e => ?_⟩
  · have h0 : ¬ cls b = 0 := by intro h0; rw [h0] at e; cases e
    rw [if_neg h0] at H
    refine ⟨r, 0, rfl, r, _, rfl, r, _, rfl, _, _, _, O.cell _, alK fun r15 h16 e16 f16 o16 z16 => ?_⟩
    have hs := F.size
    refine apJT (L.ext f16) (Fr.trans F f16 fun x hx e => e.elim) hn o16 hb fun q c' h' L' F' f' => ?_
    have O' : Own h' r #[.slice p n c, .bool bad] := (O.ext f16).fr f' (by omega)
    refine ⟨r, 0, rfl, r, _, rfl, r, _, rfl, O'.stC (by simp) rfl fun a g => ?_⟩
    have A : Own _ r #[.slice q (n + 1) c', .bool bad] := a
    refine H q (n + 1) c' _ A (L'.frS g fun x hx e => by omega) (Fr.trans F' g fun x _ e => by rw [e]; exact hT) ?_
    exact Fr.trans (Fr.trans (S := fun x => x = r ∨ hB.size ≤ x) f16.to f' fun x _ e => .inr e) g fun x _ e => .inl e
  · have h0 : cls b = 0 := by
      by_cases h0 : cls b = 0
      · exact h0
      · rw [decide_eq_false h0] at e; cases e
    rw [if_pos h0] at H
    exact H p n c h O L F Fr.rfl'
/-- (*row).answer. -/
theorem K147 {r n c : Nat} {bad : Bool} {p : Option Addr} (O : Own h r #[.slice p n c, .bool bad]) (H1 : bad = true → R (.returned (.tuple #[.slice none 0 0, .int .i64 (14 : Int)])) h)
    (H2 : bad = false → 4096 < n → R (.returned (.tuple #[.slice none 0 0, .int .i64 (2 : Int)])) h) (H3 : bad = false → n ≤ 4096 → R (.returned (.tuple #[.slice p n c, .int .i64 (0 : Int)])) h) : Ent Tryz.prog B 147 #[.pointer (some ⟨r, 0, none⟩)] R h := by
  refine F147_ok _ ⟨r, 0, rfl, r, _, rfl, r, _, rfl, _, O.cell _, fun e => H1 e, fun e0 => ⟨r, 0, rfl, r, _, rfl, r, _, rfl, _, _, _, O.cell _, fun e => H2 e0 (by have := of_decide_eq_true e; omega), fun e => ⟨r, 0, rfl, r, _, rfl, r, _, rfl, _, _, _, O.cell _, H3 e0 (by have := of_decide_eq_false e; omega)⟩⟩⟩
end Go.Proofs
namespace Go.Proofs
open Go Go.Eng
variable {B : World} {R : Ending → Heap → Prop} {h : Heap}
theorem _root_.Go.Eng.IntsH.lt {p : Option Addr} {xs : List Int} (I : IntsH h p xs) (hx : xs ≠ []) : ∀ a o, p = some ⟨a, o, none⟩ → a < h.size := by
  rcases I.2 with e | ⟨r, q, e, hr, g⟩
  · exact absurd e hx
  · intro a o e2; rw [e] at e2; cases e2; exact hr
end Go.Proofs
namespace Go.Proofs
open Go Go.Eng
variable {B : World} {R : Ending → Heap → Prop} {h : Heap}
/-- What scale makes behind its first product; none: a step was not exact. -/
def scaleP (out : List Int) (q b : Int) : List Int → Option (List Int)
  | [] => some (addL out q)
  | x :: r => if prdOk x b then
      if sumOk (sumH q (prdL x b)) (sumL q (prdL x b)) q (prdL x b) then
        if sumOk (sumH (prdH x b) (sumH q (prdL x b))) (fstL (prdH x b) (sumH q (prdL x b))) (prdH x b) (sumH q (prdL x b)) then
          scaleP (addL (addL out (sumL q (prdL x b))) (fstL (prdH x b) (sumH q (prdL x b)))) (sumH (prdH x b) (sumH q (prdL x b))) b r
        else none
      else none
    else none
def scaleTop (xs : List Int) (b : Int) : Option (List Int) :=
  match xs with
  | [] => some []
  | x :: r => if cls b = 0 then some [] else if prdOk x b then scaleP (addL [] (prdL x b)) (prdH x b) b r else none
theorem IntsH.tail {p : Option Addr} {x : Int} {r : List Int} {n c : Nat} (I : IntsH h p (x :: r)) (hn : (x :: r).length = n) (hc : n ≤ c) : IntsH h (slP p 1 c 1) r := by
  refine ⟨fun y hy => I.1 y (List.mem_cons_of_mem _ hy), ?_⟩
  by_cases h0 : r = []
  · exact .inl h0
  rcases I.2 with e | ⟨a, q, e, ha, g⟩
  · cases e
  · subst e
    have hl : 0 < r.length := List.length_pos_iff.2 h0
    rw [List.length_cons] at hn
    refine .inr ⟨a, q + 1, ?_, ha, fun i hi => ?_⟩
    · unfold slP
      rw [if_neg (by omega)]
      rfl
    · have := g (i + 1) (by rw [List.length_cons]; omega)
      rw [show q + 1 + i = q + (i + 1) by omega, this]; rfl
theorem prdH_I64 (a b : Int) : I64 (prdH a b) := mulP_I64 _ _
theorem prdL_I64 (a b : Int) : I64 (prdL a b) := subP_I64 _ _
/-- expansion.scale. -/
theorem K91 {p : Option Addr} {n c : Nat} {b : Int} {xs : List Int} (ht : TabH h) (I : IntsH h p xs) (hn : xs.length = n) (hc : n ≤ c) (hlim : n ≤ 1000000) (hb : I64 b)
    (H1 : ∀ l, scaleTop xs b = some l → ∀ q m c' h', Ext h h' → Lj h h' q m c' l → R (.returned (.slice q m c')) h') (H2 : scaleTop xs b = none → ∀ h', Ext h h' → R (.panicked INEX) h') :
    Ent Tryz.prog B 91 #[.slice p n c, .int .i64 b] R h := by
  refine F91_ok _ _ _ _ ⟨fun e => ⟨fun _ => ?_, fun e => (by cases e)⟩, fun e => K17 ⟨_, rfl, ?_⟩⟩
  · have h0 : xs = [] := List.eq_nil_of_length_eq_zero (by have := of_decide_eq_true e; omega)
    subst h0
    exact H1 [] rfl none 0 0 h Fr.rfl' Lj.nil
  have hn0 : n ≠ 0 := by have := of_decide_eq_false e; omega
  match xs, hn with
  | [], hn => exact absurd hn.symm hn0
  | x :: r, hn =>
  by_cases hz : cls b = 0
  · rw [decide_eq_true hz]
    exact ⟨fun _ => H1 [] (by show (if cls b = 0 then _ else _) = _; rw [if_pos hz]) none 0 0 h Fr.rfl' Lj.nil, fun e => (by cases e)⟩
  rw [decide_eq_false hz]
  have hT : scaleTop (x :: r) b = if prdOk x b then scaleP (addL [] (prdL x b)) (prdH x b) b r else none := by
    show (if cls b = 0 then _ else _) = _; rw [if_neg hz]
  rw [hT] at H1 H2
  have w2 : IntKind.i64.wrap ((2 : Int) * ((n : Nat) : Int)) = ((2 * n : Nat) : Int) := by rw [i64_in (by omega) (by omega)]; omega
  refine ⟨fun e => (by cases e), fun _ => ?_⟩
  rw [w2, Int.toNat_natCast, Nat.mul_one]
  refine ⟨by decide, by omega, by omega, by omega, alK fun r8 h9 e9 f9 o9 z9 => ?_⟩
  have I9 := I.ext f9
  have hx : I64 x := I.1 x (List.mem_cons_self ..)
  refine I9.get (j := 0) hn (by rw [List.length_cons]; omega) (K19 (ht.ext f9) hx hb fun h2 f2 => ⟨_, _, _, rfl, K107 (fun ok => ⟨_, _, rfl, ?_⟩) fun ok => ?_⟩)
  rotate_left
  · have ok' : prdOk x b = false := ok
    exact H2 (by rw [ok']; rfl) h2 (Ext.trans f9 f2)
  have ok' : prdOk x b = true := ok
  rw [ok', if_pos rfl] at H1 H2
  have L0 : Lj h h9 (some ⟨r8, 0, none⟩) 0 (2 * n) [] := mk_room o9 (by omega)
  refine K108 (L0.ext f2) (Ext.trans f9 f2) (by decide) (prdL_I64 _ _) fun q m c' h3 L F3 => ⟨_, _, _, rfl, ?_⟩
  rw [List.length_cons] at hn
  refine ⟨by omega, by omega, ?_⟩
  have L : Lj h h3 q m c' (addL [] (prdL x b)) := L
  have hm := L.len
  have hm1 := addL_len [] (prdL x b)
  rw [List.length_nil] at hm1
  have IT : IntsH h3 (slP p 1 c 1) r := (IntsH.tail I (by rw [List.length_cons]; exact hn) hc).ext F3
  refine ⟨fun k vs h' => match vs with
    | [.int _ b', .slice q m c', .int _ z, .slice p1 n1 c1, .int _ y, .int _ i] => b = b' ∧ p1 = slP p 1 c 1 ∧ n1 = n - 1 ∧ y = ((n - 1 : Nat) : Int) ∧ ∃ j : Nat, i = (j : Int) ∧ j ≤ n - 1 ∧ k = n - 1 - j ∧ Ext h h' ∧ I64 z ∧ ∃ out, Lj h h' q m c' out ∧ m ≤ 1 + 2 * j ∧ scaleP out z b (r.drop j) = scaleP (addL [] (prdL x b)) (prdH x b) b r
    | _ => False, n - 1, ⟨rfl, rfl, rfl, rfl, 0, rfl, by omega, by omega, F3, prdH_I64 _ _, _, L, by omega, rfl⟩, ?_⟩
  rintro k h1 _ q m c' z _ _ _ _ _ ⟨rfl, rfl, rfl, rfl, j, rfl, hj, rfl, F, hz, out, L, hm1, hg⟩ _
  have hrl : r.length = n - 1 := by omega
  have IT1 : IntsH h1 (slP p 1 c 1) r := (IntsH.tail I (by rw [List.length_cons]; exact hn) hc).ext F
  refine ⟨fun e => ?_, fun e => ?_⟩
  · have hjn : j < r.length := by have := of_decide_eq_true e; omega
    have hd : r.drop j = r[j] :: r.drop (j + 1) := List.drop_eq_getElem_cons hjn
    rw [hd] at hg
    have hI : I64 r[j] := IT1.1 _ (List.getElem_mem hjn)
    have hS : scaleP out z b (r[j] :: r.drop (j + 1)) = (if prdOk r[j] b then
      if sumOk (sumH z (prdL r[j] b)) (sumL z (prdL r[j] b)) z (prdL r[j] b) then
        if sumOk (sumH (prdH r[j] b) (sumH z (prdL r[j] b))) (fstL (prdH r[j] b) (sumH z (prdL r[j] b))) (prdH r[j] b) (sumH z (prdL r[j] b)) then
          scaleP (addL (addL out (sumL z (prdL r[j] b))) (fstL (prdH r[j] b) (sumH z (prdL r[j] b)))) (sumH (prdH r[j] b) (sumH z (prdL r[j] b))) b (r.drop (j + 1))
        else none
      else none
    else none) := rfl
    rw [hS] at hg
    refine IT1.get hrl hjn (K19 (ht.ext F) hI hb fun h2 f2 => ⟨_, _, _, rfl, K107 (fun ok1 => ⟨_, _, rfl, ?_⟩) fun ok1 => ?_⟩)
    rotate_left
    · exact H2 (by rw [← hg, ok1]; rfl) h2 (Ext.trans F f2)
    rw [ok1, if_pos rfl] at hg
    have G2 := Ext.trans F f2
    refine K18 (ht.ext G2) hz (prdL_I64 _ _) fun h3 f3 => ⟨_, _, _, rfl, K107 (fun ok2 => ⟨_, _, rfl, ?_⟩) fun ok2 => ?_⟩
    rotate_left
    · exact H2 (by rw [← hg, ok2]; rfl) h3 (Ext.trans G2 f3)
    rw [ok2, if_pos rfl] at hg
    have G3 := Ext.trans G2 f3
    refine K108 ((L.ext f2).ext f3) G3 (by omega) (addP_I64 _ _) fun q1 m1 c1 h4 L1 F4 => ⟨_, _, _, rfl, ?_⟩
    have l1 := L1.len
    have l2 := addL_len out (sumL z (prdL r[j] b))
    have l3 := L.len
    refine K20 (ht.ext F4) (prdH_I64 _ _) (addP_I64 _ _) fun h5 f5 => ⟨_, _, _, rfl, K107 (fun ok3 => ⟨_, _, rfl, ?_⟩) fun ok3 => ?_⟩
    rotate_left
    · exact H2 (by rw [← hg, ok3]; rfl) h5 (Ext.trans F4 f5)
    rw [ok3, if_pos rfl] at hg
    refine K108 (L1.ext f5) (Ext.trans F4 f5) (by omega) (subP_I64 _ _) fun q2 m2 c2 h6 L2 F6 => ⟨_, _, _, rfl, n - 1 - (j + 1), by omega, rfl, rfl, rfl, rfl, j + 1, ?_, by omega, rfl, F6, addP_I64 _ _, _, L2, ?_, hg⟩
    · rw [i64_in (by omega) (by omega)]; rfl
    · have := L2.len
      have := addL_len (addL out (sumL z (prdL r[j] b))) (fstL (prdH r[j] b) (sumH z (prdL r[j] b)))
      omega
  · have hjn : j = n - 1 := by have := of_decide_eq_false e; omega
    rw [List.drop_of_length_le (by omega)] at hg
    exact K108 L F (by omega) hz fun q' m' c'' h' L' F' => ⟨_, _, _, rfl, H1 _ (by rw [← hg]; rfl) q' m' c'' h' F' L'⟩
end Go.Proofs
namespace Go.Proofs
open Go Go.Eng
variable {B : World} {R : Ending → Heap → Prop} {h : Heap}
/-- What is told of what was made. -/
def ansOf : Option (List Int) → List Int × Int
  | some l => if l.length ≤ 4096 then (l, 0) else ([], 2)
  | none => ([], 14)
def scaleRef (xs : List Int) (b : Int) : List Int × Int := ansOf (scaleTop xs b)
/-- What Scale answers. -/
def scaleAns (xs : List Int) (b : Int) : List Int × Int := if validP xs then if isFin b then scaleRef xs b else ([], 10) else ([], 1)
/-- expansion.Scale. -/
theorem K35 {p : Option Addr} {n c : Nat} {b : Int} {xs : List Int} (ht : TabH h) (I : IntsH h p xs) (hn : xs.length = n) (hc : n ≤ c) (hb : I64 b)
    (H : ∀ q m c' h', Ext h h' → Lj h h' q m c' (scaleAns xs b).1 → R (.returned (.tuple #[.slice q m c', .int .i64 (scaleAns xs b).2])) h') : Ent Tryz.prog B 35 #[.slice p n c, .int .i64 b] R h := by
  refine F35_ok _ _ _ _ (alK fun r3 h4 e4 f4 o4 z4 => alK fun r5 h6 e6 f6 o6 z6 => alK fun r7 h8 e8 f8 o8 z8 => ?_)
  have F8 := Ext.trans f4 (Ext.trans f6 f8)
  have O3 := (o4.ext f6).ext f8
  have O5 := o6.ext f8
  have hne : r5 ≠ r3 := by omega
  refine K87 (ss := [(p, n, c, xs)]) o8 rfl (by decide) (fun s hs => ?_) ⟨_, rfl, ?_⟩
  · rw [List.mem_singleton.1 hs]; exact ⟨I.ext F8, hn⟩
  have hall : (([(p, n, c, xs)] : List (Option Addr × Nat × Nat × List Int)).all fun s => validP s.2.2.2) = validP xs := by simp
  rw [hall]
  unfold scaleAns scaleRef at H
  cases hv : validP xs
  · rw [hv] at H
    exact ⟨fun _ => expEnd O3 O5 hne fun h' f => H none 0 0 h' (Fr.trans F8 f fun x hx e => by omega) Lj.nil, fun e => absurd e (by decide)⟩
  rw [hv] at H
  refine ⟨fun e => absurd e (by decide), fun _ => K88 ⟨_, rfl, ?_⟩⟩
  cases hf : isFin b
  · rw [hf] at H
    exact ⟨fun _ => expEnd O3 O5 hne fun h' f => H none 0 0 h' (Fr.trans F8 f fun x hx e => by omega) Lj.nil, fun e => (by cases e)⟩
  rw [hf] at H
  refine ⟨fun e => (by cases e), fun _ => K91 (ht.ext F8) (I.ext F8) hn hc (by have := validP_len hv; omega) hb (fun l hl q m c' h' F' L => ⟨_, _, _, rfl, ?_⟩) fun hl h' F' => ?_⟩
  · rw [hl] at H
    have hm := L.len
    unfold ansOf at H
    refine K89 (fun hle => ⟨_, _, _, _, rfl, expEnd (O3.ext F') (O5.ext F') hne fun h2 f2 => ?_⟩) fun hgt => ⟨_, _, _, _, rfl, expEnd (O3.ext F') (O5.ext F') hne fun h2 f2 => ?_⟩
    · have hif : (if l.length ≤ 4096 then (l, (0 : Int)) else ([], 2)) = (l, 0) := if_pos (by omega)
      simp only [if_true, hif] at H
      exact H q m c' h2 (Fr.trans (Ext.trans F8 F') f2 fun x hx e => by omega) ((L.fr2 f2 (by omega) (by omega)).base F8.size)
    · have hif : (if l.length ≤ 4096 then (l, (0 : Int)) else ([], 2)) = ([], 2) := if_neg (by omega)
      simp only [if_true, hif] at H
      exact H none 0 0 h2 (Fr.trans (Ext.trans F8 F') f2 fun x hx e => by omega) Lj.nil
  · rw [hl] at H
    exact expDie (O3.ext F') (O5.ext F') hne fun h2 f2 => H none 0 0 h2 (Fr.trans (Ext.trans F8 F') f2 fun x hx e => by omega) Lj.nil
end Go.Proofs
namespace Go.Proofs
open Go Go.Eng
variable {B : World} {R : Ending → Heap → Prop} {h : Heap}
theorem ints_fr {hA hB : Heap} {S : Nat → Prop} {p : Option Addr} {xs : List Int} (I : IntsH hA p xs) (f : Fr S hA hB) (hp : ∀ a o, p = some ⟨a, o, none⟩ → ¬ S a) : IntsH hB p xs := by
  refine ⟨I.1, ?_⟩
  rcases I.2 with e | ⟨a, o, e, ha, g⟩
  · exact .inl e
  · refine .inr ⟨a, o, e, Nat.lt_of_lt_of_le ha f.size, fun i hi => ?_⟩
    rw [← g i hi]
    unfold cell?
    rw [f.same a ha (hp a o e)]
end Go.Proofs
namespace Go.Proofs
open Go Go.Eng
variable {B : World} {R : Ending → Heap → Prop} {h : Heap}
end Go.Proofs
namespace Go.Proofs
open Go Go.Eng
variable {B : World} {R : Ending → Heap → Prop} {h : Heap}
/-- What the reference answers of a list and whether a step was not exact. -/
theorem answer_end {r m c : Nat} {q : Option Addr} {hB : Heap} {o : Option (List Int)} {res : List Int × Bool} (hl : match o with
    | some l => res = (l, false)
    | none => res.2 = true) (A : Own h r #[.slice q m c, .bool res.2]) (L : Lj hB h q m c res.1)
    (H : ∀ q m c', Lj hB h q m c' (ansOf o).1 → R (.returned (.tuple #[.slice q m c', .int .i64 (ansOf o).2])) h) : Ent Tryz.prog B 147 #[.pointer (some ⟨r, 0, none⟩)] R h := by
  have hm := L.len
  refine K147 A (fun e => ?_) (fun e hgt => ?_) (fun e hle => ?_)
  · cases o with
    | some l => rw [hl] at e; cases e
    | none => exact H none 0 0 Lj.nil
  · cases o with
    | none => rw [hl] at e; cases e
    | some l =>
      rw [hl] at hm
      have hif : ansOf (some l) = ([], 2) := if_neg (show ¬ l.length ≤ 4096 by have : l.length = m := hm; omega)
      rw [hif] at H
      exact H none 0 0 Lj.nil
  · cases o with
    | none => rw [hl] at e; cases e
    | some l =>
      rw [hl] at hm L
      have hif : ansOf (some l) = (l, 0) := if_pos (show l.length ≤ 4096 by have : l.length = m := hm; omega)
      rw [hif] at H
      exact H q m c L
end Go.Proofs
namespace Go.Proofs
open Go Go.Eng
variable {B : World} {R : Ending → Heap → Prop} {h : Heap}
/-- plumblaw2.Same. -/
theorem K76 {p q : Option Addr} {n m c d : Nat} {xs ys : List Int} (I : IntsH h p xs) (J : IntsH h q ys) (hn : xs.length = n) (hm : ys.length = m) (hlim : n ≤ 1000000000) (H : R (.returned (.bool (decide (xs = ys)))) h) : Ent Tryz.prog B 76 #[.slice p n c, .slice q m d] R h := by
  refine F76_ok _ _ _ _ _ _ ⟨fun e => ?_, fun e => ?_⟩
  · have hne : n ≠ m := by intro k; subst k; simp at e
    rw [decide_eq_false (show ¬ xs = ys by intro k; subst k; omega)] at H
    exact H
  have hnm : n = m := by
    by_cases k : n = m
    · exact k
    · rw [decide_eq_false (show ¬ ((n : Nat) : Int) = ((m : Nat) : Int) by omega)] at e; cases e
  subst hnm
  refine ⟨fun k vs h' => match vs with
    | [.slice p1 n1 c1, .slice q1 m1 d1, .int _ i] => p = p1 ∧ n = n1 ∧ c = c1 ∧ q = q1 ∧ n = m1 ∧ d = d1 ∧ h = h' ∧ ∃ j : Nat, i = (j : Int) ∧ j ≤ n ∧ k = n - j ∧ xs.take j = ys.take j
    | _ => False, n, ⟨rfl, rfl, rfl, rfl, rfl, rfl, rfl, 0, rfl, by omega, by omega, rfl⟩, ?_⟩
  rintro k h1 _ _ _ _ _ _ _ ⟨rfl, rfl, rfl, rfl, rfl, rfl, rfl, j, rfl, hj, rfl, ht⟩ _
  refine ⟨fun e => ?_, fun e => ?_⟩
  · have hjx : j < xs.length := by have := of_decide_eq_true e; omega
    have hjy : j < ys.length := by omega
    refine I.get hn hjx (J.get hm hjy ?_)
    by_cases hxy : xs[j] = ys[j]
    · rw [decide_eq_true hxy]
      refine ⟨fun e => (by cases e), fun _ => ⟨n - (j + 1), by omega, rfl, rfl, rfl, rfl, rfl, rfl, rfl, j + 1, ?_, by omega, rfl, ?_⟩⟩
      · rw [i64_in (by omega) (by omega)]; rfl
      · rw [List.take_succ_eq_append_getElem hjx, List.take_succ_eq_append_getElem hjy, ht, hxy]
    · rw [decide_eq_false hxy]
      rw [decide_eq_false (show ¬ xs = ys by intro k; subst k; exact hxy rfl)] at H
      exact ⟨fun _ => H, fun e => (by cases e)⟩
  · have hjn : j = n := by have := of_decide_eq_false e; omega
    rw [List.take_of_length_le (by omega), List.take_of_length_le (by omega)] at ht
    rw [decide_eq_true ht] at H
    exact H
end Go.Proofs
namespace Go.Proofs
open Go Go.Eng
variable {B : World} {R : Ending → Heap → Prop} {h : Heap}
/-- plumbref7.ends, of a finite float that is no nought. -/
theorem K145 {b : Int} (hb : I64 b) (hf : isFin b = true) (hv : fV b ≠ 0)
    (H : ∀ (M : Nat) (e : Int) (h' : Heap), Ext h h' → M % 2 = 1 → 0 ≤ e + 1074 → (fV b).natAbs = M * 2 ^ (e + 1074).toNat → R (.returned (.tuple #[.int .i64 e, .int .i64 (e + (bl M : Int))])) h') : Ent Tryz.prog B 145 #[.int .i64 b] R h := by
  refine F145_ok _ (K114 hb hf fun neg p n c e h3 f3 _ N => ⟨_, _, _, _, _, rfl, alK fun r9 h10 e10 f10 o10 z10 => ⟨r9, 0, rfl, ?_⟩⟩)
  refine o10.stL (by simp) rfl fun _ a1 g1 => a1.stL (by simp) rfl fun _ a2 g2 => a2.stL (by simp) rfl fun h15 a3 g3 => ?_
  have k15 := Fr.trans (S := fun x => x = r9) (Fr.trans (S := fun x => x = r9) g1 g2 fun _ _ e => e) g3 fun _ _ e => e
  have A : Own h15 r9 #[.bool neg, .slice p n c, .int .i64 e] := a3
  have F15 : Ext h3 h15 := Fr.trans f10 k15 fun x hx e => by omega
  have FA := Ext.trans f3 F15
  obtain ⟨M, NI, he, hval⟩ := N.ext F15
  have hB : B30 = 1073741824 := rfl
  have h0 : M ≠ 0 := by
    intro k; subst k
    apply hv; rw [hval, signed_nat, Nat.zero_mul]; cases neg <;> rfl
  have hl := NI.d.len
  have hpos : 0 < n := by rw [← hl, digs_ne (by decide) h0]; simp
  obtain ⟨hodd, hE1, hE2⟩ := NI.pos hpos
  have hle := NI.le
  have hM : val B30 (digs B30 M) = M := digs_val (by decide) M
  have D := NI.d
  generalize digs B30 M = ds at *
  have dt := D.dig.get (i := n - 1) (by omega)
  have ht : ds[n - 1]'(by omega) ≠ 0 := by
    intro e0
    apply D.trim
    rw [List.getLast?_eq_getElem?, hl, List.getElem?_eq_getElem (by omega), e0]
  have hvl : bl (val B30 ds) = 30 * (n - 1) + bl (ds[n - 1]'(by omega)) := by
    rw [val_low B30 ds (n := n - 1) (by omega) (by omega), show B30 ^ (n - 1) = 2 ^ (30 * (n - 1)) from by rw [Nat.pow_mul]]
    refine bl_top ?_ ht
    have := val_lt (D.dig.take (n - 1))
    rw [List.length_take, Nat.min_eq_left (by omega)] at this
    rw [Nat.pow_mul]; exact this
  have htop : ∃ top, top = ds[n - 1]'(by omega) := ⟨_, rfl⟩
  obtain ⟨top, htop⟩ := htop
  rw [← htop] at hvl dt
  have hbt : bl top ≤ 30 := bl_le_iff.2 dt
  have Hend := H M e h15 FA (by rw [← hM]; exact hodd) he (by rw [hval, signed_abs]; rfl)
  rw [show bl M = 30 * (n - 1) + bl top by rw [← hM]; exact hvl] at Hend
  refine ⟨r9, 0, rfl, r9, _, rfl, _, _, _, A.cell _, ?_⟩
  rw [i64_in (x := ((n : Nat) : Int) - 1) (by omega) (by omega)]
  refine ⟨fun k vs h' => match vs with
    | [.pointer a, .int _ acc, .int _ i] => a = some (⟨r9, 0, none⟩ : Addr) ∧ h15 = h' ∧ ∃ j : Nat, i = (j : Int) - 1 ∧ j ≤ n ∧ j = k ∧ acc = if j = n then 0 else (bl top : Int)
    | _ => False, n, ⟨rfl, rfl, n, by omega, by omega, rfl, by rw [if_pos rfl]⟩, ?_⟩
  rintro k h1 _ acc _ ⟨rfl, rfl, j, rfl, hj, rfl, rfl⟩ _
  refine ⟨fun e0 => ?_, fun e0 => ?_⟩
  · have hj0 : 0 < j := by have := of_decide_eq_true e0; omega
    refine ⟨r9, 0, rfl, r9, _, rfl, _, _, _, A.cell _, ?_⟩
    refine D.sl.get (j - 1) (by omega) (by omega) (by omega) ?_
    have dj := D.dig.get (i := j - 1) (by omega)
    have hdt : j = n → ds[j - 1]'(by omega) = top := by intro k; subst k; exact htop.symm
    generalize ds[j - 1]'(by omega) = dg at *
    refine ⟨fun m vs h' => match vs with
      | [.pointer a, .int _ acc, .int _ i, .int _ v] => a = some (⟨r9, 0, none⟩ : Addr) ∧ h15 = h' ∧ i = (j : Int) - 1 ∧ v = (m : Int) ∧ m < 1073741824 ∧ acc = if j = n then (bl top : Int) - (bl m : Int) else (bl top : Int)
      | _ => False, dg, ⟨rfl, rfl, rfl, rfl, dj, ?_⟩, ?_⟩
    · by_cases k : j = n
      · rw [if_pos k, if_pos k, hdt k]; omega
      · rw [if_neg k, if_neg k]
    rintro m h2 _ acc2 _ _ ⟨rfl, rfl, rfl, rfl, hm, rfl⟩ _
    have hw : IntKind.i64.wrap (((n : Nat) : Int) - 1) = (n : Int) - 1 := i64_in (by omega) (by omega)
    refine ⟨fun e1 => ?_, fun e1 => ⟨fun e2 => (by cases e2), fun _ => ⟨j - 1, by omega, rfl, rfl, j - 1, ?_, by omega, rfl, ?_⟩⟩⟩
    · have hm0 : m ≠ 0 := by have := of_decide_eq_true e1; omega
      refine ⟨r9, 0, rfl, r9, _, rfl, _, _, _, A.cell _, ?_⟩
      rw [hw]
      by_cases k : j = n
      · rw [decide_eq_true (show ((j : Int) - 1 = (n : Int) - 1) by omega)]
        have hh := bl_half hm0
        have hbm : bl m ≤ 30 := bl_le_iff.2 hm
        refine ⟨fun _ => ⟨by decide, m / 2, by omega, rfl, rfl, rfl, by rw [td2, i64_nat (by omega)], by omega, ?_⟩, fun e2 => (by cases e2)⟩
        rw [if_pos k, if_pos k, i64_in (by omega) (by omega)]; omega
      · rw [decide_eq_false (show ¬ ((j : Int) - 1 = (n : Int) - 1) by omega)]
        refine ⟨fun e2 => (by cases e2), fun _ => ⟨j - 1, by omega, rfl, rfl, j - 1, ?_, by omega, rfl, ?_⟩⟩
        · rw [i64_in (by omega) (by omega)]; omega
        · rw [if_neg k, if_neg (by omega)]
    · rw [i64_in (by omega) (by omega)]; omega
    · have hm0 : m = 0 := by have := of_decide_eq_false e1; omega
      subst hm0
      rw [if_neg (show ¬ j - 1 = n by omega)]
      by_cases k : j = n
      · rw [if_pos k]; have : bl 0 = 0 := rfl
        omega
      · rw [if_neg k]
  · have hj0 : j = 0 := by have := of_decide_eq_false e0; omega
    subst hj0
    rw [if_neg (show ¬ 0 = n by omega)]
    refine ⟨r9, 0, rfl, r9, _, rfl, _, A.cell _, r9, 0, rfl, r9, _, rfl, _, A.cell _, r9, 0, rfl, r9, _, rfl, _, _, _, A.cell _, ?_⟩
    have e1 : IntKind.i64.wrap ((IntKind.i64.wrap (e + (IntKind.i64.wrap ((30 : Int) * (IntKind.i64.wrap (((n : Nat) : Int) - (1 : Int))))))) + (bl top : Int)) = e + ((30 * (n - 1) + bl top : Nat) : Int) := by
      rw [i64_in (x := ((n : Nat) : Int) - 1) (by omega) (by omega), i64_in (x := (30 : Int) * (((n : Nat) : Int) - 1)) (by omega) (by omega), i64_in (x := e + (30 : Int) * (((n : Nat) : Int) - 1)) (by omega) (by omega), i64_in (by omega) (by omega)]
      omega
    unfold F145_j75
    rw [e1]
    exact Hend
end Go.Proofs
namespace Go.Proofs
open Go Go.Eng
variable {B : World} {R : Ending → Heap → Prop} {h : Heap}
theorem odd_same {M N a b : Nat} (hM : M % 2 = 1) (hN : N % 2 = 1) (h : M * 2 ^ a = N * 2 ^ b) : a = b := by
  have h1 := odd_short hM h
  have h2 := odd_short hN h.symm
  have : M = N := by omega
  subst this
  have := Nat.eq_of_mul_eq_mul_left (by omega) h
  exact (Nat.pow_right_inj (by decide : 1 < 2)).1 this
theorem lowN_odd {b : Int} (h0 : fM b ≠ 0) : ∃ N, N % 2 = 1 ∧ (fV b).natAbs = N * lowN b := by
  obtain ⟨m, h1, h2⟩ := Lib.ctzFrom_spec 64 (fM b) (by omega) (by
    have := fM_lt b
    have e64 : (2 : Nat) ^ 64 = 18446744073709551616 := by decide
    rw [e64]; omega)
  have e : Lib.ctz 64 (fM b) = Lib.ctzFrom 64 (fM b) := by simp [Lib.ctz, h0]
  refine ⟨2 * m + 1, by omega, ?_⟩
  unfold fV lowN
  rw [signed_abs, e, Nat.pow_add, ← Nat.mul_assoc, Nat.mul_comm (2 * m + 1), ← h1]
/-- The reference's test is the program's. -/
theorem ends_test {x y : Int} {M N : Nat} {e d : Int} (hy : fM y ≠ 0) (hM : M % 2 = 1) (hN : N % 2 = 1) (he : 0 ≤ e + 1074) (hd : 0 ≤ d + 1074) (h1 : (fV x).natAbs = M * 2 ^ (e + 1074).toNat) (h2 : (fV y).natAbs = N * 2 ^ (d + 1074).toNat) :
    decide (d < e + (bl M : Int)) = !decide ((fV x).natAbs < lowN y) := by
  obtain ⟨Q, q1, q2⟩ := lowN_odd hy
  have hlow : lowN y = 2 ^ (d + 1074).toNat := by
    have hk : lowN y = 2 ^ (Lib.ctz 64 (fM y) + (fX y + 1074).toNat) := rfl
    rw [hk] at q2 ⊢
    rw [odd_same q1 hN (q2.symm.trans h2)]
  rw [hlow, h1]
  obtain ⟨a, ha⟩ : ∃ a, (e + 1074).toNat = a := ⟨_, rfl⟩
  obtain ⟨c, hc⟩ : ∃ c, (d + 1074).toNat = c := ⟨_, rfl⟩
  rw [ha, hc]
  have key : M * 2 ^ a < 2 ^ c ↔ a + bl M ≤ c := by
    have hM0 : M ≠ 0 := by omega
    have : bl (M * 2 ^ a) = bl M + a := bl_scale a hM0
    rw [← bl_le_iff, this]
    omega
  by_cases hlt : M * 2 ^ a < 2 ^ c
  · rw [decide_eq_true hlt, decide_eq_false (by have := key.1 hlt; omega)]; rfl
  · rw [decide_eq_false hlt, decide_eq_true (by
      have : ¬ a + bl M ≤ c := fun k => hlt (key.2 k)
      omega)]; rfl
end Go.Proofs
namespace Go.Proofs
open Go Go.Eng
variable {B : World} {R : Ending → Heap → Prop} {h : Heap}
theorem fV_ne {b : Int} (h : fM b ≠ 0) : fV b ≠ 0 := fun k => h (fV_zero.1 k)
/-- What plumbref7.Valid's loop keeps. -/
def vaI (h : Heap) (p : Option Addr) (n c : Nat) (xs : List Int) : Nat → List Value → Heap → Prop := fun m vs h' => match vs with
  | [.slice p1 n1 c1, .int _ i] => p = p1 ∧ n = n1 ∧ c = c1 ∧ Ext h h' ∧ ∃ j : Nat, i = (j : Int) ∧ j ≤ n ∧ m = n - j ∧ ∃ v : Nat, vOk v (xs.drop j) = vOk 0 xs ∧ ((j = 0 ∧ v = 0) ∨ ∃ x, 0 < j ∧ xs[j - 1]? = some x ∧ isFin x = true ∧ fM x ≠ 0 ∧ v = (fV x).natAbs)
  | _ => False
/-- plumbref7.Valid. -/
theorem K78 {p : Option Addr} {n c : Nat} {xs : List Int} (I : IntsH h p xs) (hn : xs.length = n) (H : ∀ h', Ext h h' → R (.returned (.bool (validP xs))) h') : Ent Tryz.prog B 78 #[.slice p n c] R h := by
  unfold validP at H
  refine F78_ok _ _ _ ⟨fun e => ?_, fun e => ?_⟩
  · have hb := of_decide_eq_true e
    rw [decide_eq_false (show ¬ xs.length ≤ 4096 by omega)] at H
    exact H h Fr.rfl'
  have hb := of_decide_eq_false e
  rw [decide_eq_true (show xs.length ≤ 4096 by omega), Bool.true_and] at H
  refine ⟨vaI h p n c xs, n, ⟨rfl, rfl, rfl, Fr.rfl', 0, rfl, by omega, by omega, 0, rfl, .inl ⟨rfl, rfl⟩⟩, ?_⟩
  rintro m h1 _ _ _ _ ⟨rfl, rfl, rfl, F, j, rfl, hj, rfl, v, hv, hpre⟩ _
  have I1 := I.ext F
  refine ⟨fun e => ?_, fun e => ?_⟩
  · have hjn : j < xs.length := by have := of_decide_eq_true e; omega
    have hd : xs.drop j = xs[j] :: xs.drop (j + 1) := List.drop_eq_getElem_cons hjn
    rw [hd] at hv
    have hI : I64 xs[j] := I.1 _ (List.getElem_mem hjn)
    have hgj : xs[j]? = some xs[j] := List.getElem?_eq_getElem hjn
    generalize hy : xs[j] = y at *
    have no : ∀ h', Ext h h' → vOk v (y :: xs.drop (j + 1)) = false → R (.returned (.bool false)) h' := by
      intro h' f e0
      have := H h' f
      rw [← hv, e0] at this; exact this
    have hvk : (cls y = 1 ∨ cls y = 2) → vOk v (y :: xs.drop (j + 1)) = (decide (v < lowN y) && vOk (fV y).natAbs (xs.drop (j + 1))) := by
      intro hc
      have : (decide (cls y = 1) || decide (cls y = 2)) = true := by
        rcases hc with hc | hc <;> rw [hc] <;> rfl
      show ((decide (cls y = 1) || decide (cls y = 2)) && _) = _
      rw [this, Bool.true_and]
    have go : (cls y = 1 ∨ cls y = 2) → F78_j28 B R (vaI h p n c xs) (n - j) p n c (j : Int) false h1 := by
      intro hc
      obtain ⟨fy, my⟩ := cls_pos hc
      have hvy := hvk hc
      have next : ∀ h', Ext h h' → v < lowN y → F78_j55 B R (vaI h p n c xs) (n - j) p n c (j : Int) h' := by
        intro h' f hlt
        rw [decide_eq_true hlt, Bool.true_and] at hvy
        refine ⟨n - (j + 1), by omega, rfl, rfl, rfl, f, j + 1, ?_, by omega, rfl, (fV y).natAbs, ?_, .inr ⟨y, by omega, by rw [Nat.add_sub_cancel]; exact hgj, fy, my, rfl⟩⟩
        · rw [i64_in (by omega) (by omega)]; rfl
        · rw [← hvy]; exact hv
      refine ⟨fun e => (by cases e), fun _ => ⟨fun e1 => ?_, fun e1 => ?_⟩⟩
      · have hj0 : 0 < j := by have := of_decide_eq_true e1; omega
        rcases hpre with ⟨k, _⟩ | ⟨x, _, hx, fx, mx, rfl⟩
        · omega
        have hxl : xs[j - 1]'(by omega) = x := by
          rw [List.getElem?_eq_getElem (by omega)] at hx
          exact Option.some.inj hx
        have hIx : I64 x := by rw [← hxl]; exact I.1 _ (List.getElem_mem _)
        refine I1.get hn hjn ?_
        rw [hy]
        refine K145 hI fy (fV_ne my) fun N d h2 f2 hN hd2 q2 => ⟨_, _, rfl, ?_⟩
        have G2 := Ext.trans F f2
        have hw : IntKind.i64.wrap ((j : Int) - 1) = ((j - 1 : Nat) : Int) := by rw [i64_in (by omega) (by omega)]; omega
        rw [hw]
        refine (I.ext G2).get hn (j := j - 1) (by omega) ?_
        rw [hxl]
        refine K145 hIx fx (fV_ne mx) fun M e h3 f3 hM he q1 => ⟨_, _, rfl, ?_⟩
        have G3 := Ext.trans G2 f3
        rw [ends_test my hM hN he hd2 q1 q2]
        refine ⟨fun e2 => no h3 G3 ?_, fun e2 => next h3 G3 ?_⟩
        · rw [hvy]
          have : decide ((fV x).natAbs < lowN y) = false := by revert e2; cases decide ((fV x).natAbs < lowN y) <;> simp
          rw [this]; rfl
        · have : decide ((fV x).natAbs < lowN y) = true := by revert e2; cases decide ((fV x).natAbs < lowN y) <;> simp
          exact of_decide_eq_true this
      · have hj0 : j = 0 := by have := of_decide_eq_false e1; omega
        rcases hpre with ⟨_, rfl⟩ | ⟨x, k, _⟩
        · exact next h1 F (Nat.pow_pos (by decide))
        · omega
    refine I1.get hn hjn ?_
    rw [hy]
    refine K84 hI ⟨_, rfl, fun e1 => ?_, fun e1 => ?_⟩
    · have h1 : cls y ≠ 1 := by intro k; rw [k] at e1; cases e1
      refine I1.get hn hjn ?_
      rw [hy]
      refine K84 hI ⟨_, rfl, ?_⟩
      by_cases h2 : cls y = 2
      · rw [show (!decide (cls y = 2)) = false by rw [h2]; rfl]
        exact go (.inr h2)
      · rw [show (!decide (cls y = 2)) = true by rw [decide_eq_false h2]; rfl]
        refine ⟨fun _ => no _ F ?_, fun e => (by cases e)⟩
        show ((decide (cls y = 1) || decide (cls y = 2)) && _) = _
        rw [decide_eq_false h1, decide_eq_false h2]; rfl
    · have h1 : cls y = 1 := by
        by_cases k : cls y = 1
        · exact k
        · rw [decide_eq_false k] at e1; cases e1
      exact go (.inl h1)
  · have hjn : j = n := by have := of_decide_eq_false e; omega
    rw [List.drop_of_length_le (by omega)] at hv
    have := H h1 F
    rw [← hv] at this
    exact this
end Go.Proofs
namespace Go.Proofs
open Go Go.Eng
variable {B : World} {R : Ending → Heap → Prop} {h : Heap}
theorem al1 : growAns [4607182418800017408] 4336966441157787648 = ([4336966441157787648, 4607182418800017408], 0) := by decide +kernel
theorem al2 : scaleAns [4336966441157787648, 4607182418800017408] 4611686018427387904 = ([4341470040785158144, 4611686018427387904], 0) := by decide +kernel
theorem al3 : validP [4336966441157787648, 4607182418800017408] = true := by decide +kernel
theorem ints1 {r : Nat} {a : Int} (O : Own h r #[.int .i64 a]) (ha : I64 a) : IntsH h (some ⟨r, 0, none⟩) [a] := by
  refine ⟨fun x hx => by rw [List.mem_singleton.1 hx]; exact ha, .inr ⟨r, 0, rfl, O.lt, fun i hi => ?_⟩⟩
  rw [O.cell]
  match i, hi with
  | 0, _ => rfl
theorem ints2 {r : Nat} {a b : Int} (O : Own h r #[.int .i64 a, .int .i64 b]) (ha : I64 a) (hb : I64 b) : IntsH h (some ⟨r, 0, none⟩) [a, b] := by
  refine ⟨fun x hx => ?_, .inr ⟨r, 0, rfl, O.lt, fun i hi => ?_⟩⟩
  · rcases List.mem_cons.1 hx with e | hx
    · rw [e]; exact ha
    · rw [List.mem_singleton.1 hx]; exact hb
  · rw [O.cell]
    match i, hi with
    | 0, _ => rfl
    | 1, _ => rfl
/-- plumblaw7.alive. -/
theorem K29 (ht : TabH h) (H : ∀ h', Ext h h' → R (.returned (.bool true)) h') : Ent Tryz.prog B 29 #[] R h := by
  have i1 : I64 4607182418800017408 := ⟨by decide, by decide⟩
  have i2 : I64 4336966441157787648 := ⟨by decide, by decide⟩
  have i3 : I64 4611686018427387904 := ⟨by decide, by decide⟩
  refine F29_ok ?_
  unfold F29
  refine alK fun r1 h2 e2 f2 o2 z2 => K34 (ht.ext f2) (ints1 o2 i1) rfl i2 fun q m c h4 f4 L4 => ⟨_, _, _, _, rfl, alK fun r9 h10 e10 f10 o10 z10 => ?_⟩
  rw [al1] at L4 ⊢
  have F10 := Ext.trans f2 (Ext.trans f4 f10)
  refine K35 (ht.ext F10) (ints2 o10 i2 i1) rfl (by decide) i3 fun q2 m2 c2 h12 f12 L12 => ⟨_, _, _, _, rfl, ?_⟩
  rw [al2] at L12 ⊢
  have F12 := Ext.trans F10 f12
  refine ⟨fun _ => alK fun r17 h18 e18 f18 o18 z18 => ?_, fun e => absurd e (by decide)⟩
  have J := ((L4.ext f10).ext f12).ext f18
  refine K76 J.ints (ints2 o18 i2 i1) J.len rfl (by have := J.len; simp at this; omega) ⟨_, rfl, fun _ => ⟨fun _ => ⟨fun _ => ?_, fun e => ?_⟩, fun e => absurd e (by decide)⟩, fun e => absurd e (by decide)⟩
  · refine K37 J.ints J.len ⟨_, rfl, ?_⟩
    rw [al3]
    exact H h18 (Ext.trans F12 f18)
  · have := L12.len
    simp at this
    exact absurd e (by rw [decide_eq_true (by omega)]; decide)
end Go.Proofs
namespace Go.Eng
open Go
theorem setRow_own {b : Nat} : ∀ (xs : List Value) (h : Heap) (o : Nat) (cs : Array Value), Own h b cs → o + xs.length ≤ cs.size →
    ∃ cs', Own (setRow h b o xs) b cs' ∧ cs'.size = cs.size ∧ (∀ i (hi : i < xs.length), cs'[o + i]? = some xs[i]) ∧ (∀ i, i < o → cs'[i]? = cs[i]?) ∧ Fr (fun x => x = b) h (setRow h b o xs)
  | [], h, o, cs, O, _ => ⟨cs, O, rfl, fun i hi => absurd hi (by simp), fun _ _ => rfl, Fr.rfl'⟩
  | x :: xs, h, o, cs, O, hl => by
    rw [List.length_cons] at hl
    obtain ⟨cs', O', s', g1, g2, f⟩ := setRow_own xs (setCell h ⟨b, o, none⟩ x) (o + 1) _ (own_set (v := x) (o := o) O) (by rw [Array.size_setIfInBounds]; omega)
    refine ⟨cs', O', by rw [s', Array.size_setIfInBounds], fun i hi => ?_, fun i hi => ?_, Fr.trans fr_setCell f fun x _ e => e⟩
    · match i, hi with
      | 0, _ => rw [Nat.add_zero, g2 o (by omega), Array.getElem?_setIfInBounds_self_of_lt (by omega)]; rfl
      | i + 1, hi =>
        have := g1 i (by rw [List.length_cons] at hi; omega)
        rw [show o + (i + 1) = o + 1 + i by omega, this]; rfl
    · rw [g2 i (by omega), Array.getElem?_setIfInBounds_ne (by omega)]
theorem ints_row {h : Heap} {xp : Option Addr} {m : Nat} {ys : List Int} (J : Go.Proofs.IntsH h xp ys) (hm : ys.length = m) (hpt : Pt xp) : rowAt h xp (m * 1) (ys.map fun y => Value.int .i64 y) := by
  rcases J.2 with e | ⟨r, q, e, hr, g⟩
  · subst e
    rcases hpt with e | ⟨b, o, e⟩
    · subst e; rfl
    · subst e; exact ⟨by simp [← hm], b, o, rfl, fun i hi => absurd hi (by simp)⟩
  · subst e
    refine ⟨by simp [hm], r, q, rfl, fun i hi => ?_⟩
    rw [List.length_map] at hi
    rw [g i hi, List.getElem_map]
/-- A list appended to a list that is being made. -/
theorem apJN {h0 h : Heap} {T : Nat → Prop} {p xp : Option Addr} {n c m e : Nat} {ws ys : List Int} {K : Option Addr → Nat → Nat → Heap → Prop} (L : Lj h0 h p n c ws) (F : Fr T h0 h) (hn : n + m ≤ 1099511627776) (J : Go.Proofs.IntsH h xp ys) (hm : ys.length = m) (hpt : Pt xp)
    (hk : ∀ q c' h', Lj h0 h' q (n + m) c' (ws ++ ys) → Fr T h0 h' → Fr (fun x => h0.size ≤ x) h h' → K q (n + m) c' h') : apW h p n c xp m 1 8 e #[.int .i64 0] K := by
  have hrow := ints_row J hm hpt
  have hs := F.size
  have hall : ∀ y ∈ ws ++ ys, I64 y := fun y hy => by
    rcases List.mem_append.1 hy with hy | hy
    · exact L.all y hy
    · exact J.1 y hy
  have hlen := L.len
  refine ⟨fun hle => ⟨_, hrow, ?_⟩, fun hlt => ⟨by decide, by omega, by have := nsc_le hlt; omega, ws.map (fun w => Value.int .i64 w), _, ?_, hrow, fun cap h1 h2 => ?_⟩⟩
  · rcases L.room with hr | ⟨b, o, cs, e1, e2, e3, e4⟩
    · have hm0 : m = 0 := by omega
      have hy : ys = [] := List.eq_nil_of_length_eq_zero (by omega)
      subst hy
      have hK : K p (n + m) c h := hk p c h (by rw [List.append_nil, hm0]; exact L) F Fr.rfl'
      rcases L.pt with e | ⟨b, o, e⟩
      · subst e; exact hK
      · subst e; exact ⟨b, o, rfl, ⟨fun x hx => (by cases hx), fun i hi => absurd hi (by simp), hK⟩⟩
    · subst e1
      obtain ⟨cs', O', s', g1, g2, f⟩ := setRow_own (ys.map fun y => Value.int .i64 y) h (o + n * 1) cs e2 (by rw [List.length_map]; omega)
      refine ⟨b, o, rfl, fun y hy => ?_, fun i hi => ?_, ?_⟩
      · obtain ⟨z, _, rfl⟩ := List.mem_map.1 hy; rfl
      · rw [List.length_map] at hi
        exact ⟨⟨_, by rw [e2.cell, Array.getElem?_eq_getElem (by omega)]⟩, e2.frozen _⟩
      · refine hk _ _ _ ⟨.inr ⟨b, o, cs', rfl, O', fun i hi => ?_⟩, by simp [hlen, hm], .inr ⟨b, o, cs', rfl, O', by omega, e4⟩, hle, .inr ⟨b, o, rfl⟩, fun b' o' e' => by cases e'; exact e4, hall⟩ (Fr.trans F f fun x hx e => by omega) (Fr.mono f fun x _ e => by rw [e]; exact e4)
        rw [List.length_append] at hi
        by_cases hil : i < ws.length
        · rw [List.getElem_append_left hil, g2 _ (by omega)]
          rcases L.sl with k | ⟨b', o', cs2, f1, f2, f3⟩
          · subst k; exact absurd hil (by simp)
          · cases f1; rw [e2.inj f2]; exact f3 i hil
        · have hi2 : i - ws.length < (ys.map fun y => Value.int .i64 y).length := by rw [List.length_map]; omega
          have := g1 (i - ws.length) hi2
          rw [show o + n * 1 + (i - ws.length) = o + i by omega, List.getElem_map] at this
          rw [this, List.getElem_append_right (by omega)]
  · exact ints_row ⟨L.all, by
      rcases L.sl with k | ⟨b', o', cs2, f1, f2, f3⟩
      · exact .inl k
      · exact .inr ⟨b', o', f1, f2.lt, fun i hi => by rw [f2.cell]; exact f3 i hi⟩⟩ hlen L.pt
  · have H' : Own (h.push (.cells (ws.map (fun w => Value.int .i64 w) ++ ys.map (fun y => Value.int .i64 y) ++ zerosL #[.int .i64 0] (cap - (n + m))).toArray e)) h.size _ := own_new
    refine hk _ _ _ ⟨.inr ⟨_, 0, _, rfl, H', fun i hi => ?_⟩, by simp [hlen, hm], .inr ⟨_, 0, _, rfl, H', ?_, by omega⟩, h1, .inr ⟨_, _, rfl⟩, fun b' o' e' => by cases e'; omega, hall⟩ (Fr.trans F Ext.push fun x hx e => e.elim) Ext.push.to
    · rw [List.length_append] at hi
      rw [Nat.zero_add, List.getElem?_toArray, ← List.map_append, List.getElem?_append_left (by rw [List.length_map, List.length_append]; omega), List.getElem?_map, List.getElem?_eq_getElem (by rw [List.length_append]; omega)]
      rfl
    · simp [zerosL, hlen, hm]; omega
end Go.Eng
namespace Go.Proofs
open Go Go.Eng
variable {B : World} {R : Ending → Heap → Prop} {h : Heap}
/-- plumblaw2.Lent. -/
theorem K77 {p : Option Addr} {n c : Nat} {xs : List Int} (I : IntsH h p xs) (hn : xs.length = n) (hpt : Pt p) (hlim : n ≤ 1000000000)
    (H : ∀ q m c' h', Ext h h' → Lj h h' q m c' (xs ++ [-71, -72, -73]) → R (.returned (.slice q m c')) h') : Ent Tryz.prog B 77 #[.slice p n c] R h := by
  refine F77_ok _ _ _ ?_
  refine apJN (h0 := h) (T := fun _ => False) Lj.nil Fr.rfl' (by omega) I hn hpt fun q c1 h2 L2 F2 _ => alK fun r6 h7 e7 f7 o7 z7 => ?_
  have J3 : IntsH h7 (some ⟨r6, 0, none⟩) [-71, -72, -73] := by
    refine ⟨fun x hx => ?_, .inr ⟨r6, 0, rfl, o7.lt, fun i hi => ?_⟩⟩
    · simp only [List.mem_cons, List.not_mem_nil, or_false] at hx
      rcases hx with e | e | e <;> subst e <;> exact ⟨by decide, by decide⟩
    · rw [o7.cell]
      match i, hi with
      | 0, _ => rfl
      | 1, _ => rfl
      | 2, _ => rfl
  refine apJN (h0 := h) (T := fun _ => False) (L2.ext f7) (Ext.trans F2 f7) (by omega) J3 rfl (.inr ⟨_, _, rfl⟩) fun q2 c2 h8 L8 F8 _ => ?_
  exact H q2 _ c2 h8 F8 L8
end Go.Proofs
