import Derived.Test.YtkfafikejdhccaaGreatDoorA29
import Derived.Test.YtkfafikejdhccaaGreatDoorA28
import Derived.Test.YtkfafikejdhccaaGreatDoorA27
/- Here stand lemmas: expansions: contracts, second part. -/
set_option linter.unusedVariables false
namespace Go.Eng
open Go
end Go.Eng
namespace Go.Proofs
open Go Go.Eng
variable {B : World} {R : Ending → Heap → Prop} {h : Heap}
/-- What the reference's grown makes, and whether a step was not exact. -/
def growR (out : List Int) (q : Int) (bad : Bool) : List Int → List Int × Bool
  | [] => (addL out q, bad)
  | x :: r => if bad then (addL out q, bad) else growR (addL out (sumL q x)) (sumH q x) (!sumOk (sumH q x) (sumL q x) q x) r
theorem growR_bad (out : List Int) (q : Int) (xs : List Int) : growR out q true xs = (addL out q, true) := by cases xs <;> rfl
theorem growR_some {xs : List Int} : ∀ {out : List Int} {q : Int} {l : List Int}, growP out q xs = some l → growR out q false xs = (l, false) := by
  induction xs with
  | nil => intro out q l h; cases h; rfl
  | cons x r ih =>
    intro out q l h
    unfold growP at h
    by_cases hok : sumOk (sumH q x) (sumL q x) q x = true
    · rw [if_pos hok] at h
      show growR (addL out (sumL q x)) (sumH q x) (!sumOk (sumH q x) (sumL q x) q x) r = _
      rw [hok]; exact ih h
    · rw [if_neg hok] at h; cases h
theorem growR_none {xs : List Int} : ∀ {out : List Int} {q : Int}, growP out q xs = none → (growR out q false xs).2 = true := by
  induction xs with
  | nil => intro out q h; cases h
  | cons x r ih =>
    intro out q h
    unfold growP at h
    show (growR (addL out (sumL q x)) (sumH q x) (!sumOk (sumH q x) (sumL q x) q x) r).2 = true
    by_cases hok : sumOk (sumH q x) (sumL q x) q x = true
    · rw [if_pos hok] at h
      rw [hok]; exact ih h
    · have : sumOk (sumH q x) (sumL q x) q x = false := by revert hok; cases sumOk (sumH q x) (sumL q x) q x <;> simp
      rw [this, Bool.not_false, growR_bad]
end Go.Proofs
namespace Go.Proofs
open Go Go.Eng
variable {B : World} {R : Ending → Heap → Prop} {h : Heap}
/-- What the reference's Grow answers. -/
def growRef (xs : List Int) (b : Int) : List Int × Int :=
  match growP [] b xs with
  | some l => if l.length ≤ 4096 then (l, 0) else ([], 2)
  | none => ([], 14)
theorem growAns_ok {xs : List Int} {b : Int} (hv : validP xs = true) (hf : isFin b = true) : growAns xs b = growRef xs b := by
  unfold growAns growRef
  rw [hv, hf]; rfl
theorem _root_.Go.Eng.IntsH.lt {p : Option Addr} {xs : List Int} (I : IntsH h p xs) (hx : xs ≠ []) : ∀ a o, p = some ⟨a, o, none⟩ → a < h.size := by
  rcases I.2 with e | ⟨r, q, e, hr, g⟩
  · exact absurd e hx
  · intro a o e2; rw [e] at e2; cases e2; exact hr
end Go.Proofs
namespace Go.Proofs
open Go Go.Eng
variable {B : World} {R : Ending → Heap → Prop} {h : Heap}
/-- What scale makes behind its first product; none: a step was not exact. -/
def scaleP (out : List Int) (q b : Int) : List Int → Option (List Int)
  | [] => some (addL out q)
  | x :: r => if prdOk x b then
      if sumOk (sumH q (prdL x b)) (sumL q (prdL x b)) q (prdL x b) then
        if sumOk (sumH (prdH x b) (sumH q (prdL x b))) (fstL (prdH x b) (sumH q (prdL x b))) (prdH x b) (sumH q (prdL x b)) then
          scaleP (addL (addL out (sumL q (prdL x b))) (fstL (prdH x b) (sumH q (prdL x b)))) (sumH (prdH x b) (sumH q (prdL x b))) b r
        else none
      else none
    else none
def scaleTop (xs : List Int) (b : Int) : Option (List Int) :=
  match xs with
  | [] => some []
  | x :: r => if cls b = 0 then some [] else if prdOk x b then scaleP (addL [] (prdL x b)) (prdH x b) b r else none
theorem IntsH.tail {p : Option Addr} {x : Int} {r : List Int} {n c : Nat} (I : IntsH h p (x :: r)) (hn : (x :: r).length = n) (hc : n ≤ c) : IntsH h (slP p 1 c 1) r := by
  refine ⟨fun y hy => I.1 y (List.mem_cons_of_mem _ hy), ?_⟩
  by_cases h0 : r = []
  · exact .inl h0
  rcases I.2 with e | ⟨a, q, e, ha, g⟩
  · cases e
  · subst e
    have hl : 0 < r.length := List.length_pos_iff.2 h0
    rw [List.length_cons] at hn
    refine .inr ⟨a, q + 1, ?_, ha, fun i hi => ?_⟩
    · unfold slP
      rw [if_neg (by omega)]
      rfl
    · have := g (i + 1) (by rw [List.length_cons]; omega)
      rw [show q + 1 + i = q + (i + 1) by omega, this]; rfl
theorem prdH_I64 (a b : Int) : I64 (prdH a b) := mulP_I64 _ _
theorem prdL_I64 (a b : Int) : I64 (prdL a b) := subP_I64 _ _
/-- expansion.scale. -/
theorem K91 {p : Option Addr} {n c : Nat} {b : Int} {xs : List Int} (ht : TabH h) (I : IntsH h p xs) (hn : xs.length = n) (hc : n ≤ c) (hlim : n ≤ 1000000) (hb : I64 b)
    (H1 : ∀ l, scaleTop xs b = some l → ∀ q m c' h', Ext h h' → Lj h h' q m c' l → R (.returned (.slice q m c')) h') (H2 : scaleTop xs b = none → ∀ h', Ext h h' → R (.panicked INEX) h') :
    Ent Tryz.prog B 91 #[.slice p n c, .int .i64 b] R h := by
  refine F91_ok _ _ _ _ ⟨fun e => ⟨fun _ => ?_, fun e => (by cases e)⟩, fun e => K17 ⟨_, rfl, ?_⟩⟩
  · have h0 : xs = [] := List.eq_nil_of_length_eq_zero (by have := of_decide_eq_true e; omega)
    subst h0
    exact H1 [] rfl none 0 0 h Fr.rfl' Lj.nil
  have hn0 : n ≠ 0 := by have := of_decide_eq_false e; omega
  match xs, hn with
  | [], hn => exact absurd hn.symm hn0
  | x :: r, hn =>
  by_cases hz : cls b = 0
  · rw [decide_eq_true hz]
    exact ⟨fun _ => H1 [] (by show (if cls b = 0 then _ else _) = _; rw [if_pos hz]) none 0 0 h Fr.rfl' Lj.nil, fun e => (by cases e)⟩
  rw [decide_eq_false hz]
  have hT : scaleTop (x :: r) b = if prdOk x b then scaleP (addL [] (prdL x b)) (prdH x b) b r else none := by
    show (if cls b = 0 then _ else _) = _; rw [if_neg hz]
  rw [hT] at H1 H2
  have w2 : IntKind.i64.wrap ((2 : Int) * ((n : Nat) : Int)) = ((2 * n : Nat) : Int) := by rw [i64_in (by omega) (by omega)]; omega
  refine ⟨fun e => (by cases e), fun _ => ?_⟩
  rw [w2, Int.toNat_natCast, Nat.mul_one]
  refine ⟨by decide, by omega, by omega, by omega, alK fun r8 h9 e9 f9 o9 z9 => ?_⟩
  have I9 := I.ext f9
  have hx : I64 x := I.1 x (List.mem_cons_self ..)
  refine I9.get (j := 0) hn (by rw [List.length_cons]; omega) (K19 (ht.ext f9) hx hb fun h2 f2 => ⟨_, _, _, rfl, K107 (fun ok => ⟨_, _, rfl, ?_⟩) fun ok => ?_⟩)
  rotate_left
  · have ok' : prdOk x b = false := ok
    exact H2 (by rw [ok']; rfl) h2 (Ext.trans f9 f2)
  have ok' : prdOk x b = true := ok
  rw [ok', if_pos rfl] at H1 H2
  have L0 : Lj h h9 (some ⟨r8, 0, none⟩) 0 (2 * n) [] := mk_room o9 (by omega)
  refine K108 (L0.ext f2) (Ext.trans f9 f2) (by decide) (prdL_I64 _ _) fun q m c' h3 L F3 => ⟨_, _, _, rfl, ?_⟩
  rw [List.length_cons] at hn
  refine ⟨by omega, by omega, ?_⟩
  have L : Lj h h3 q m c' (addL [] (prdL x b)) := L
  have hm := L.len
  have hm1 := addL_len [] (prdL x b)
  rw [List.length_nil] at hm1
  have IT : IntsH h3 (slP p 1 c 1) r := (IntsH.tail I (by rw [List.length_cons]; exact hn) hc).ext F3
  refine ⟨fun k vs h' => match vs with
    | [.int _ b', .slice q m c', .int _ z, .slice p1 n1 c1, .int _ y, .int _ i] => b = b' ∧ p1 = slP p 1 c 1 ∧ n1 = n - 1 ∧ y = ((n - 1 : Nat) : Int) ∧ ∃ j : Nat, i = (j : Int) ∧ j ≤ n - 1 ∧ k = n - 1 - j ∧ Ext h h' ∧ I64 z ∧ ∃ out, Lj h h' q m c' out ∧ m ≤ 1 + 2 * j ∧ scaleP out z b (r.drop j) = scaleP (addL [] (prdL x b)) (prdH x b) b r
    | _ => False, n - 1, ⟨rfl, rfl, rfl, rfl, 0, rfl, by omega, by omega, F3, prdH_I64 _ _, _, L, by omega, rfl⟩, ?_⟩
  rintro k h1 _ q m c' z _ _ _ _ _ ⟨rfl, rfl, rfl, rfl, j, rfl, hj, rfl, F, hz, out, L, hm1, hg⟩ _
  have hrl : r.length = n - 1 := by omega
  have IT1 : IntsH h1 (slP p 1 c 1) r := (IntsH.tail I (by rw [List.length_cons]; exact hn) hc).ext F
  refine ⟨fun e => ?_, fun e => ?_⟩
  · have hjn : j < r.length := by have := of_decide_eq_true e; omega
    have hd : r.drop j = r[j] :: r.drop (j + 1) := List.drop_eq_getElem_cons hjn
    rw [hd] at hg
    have hI : I64 r[j] := IT1.1 _ (List.getElem_mem hjn)
    have hS : scaleP out z b (r[j] :: r.drop (j + 1)) = (if prdOk r[j] b then
      if sumOk (sumH z (prdL r[j] b)) (sumL z (prdL r[j] b)) z (prdL r[j] b) then
        if sumOk (sumH (prdH r[j] b) (sumH z (prdL r[j] b))) (fstL (prdH r[j] b) (sumH z (prdL r[j] b))) (prdH r[j] b) (sumH z (prdL r[j] b)) then
          scaleP (addL (addL out (sumL z (prdL r[j] b))) (fstL (prdH r[j] b) (sumH z (prdL r[j] b)))) (sumH (prdH r[j] b) (sumH z (prdL r[j] b))) b (r.drop (j + 1))
        else none
      else none
    else none) := rfl
    rw [hS] at hg
    refine IT1.get hrl hjn (K19 (ht.ext F) hI hb fun h2 f2 => ⟨_, _, _, rfl, K107 (fun ok1 => ⟨_, _, rfl, ?_⟩) fun ok1 => ?_⟩)
    rotate_left
    · exact H2 (by rw [← hg, ok1]; rfl) h2 (Ext.trans F f2)
    rw [ok1, if_pos rfl] at hg
    have G2 := Ext.trans F f2
    refine K18 (ht.ext G2) hz (prdL_I64 _ _) fun h3 f3 => ⟨_, _, _, rfl, K107 (fun ok2 => ⟨_, _, rfl, ?_⟩) fun ok2 => ?_⟩
    rotate_left
    · exact H2 (by rw [← hg, ok2]; rfl) h3 (Ext.trans G2 f3)
    rw [ok2, if_pos rfl] at hg
    have G3 := Ext.trans G2 f3
    refine K108 ((L.ext f2).ext f3) G3 (by omega) (addP_I64 _ _) fun q1 m1 c1 h4 L1 F4 => ⟨_, _, _, rfl, ?_⟩
    have l1 := L1.len
    have l2 := addL_len out (sumL z (prdL r[j] b))
    have l3 := L.len
    refine K20 (ht.ext F4) (prdH_I64 _ _) (addP_I64 _ _) fun h5 f5 => ⟨_, _, _, rfl, K107 (fun ok3 => ⟨_, _, rfl, ?_⟩) fun ok3 => ?_⟩
    rotate_left
    · exact H2 (by rw [← hg, ok3]; rfl) h5 (Ext.trans F4 f5)
    rw [ok3, if_pos rfl] at hg
    refine K108 (L1.ext f5) (Ext.trans F4 f5) (by omega) (subP_I64 _ _) fun q2 m2 c2 h6 L2 F6 => ⟨_, _, _, rfl, n - 1 - (j + 1), by omega, rfl, rfl, rfl, rfl, j + 1, ?_, by omega, rfl, F6, addP_I64 _ _, _, L2, ?_, hg⟩
    · rw [i64_in (by omega) (by omega)]; rfl
    · have := L2.len
      have := addL_len (addL out (sumL z (prdL r[j] b))) (fstL (prdH r[j] b) (sumH z (prdL r[j] b)))
      omega
  · have hjn : j = n - 1 := by have := of_decide_eq_false e; omega
    rw [List.drop_of_length_le (by omega)] at hg
    exact K108 L F (by omega) hz fun q' m' c'' h' L' F' => ⟨_, _, _, rfl, H1 _ (by rw [← hg]; rfl) q' m' c'' h' F' L'⟩
end Go.Proofs
namespace Go.Proofs
open Go Go.Eng
variable {B : World} {R : Ending → Heap → Prop} {h : Heap}
/-- What is told of what was made. -/
def ansOf : Option (List Int) → List Int × Int
  | some l => if l.length ≤ 4096 then (l, 0) else ([], 2)
  | none => ([], 14)
theorem growRef_eq (xs : List Int) (b : Int) : growRef xs b = ansOf (growP [] b xs) := by
  unfold growRef ansOf
  cases growP [] b xs <;> rfl
def scaleRef (xs : List Int) (b : Int) : List Int × Int := ansOf (scaleTop xs b)
/-- What Scale answers. -/
def scaleAns (xs : List Int) (b : Int) : List Int × Int := if validP xs then if isFin b then scaleRef xs b else ([], 10) else ([], 1)
/-- expansion.Scale. -/
theorem K35 {p : Option Addr} {n c : Nat} {b : Int} {xs : List Int} (ht : TabH h) (I : IntsH h p xs) (hn : xs.length = n) (hc : n ≤ c) (hb : I64 b)
    (H : ∀ q m c' h', Ext h h' → Lj h h' q m c' (scaleAns xs b).1 → R (.returned (.tuple #[.slice q m c', .int .i64 (scaleAns xs b).2])) h') : Ent Tryz.prog B 35 #[.slice p n c, .int .i64 b] R h := by
  refine F35_ok _ _ _ _ (alK fun r3 h4 e4 f4 o4 z4 => alK fun r5 h6 e6 f6 o6 z6 => alK fun r7 h8 e8 f8 o8 z8 => ?_)
  have F8 := Ext.trans f4 (Ext.trans f6 f8)
  have O3 := (o4.ext f6).ext f8
  have O5 := o6.ext f8
  have hne : r5 ≠ r3 := by omega
  refine K87 (ss := [(p, n, c, xs)]) o8 rfl (by decide) (fun s hs => ?_) ⟨_, rfl, ?_⟩
  · rw [List.mem_singleton.1 hs]; exact ⟨I.ext F8, hn⟩
  have hall : (([(p, n, c, xs)] : List (Option Addr × Nat × Nat × List Int)).all fun s => validP s.2.2.2) = validP xs := by simp
  rw [hall]
  unfold scaleAns scaleRef at H
  cases hv : validP xs
  · rw [hv] at H
    exact ⟨fun _ => expEnd O3 O5 hne fun h' f => H none 0 0 h' (Fr.trans F8 f fun x hx e => by omega) Lj.nil, fun e => absurd e (by decide)⟩
  rw [hv] at H
  refine ⟨fun e => absurd e (by decide), fun _ => K88 ⟨_, rfl, ?_⟩⟩
  cases hf : isFin b
  · rw [hf] at H
    exact ⟨fun _ => expEnd O3 O5 hne fun h' f => H none 0 0 h' (Fr.trans F8 f fun x hx e => by omega) Lj.nil, fun e => (by cases e)⟩
  rw [hf] at H
  refine ⟨fun e => (by cases e), fun _ => K91 (ht.ext F8) (I.ext F8) hn hc (by have := validP_len hv; omega) hb (fun l hl q m c' h' F' L => ⟨_, _, _, rfl, ?_⟩) fun hl h' F' => ?_⟩
  · rw [hl] at H
    have hm := L.len
    unfold ansOf at H
    refine K89 (fun hle => ⟨_, _, _, _, rfl, expEnd (O3.ext F') (O5.ext F') hne fun h2 f2 => ?_⟩) fun hgt => ⟨_, _, _, _, rfl, expEnd (O3.ext F') (O5.ext F') hne fun h2 f2 => ?_⟩
    · have hif : (if l.length ≤ 4096 then (l, (0 : Int)) else ([], 2)) = (l, 0) := if_pos (by omega)
      simp only [if_true, hif] at H
      exact H q m c' h2 (Fr.trans (Ext.trans F8 F') f2 fun x hx e => by omega) ((L.fr2 f2 (by omega) (by omega)).base F8.size)
    · have hif : (if l.length ≤ 4096 then (l, (0 : Int)) else ([], 2)) = ([], 2) := if_neg (by omega)
      simp only [if_true, hif] at H
      exact H none 0 0 h2 (Fr.trans (Ext.trans F8 F') f2 fun x hx e => by omega) Lj.nil
  · rw [hl] at H
    exact expDie (O3.ext F') (O5.ext F') hne fun h2 f2 => H none 0 0 h2 (Fr.trans (Ext.trans F8 F') f2 fun x hx e => by omega) Lj.nil
end Go.Proofs
namespace Go.Proofs
open Go Go.Eng
variable {B : World} {R : Ending → Heap → Prop} {h : Heap}
def scaleR (out : List Int) (q b : Int) (bad : Bool) : List Int → List Int × Bool
  | [] => (addL out q, bad)
  | x :: r => if bad then (addL out q, bad) else
      scaleR (addL (addL out (sumL q (prdL x b))) (fstL (prdH x b) (sumH q (prdL x b)))) (sumH (prdH x b) (sumH q (prdL x b))) b
        (!prdOk x b || (!sumOk (sumH q (prdL x b)) (sumL q (prdL x b)) q (prdL x b) || !sumOk (sumH (prdH x b) (sumH q (prdL x b))) (fstL (prdH x b) (sumH q (prdL x b))) (prdH x b) (sumH q (prdL x b)))) r
theorem scaleR_bad (out : List Int) (q b : Int) (xs : List Int) : scaleR out q b true xs = (addL out q, true) := by cases xs <;> rfl
theorem scaleR_law {b : Int} {xs : List Int} : ∀ {out : List Int} {q : Int}, match scaleP out q b xs with
    | some l => scaleR out q b false xs = (l, false)
    | none => (scaleR out q b false xs).2 = true := by
  induction xs with
  | nil => intro out q; rfl
  | cons x r ih =>
    intro out q
    have e1 : scaleR out q b false (x :: r) = scaleR (addL (addL out (sumL q (prdL x b))) (fstL (prdH x b) (sumH q (prdL x b)))) (sumH (prdH x b) (sumH q (prdL x b))) b
        (!prdOk x b || (!sumOk (sumH q (prdL x b)) (sumL q (prdL x b)) q (prdL x b) || !sumOk (sumH (prdH x b) (sumH q (prdL x b))) (fstL (prdH x b) (sumH q (prdL x b))) (prdH x b) (sumH q (prdL x b)))) r := rfl
    have e2 : scaleP out q b (x :: r) = (if prdOk x b then
      if sumOk (sumH q (prdL x b)) (sumL q (prdL x b)) q (prdL x b) then
        if sumOk (sumH (prdH x b) (sumH q (prdL x b))) (fstL (prdH x b) (sumH q (prdL x b))) (prdH x b) (sumH q (prdL x b)) then
          scaleP (addL (addL out (sumL q (prdL x b))) (fstL (prdH x b) (sumH q (prdL x b)))) (sumH (prdH x b) (sumH q (prdL x b))) b r
        else none
      else none
    else none) := rfl
    rw [e1, e2]
    cases prdOk x b
    · simp only [Bool.false_eq_true, if_false, Bool.not_false, Bool.true_or, scaleR_bad]
    · cases sumOk (sumH q (prdL x b)) (sumL q (prdL x b)) q (prdL x b)
      · simp only [Bool.false_eq_true, if_false, if_true, Bool.not_false, Bool.not_true, Bool.false_or, Bool.true_or, scaleR_bad]
      · cases sumOk (sumH (prdH x b) (sumH q (prdL x b))) (fstL (prdH x b) (sumH q (prdL x b))) (prdH x b) (sumH q (prdL x b))
        · simp only [Bool.false_eq_true, if_false, if_true, Bool.not_false, Bool.not_true, Bool.false_or, scaleR_bad]
        · simp only [if_true, Bool.not_true, Bool.false_or]
          exact ih
def scaleTopR (xs : List Int) (b : Int) (bad : Bool) : List Int × Bool :=
  match xs with
  | [] => ([], bad)
  | x :: r => if cls b = 0 then ([], bad) else scaleR (addL [] (prdL x b)) (prdH x b) b (bad || !prdOk x b) r
theorem scaleTopR_law (xs : List Int) (b : Int) : match scaleTop xs b with
    | some l => scaleTopR xs b false = (l, false)
    | none => (scaleTopR xs b false).2 = true := by
  cases xs with
  | nil => rfl
  | cons x r =>
    have e1 : scaleTop (x :: r) b = if cls b = 0 then some [] else if prdOk x b then scaleP (addL [] (prdL x b)) (prdH x b) b r else none := rfl
    have e2 : scaleTopR (x :: r) b false = if cls b = 0 then ([], false) else scaleR (addL [] (prdL x b)) (prdH x b) b (false || !prdOk x b) r := rfl
    rw [e1, e2]
    by_cases hz : cls b = 0
    · rw [if_pos hz, if_pos hz]
    · rw [if_neg hz, if_neg hz]
      cases prdOk x b
      · simp only [Bool.false_eq_true, if_false, Bool.not_false, Bool.or_true, scaleR_bad]
      · simp only [if_true, Bool.not_true, Bool.or_false]
        exact scaleR_law
end Go.Proofs
namespace Go.Proofs
open Go Go.Eng
variable {B : World} {R : Ending → Heap → Prop} {h : Heap}
end Go.Proofs
namespace Go.Proofs
open Go Go.Eng
variable {B : World} {R : Ending → Heap → Prop} {h : Heap}
end Go.Proofs
namespace Go.Proofs
open Go Go.Eng
variable {B : World} {R : Ending → Heap → Prop} {h : Heap}
/-- plumblaw2.Same. -/
theorem K76 {p q : Option Addr} {n m c d : Nat} {xs ys : List Int} (I : IntsH h p xs) (J : IntsH h q ys) (hn : xs.length = n) (hm : ys.length = m) (hlim : n ≤ 1000000000) (H : R (.returned (.bool (decide (xs = ys)))) h) : Ent Tryz.prog B 76 #[.slice p n c, .slice q m d] R h := by
  refine F76_ok _ _ _ _ _ _ ⟨fun e => ?_, fun e => ?_⟩
  · have hne : n ≠ m := by intro k; subst k; simp at e
    rw [decide_eq_false (show ¬ xs = ys by intro k; subst k; omega)] at H
    exact H
  have hnm : n = m := by
    by_cases k : n = m
    · exact k
    · rw [decide_eq_false (show ¬ ((n : Nat) : Int) = ((m : Nat) : Int) by omega)] at e; cases e
  subst hnm
  refine ⟨fun k vs h' => match vs with
    | [.slice p1 n1 c1, .slice q1 m1 d1, .int _ i] => p = p1 ∧ n = n1 ∧ c = c1 ∧ q = q1 ∧ n = m1 ∧ d = d1 ∧ h = h' ∧ ∃ j : Nat, i = (j : Int) ∧ j ≤ n ∧ k = n - j ∧ xs.take j = ys.take j
    | _ => False, n, ⟨rfl, rfl, rfl, rfl, rfl, rfl, rfl, 0, rfl, by omega, by omega, rfl⟩, ?_⟩
  rintro k h1 _ _ _ _ _ _ _ ⟨rfl, rfl, rfl, rfl, rfl, rfl, rfl, j, rfl, hj, rfl, ht⟩ _
  refine ⟨fun e => ?_, fun e => ?_⟩
  · have hjx : j < xs.length := by have := of_decide_eq_true e; omega
    have hjy : j < ys.length := by omega
    refine I.get hn hjx (J.get hm hjy ?_)
    by_cases hxy : xs[j] = ys[j]
    · rw [decide_eq_true hxy]
      refine ⟨fun e => (by cases e), fun _ => ⟨n - (j + 1), by omega, rfl, rfl, rfl, rfl, rfl, rfl, rfl, j + 1, ?_, by omega, rfl, ?_⟩⟩
      · rw [i64_in (by omega) (by omega)]; rfl
      · rw [List.take_succ_eq_append_getElem hjx, List.take_succ_eq_append_getElem hjy, ht, hxy]
    · rw [decide_eq_false hxy]
      rw [decide_eq_false (show ¬ xs = ys by intro k; subst k; exact hxy rfl)] at H
      exact ⟨fun _ => H, fun e => (by cases e)⟩
  · have hjn : j = n := by have := of_decide_eq_false e; omega
    rw [List.take_of_length_le (by omega), List.take_of_length_le (by omega)] at ht
    rw [decide_eq_true ht] at H
    exact H
end Go.Proofs
namespace Go.Proofs
open Go Go.Eng
variable {B : World} {R : Ending → Heap → Prop} {h : Heap}
end Go.Proofs
namespace Go.Proofs
open Go Go.Eng
variable {B : World} {R : Ending → Heap → Prop} {h : Heap}
theorem lowN_odd {b : Int} (h0 : fM b ≠ 0) : ∃ N, N % 2 = 1 ∧ (fV b).natAbs = N * lowN b := by
  obtain ⟨m, h1, h2⟩ := Lib.ctzFrom_spec 64 (fM b) (by omega) (by
    have := fM_lt b
    have e64 : (2 : Nat) ^ 64 = 18446744073709551616 := by decide
    rw [e64]; omega)
  have e : Lib.ctz 64 (fM b) = Lib.ctzFrom 64 (fM b) := by simp [Lib.ctz, h0]
  refine ⟨2 * m + 1, by omega, ?_⟩
  unfold fV lowN
  rw [signed_abs, e, Nat.pow_add, ← Nat.mul_assoc, Nat.mul_comm (2 * m + 1), ← h1]
end Go.Proofs
namespace Go.Proofs
open Go Go.Eng
variable {B : World} {R : Ending → Heap → Prop} {h : Heap}
end Go.Proofs
namespace Go.Proofs
open Go Go.Eng
variable {B : World} {R : Ending → Heap → Prop} {h : Heap}
theorem al1 : growAns [4607182418800017408] 4336966441157787648 = ([4336966441157787648, 4607182418800017408], 0) := by decide +kernel
theorem al2 : scaleAns [4336966441157787648, 4607182418800017408] 4611686018427387904 = ([4341470040785158144, 4611686018427387904], 0) := by decide +kernel
theorem al3 : validP [4336966441157787648, 4607182418800017408] = true := by decide +kernel
theorem ints1 {r : Nat} {a : Int} (O : Own h r #[.int .i64 a]) (ha : I64 a) : IntsH h (some ⟨r, 0, none⟩) [a] := by
  refine ⟨fun x hx => by rw [List.mem_singleton.1 hx]; exact ha, .inr ⟨r, 0, rfl, O.lt, fun i hi => ?_⟩⟩
  rw [O.cell]
  match i, hi with
  | 0, _ => rfl
theorem ints2 {r : Nat} {a b : Int} (O : Own h r #[.int .i64 a, .int .i64 b]) (ha : I64 a) (hb : I64 b) : IntsH h (some ⟨r, 0, none⟩) [a, b] := by
  refine ⟨fun x hx => ?_, .inr ⟨r, 0, rfl, O.lt, fun i hi => ?_⟩⟩
  · rcases List.mem_cons.1 hx with e | hx
    · rw [e]; exact ha
    · rw [List.mem_singleton.1 hx]; exact hb
  · rw [O.cell]
    match i, hi with
    | 0, _ => rfl
    | 1, _ => rfl
/-- plumblaw7.alive. -/
theorem K29 (ht : TabH h) (H : ∀ h', Ext h h' → R (.returned (.bool true)) h') : Ent Tryz.prog B 29 #[] R h := by
  have i1 : I64 4607182418800017408 := ⟨by decide, by decide⟩
  have i2 : I64 4336966441157787648 := ⟨by decide, by decide⟩
  have i3 : I64 4611686018427387904 := ⟨by decide, by decide⟩
  refine F29_ok ?_
  unfold F29
  refine alK fun r1 h2 e2 f2 o2 z2 => K34 (ht.ext f2) (ints1 o2 i1) rfl i2 fun q m c h4 f4 L4 => ⟨_, _, _, _, rfl, alK fun r9 h10 e10 f10 o10 z10 => ?_⟩
  rw [al1] at L4 ⊢
  have F10 := Ext.trans f2 (Ext.trans f4 f10)
  refine K35 (ht.ext F10) (ints2 o10 i2 i1) rfl (by decide) i3 fun q2 m2 c2 h12 f12 L12 => ⟨_, _, _, _, rfl, ?_⟩
  rw [al2] at L12 ⊢
  have F12 := Ext.trans F10 f12
  refine ⟨fun _ => alK fun r17 h18 e18 f18 o18 z18 => ?_, fun e => absurd e (by decide)⟩
  have J := ((L4.ext f10).ext f12).ext f18
  refine K76 J.ints (ints2 o18 i2 i1) J.len rfl (by have := J.len; simp at this; omega) ⟨_, rfl, fun _ => ⟨fun _ => ⟨fun _ => ?_, fun e => ?_⟩, fun e => absurd e (by decide)⟩, fun e => absurd e (by decide)⟩
  · refine K37 J.ints J.len ⟨_, rfl, ?_⟩
    rw [al3]
    exact H h18 (Ext.trans F12 f18)
  · have := L12.len
    simp at this
    exact absurd e (by rw [decide_eq_true (by omega)]; decide)
end Go.Proofs
namespace Go.Eng
open Go
theorem setRow_own {b : Nat} : ∀ (xs : List Value) (h : Heap) (o : Nat) (cs : Array Value), Own h b cs → o + xs.length ≤ cs.size →
    ∃ cs', Own (setRow h b o xs) b cs' ∧ cs'.size = cs.size ∧ (∀ i (hi : i < xs.length), cs'[o + i]? = some xs[i]) ∧ (∀ i, i < o → cs'[i]? = cs[i]?) ∧ Fr (fun x => x = b) h (setRow h b o xs)
  | [], h, o, cs, O, _ => ⟨cs, O, rfl, fun i hi => absurd hi (by simp), fun _ _ => rfl, Fr.rfl'⟩
  | x :: xs, h, o, cs, O, hl => by
    rw [List.length_cons] at hl
    obtain ⟨cs', O', s', g1, g2, f⟩ := setRow_own xs (setCell h ⟨b, o, none⟩ x) (o + 1) _ (own_set (v := x) (o := o) O) (by rw [Array.size_setIfInBounds]; omega)
    refine ⟨cs', O', by rw [s', Array.size_setIfInBounds], fun i hi => ?_, fun i hi => ?_, Fr.trans fr_setCell f fun x _ e => e⟩
    · match i, hi with
      | 0, _ => rw [Nat.add_zero, g2 o (by omega), Array.getElem?_setIfInBounds_self_of_lt (by omega)]; rfl
      | i + 1, hi =>
        have := g1 i (by rw [List.length_cons] at hi; omega)
        rw [show o + (i + 1) = o + 1 + i by omega, this]; rfl
    · rw [g2 i (by omega), Array.getElem?_setIfInBounds_ne (by omega)]
theorem ints_row {h : Heap} {xp : Option Addr} {m : Nat} {ys : List Int} (J : Go.Proofs.IntsH h xp ys) (hm : ys.length = m) (hpt : Pt xp) : rowAt h xp (m * 1) (ys.map fun y => Value.int .i64 y) := by
  rcases J.2 with e | ⟨r, q, e, hr, g⟩
  · subst e
    rcases hpt with e | ⟨b, o, e⟩
    · subst e; rfl
    · subst e; exact ⟨by simp [← hm], b, o, rfl, fun i hi => absurd hi (by simp)⟩
  · subst e
    refine ⟨by simp [hm], r, q, rfl, fun i hi => ?_⟩
    rw [List.length_map] at hi
    rw [g i hi, List.getElem_map]
/-- A list appended to a list that is being made. -/
theorem apJN {h0 h : Heap} {T : Nat → Prop} {p xp : Option Addr} {n c m e : Nat} {ws ys : List Int} {K : Option Addr → Nat → Nat → Heap → Prop} (L : Lj h0 h p n c ws) (F : Fr T h0 h) (hn : n + m ≤ 1099511627776) (J : Go.Proofs.IntsH h xp ys) (hm : ys.length = m) (hpt : Pt xp)
    (hk : ∀ q c' h', Lj h0 h' q (n + m) c' (ws ++ ys) → Fr T h0 h' → Fr (fun x => h0.size ≤ x) h h' → K q (n + m) c' h') : apW h p n c xp m 1 8 e #[.int .i64 0] K := by
  have hrow := ints_row J hm hpt
  have hs := F.size
  have hall : ∀ y ∈ ws ++ ys, I64 y := fun y hy => by
    rcases List.mem_append.1 hy with hy | hy
    · exact L.all y hy
    · exact J.1 y hy
  have hlen := L.len
  refine ⟨fun hle => ⟨_, hrow, ?_⟩, fun hlt => ⟨by decide, by omega, by have := nsc_le hlt; omega, ws.map (fun w => Value.int .i64 w), _, ?_, hrow, fun cap h1 h2 => ?_⟩⟩
  · rcases L.room with hr | ⟨b, o, cs, e1, e2, e3, e4⟩
    · have hm0 : m = 0 := by omega
      have hy : ys = [] := List.eq_nil_of_length_eq_zero (by omega)
      subst hy
      have hK : K p (n + m) c h := hk p c h (by rw [List.append_nil, hm0]; exact L) F Fr.rfl'
      rcases L.pt with e | ⟨b, o, e⟩
      · subst e; exact hK
      · subst e; exact ⟨b, o, rfl, ⟨fun x hx => (by cases hx), fun i hi => absurd hi (by simp), hK⟩⟩
    · subst e1
      obtain ⟨cs', O', s', g1, g2, f⟩ := setRow_own (ys.map fun y => Value.int .i64 y) h (o + n * 1) cs e2 (by rw [List.length_map]; omega)
      refine ⟨b, o, rfl, fun y hy => ?_, fun i hi => ?_, ?_⟩
      · obtain ⟨z, _, rfl⟩ := List.mem_map.1 hy; rfl
      · rw [List.length_map] at hi
        exact ⟨⟨_, by rw [e2.cell, Array.getElem?_eq_getElem (by omega)]⟩, e2.frozen _⟩
      · refine hk _ _ _ ⟨.inr ⟨b, o, cs', rfl, O', fun i hi => ?_⟩, by simp [hlen, hm], .inr ⟨b, o, cs', rfl, O', by omega, e4⟩, hle, .inr ⟨b, o, rfl⟩, fun b' o' e' => by cases e'; exact e4, hall⟩ (Fr.trans F f fun x hx e => by omega) (Fr.mono f fun x _ e => by rw [e]; exact e4)
        rw [List.length_append] at hi
        by_cases hil : i < ws.length
        · rw [List.getElem_append_left hil, g2 _ (by omega)]
          rcases L.sl with k | ⟨b', o', cs2, f1, f2, f3⟩
          · subst k; exact absurd hil (by simp)
          · cases f1; rw [e2.inj f2]; exact f3 i hil
        · have hi2 : i - ws.length < (ys.map fun y => Value.int .i64 y).length := by rw [List.length_map]; omega
          have := g1 (i - ws.length) hi2
          rw [show o + n * 1 + (i - ws.length) = o + i by omega, List.getElem_map] at this
          rw [this, List.getElem_append_right (by omega)]
  · exact ints_row ⟨L.all, by
      rcases L.sl with k | ⟨b', o', cs2, f1, f2, f3⟩
      · exact .inl k
      · exact .inr ⟨b', o', f1, f2.lt, fun i hi => by rw [f2.cell]; exact f3 i hi⟩⟩ hlen L.pt
  · have H' : Own (h.push (.cells (ws.map (fun w => Value.int .i64 w) ++ ys.map (fun y => Value.int .i64 y) ++ zerosL #[.int .i64 0] (cap - (n + m))).toArray e)) h.size _ := own_new
    refine hk _ _ _ ⟨.inr ⟨_, 0, _, rfl, H', fun i hi => ?_⟩, by simp [hlen, hm], .inr ⟨_, 0, _, rfl, H', ?_, by omega⟩, h1, .inr ⟨_, _, rfl⟩, fun b' o' e' => by cases e'; omega, hall⟩ (Fr.trans F Ext.push fun x hx e => e.elim) Ext.push.to
    · rw [List.length_append] at hi
      rw [Nat.zero_add, List.getElem?_toArray, ← List.map_append, List.getElem?_append_left (by rw [List.length_map, List.length_append]; omega), List.getElem?_map, List.getElem?_eq_getElem (by rw [List.length_append]; omega)]
      rfl
    · simp [zerosL, hlen, hm]; omega
end Go.Eng
namespace Go.Proofs
open Go Go.Eng
variable {B : World} {R : Ending → Heap → Prop} {h : Heap}
end Go.Proofs
