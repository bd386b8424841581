import Derived.Test.YtkfafikejdhccaaGreatDoorA31
import Derived.Test.YtkfafikejdhccaaGreatDoorA33
/- Here stand lemmas: differences, products and the walk of pairs. -/
set_option linter.unusedVariables false
set_option linter.unusedVariables false
namespace Go.Proofs
open Go Go.Eng
variable {B : World} {R : Ending → Heap → Prop} {h : Heap}
def diffAns (xs ys : List Int) : List Int × Int := if validP xs && validP ys then ansOf (sumP xs (ys.map negP)) else ([], 1)
/-- expansion.Diff. -/
theorem K43 {p q : Option Addr} {n c m d : Nat} {xs ys : List Int} (ht : TabH h) (I : IntsH h p xs) (hn : xs.length = n) (hc : n ≤ c) (hp : Pt p) (J : IntsH h q ys) (hm : ys.length = m)
    (H : ∀ q m c' h', Ext h h' → Lj h h' q m c' (diffAns xs ys).1 → R (.returned (.tuple #[.slice q m c', .int .i64 (diffAns xs ys).2])) h') : Ent Tryz.prog B 43 #[.slice p n c, .slice q m d] R h := by
  refine F43_ok _ _ _ _ _ _ (alK fun r3 h4 e4 f4 o4 z4 => alK fun r5 h6 e6 f6 o6 z6 => alK fun r7 h8 e8 f8 o8 z8 => ?_)
  have F8 := Ext.trans f4 (Ext.trans f6 f8)
  have O3 := (o4.ext f6).ext f8
  have O5 := o6.ext f8
  have hne : r5 ≠ r3 := by omega
  refine K87 (ss := [(p, n, c, xs), (q, m, d, ys)]) o8 rfl (by decide) (fun s hs => ?_) ⟨_, rfl, ?_⟩
  · rcases List.mem_cons.1 hs with e | hs
    · rw [e]; exact ⟨I.ext F8, hn⟩
    · rw [List.mem_singleton.1 hs]; exact ⟨J.ext F8, hm⟩
  have hall : (([(p, n, c, xs), (q, m, d, ys)] : List (Option Addr × Nat × Nat × List Int)).all fun s => validP s.2.2.2) = (validP xs && validP ys) := by simp
  rw [hall]
  unfold diffAns at H
  cases hv : (validP xs && validP ys)
  · rw [hv] at H
    exact ⟨fun _ => expEnd O3 O5 hne fun h' f => H none 0 0 h' (Fr.trans F8 f fun x hx e => by omega) Lj.nil, fun e => absurd e (by decide)⟩
  rw [hv] at H
  have hv2 := Bool.and_eq_true_iff.1 hv
  have l1 := validP_len hv2.1
  have l2 := validP_len hv2.2
  refine ⟨fun e => absurd e (by decide), fun _ => ⟨by omega, by omega, by omega, by omega, ?_⟩⟩
  rw [Int.toNat_natCast, Nat.mul_one]
  refine alK fun r42 h43 e43 f43 o43 z43 => ?_
  have ms : (mkCells #[Value.int .i64 0] m).size = m := by simp [mkCells]
  refine ⟨fun k vs h' => match vs with
    | [.slice p1 n1 c1, .slice q1 m1 d1, .pointer a, .pointer b, .slice g gn gc, .int _ y, .int _ i] => p = p1 ∧ n = n1 ∧ c = c1 ∧ q = q1 ∧ m = m1 ∧ d = d1 ∧ a = some (⟨r3, 0, none⟩ : Addr) ∧ b = some (⟨r5, 0, none⟩ : Addr) ∧ g = some (⟨r42, 0, none⟩ : Addr) ∧ m = gn ∧ m = gc ∧ y = (m : Int) ∧
        ∃ j : Nat, i = (j : Int) ∧ j ≤ m ∧ k = m - j ∧ Fr (fun x => x = r42) h43 h' ∧ ∃ cs, Own h' r42 cs ∧ cs.size = m ∧ ∀ k (hk : k < ys.length), k < j → cs[k]? = some (.int .i64 (negP ys[k]))
    | _ => False, m, ⟨rfl, rfl, rfl, rfl, rfl, rfl, rfl, rfl, rfl, rfl, rfl, rfl, 0, rfl, by omega, by omega, Fr.rfl', _, o43, ms, fun k _ h0 => absurd h0 (by omega)⟩, ?_⟩
  rintro k h1 _ _ _ _ _ _ _ _ _ _ _ _ _ ⟨rfl, rfl, rfl, rfl, rfl, rfl, rfl, rfl, rfl, rfl, rfl, hy, j, rfl, hj, rfl, F, cs, O, hcs, hg⟩ _
  subst hy
  have F43 := Ext.trans F8 f43
  have s43 := F43.size
  have hr42 : h.size ≤ r42 := by have := F8.size; omega
  have F1 : Ext h h1 := Fr.trans (S := fun _ => False) F43 F fun x hx e => by omega
  refine ⟨fun e => ?_, fun e => ?_⟩
  · have hjn : j < ys.length := by have := of_decide_eq_true e; omega
    have hI : I64 ys[j] := J.1 _ (List.getElem_mem hjn)
    refine (J.ext F1).get hm hjn (K99 hI ⟨_, rfl, r42, 0, rfl, by omega, by omega, r42, _, rfl, O.stC (by rw [Int.toNat_natCast]; omega) rfl fun a g => ⟨rfl, m - (j + 1), by omega, rfl, rfl, rfl, rfl, rfl, rfl, rfl, rfl, rfl, rfl, rfl, rfl, j + 1, ?_, by omega, rfl, Fr.trans F g fun _ _ e => e, _, a, by rw [Array.size_setIfInBounds]; exact hcs, fun k hk hkj => ?_⟩⟩)
    · rw [i64_in (by omega) (by omega)]; rfl
    · rw [Int.toNat_natCast, Nat.mul_one, Nat.zero_add]
      by_cases hkj2 : k = j
      · subst hkj2
        rw [Array.getElem?_setIfInBounds_self_of_lt (by omega)]
      · rw [Array.getElem?_setIfInBounds_ne (by omega)]
        exact hg k hk (by omega)
  · have hjn : j = m := by have := of_decide_eq_false e; omega
    have JN : IntsH h1 (some ⟨r42, 0, none⟩) (ys.map negP) := by
      refine ⟨fun x hx => ?_, .inr ⟨r42, 0, rfl, O.lt, fun i hi => ?_⟩⟩
      · obtain ⟨y, hy, rfl⟩ := List.mem_map.1 hx
        exact negP_I64 (J.1 y hy)
      · rw [List.length_map] at hi
        rw [O.cell, Nat.zero_add, hg i hi (by omega), List.getElem_map]
    have s6 := f6.size
    have s8 := f8.size
    have O31 : Own h1 r3 #[.slice none 0 0] := (O3.ext f43).fr F (by omega)
    have O51 : Own h1 r5 #[.int .i64 0] := (O5.ext f43).fr F (by omega)
    refine K92 (ht.ext F1) (I.ext F1) hn hc hp JN (by rw [List.length_map]; exact hm) (by omega) (fun l hl q' m' c' h' F' L => ⟨_, _, _, rfl, ?_⟩) fun hl h' F' => ?_
    · rw [hl] at H
      have s1 := F1.size
      have sF := F.size
      exact K89e (O31.ext F') (O51.ext F') hne L (by omega) (by omega) fun q m c' h2 f2 L2 => H q m c' h2 (Fr.trans (Ext.trans F1 F') f2 fun x hx e => by omega) (L2.base F1.size)
    · rw [hl] at H
      exact expDie (O31.ext F') (O51.ext F') hne fun h2 f2 => H none 0 0 h2 (Fr.trans (Ext.trans F1 F') f2 fun x hx e => by omega) Lj.nil
end Go.Proofs
set_option linter.unusedVariables false
namespace Go.Proofs
open Go Go.Eng
variable {B : World} {R : Ending → Heap → Prop} {h : Heap}
end Go.Proofs
set_option linter.unusedVariables false
namespace Go.Proofs
open Go Go.Eng
variable {B : World} {R : Ending → Heap → Prop} {h : Heap}
end Go.Proofs
