import Derived.Test.YtkfafikejdhccaaGreatDoorA31
import Derived.Test.YtkfafikejdhccaaGreatDoorA33
/- Here stand lemmas: differences, products and the walk of pairs. -/
set_option linter.unusedVariables false
set_option linter.unusedVariables false
namespace Go.Proofs
open Go Go.Eng
variable {B : World} {R : Ending → Heap → Prop} {h : Heap}
def prodAns (xs ys : List Int) : List Int × Int := if validP xs && validP ys then ansOf (prodP xs [] ys) else ([], 1)
theorem scaleTop_len {xs : List Int} {b : Int} {l : List Int} (h : scaleTop xs b = some l) : l.length ≤ 2 * xs.length := by
  have h1 := scaleTopR_law xs b
  rw [h] at h1
  have h1 : scaleTopR xs b false = (l, false) := h1
  have := scaleTopR_len xs b false
  rw [h1] at this; exact this
theorem sumP_len {xs ys l : List Int} (h : sumP xs ys = some l) : l.length ≤ xs.length + ys.length := by
  have h1 := @sumR_law ys xs
  rw [h] at h1
  have h1 : sumR xs false ys = (l, false) := h1
  have := @sumR_len ys xs false
  rw [h1] at this; exact this
/-- expansion.Product. -/
theorem K40 {p q : Option Addr} {n c m d : Nat} {xs ys : List Int} (ht : TabH h) (I : IntsH h p xs) (hn : xs.length = n) (hc : n ≤ c) (J : IntsH h q ys) (hm : ys.length = m) (hlim : n * m ≤ 100000)
    (H : ∀ q m c' h', Ext h h' → Lj h h' q m c' (prodAns xs ys).1 → R (.returned (.tuple #[.slice q m c', .int .i64 (prodAns xs ys).2])) h') : Ent Tryz.prog B 40 #[.slice p n c, .slice q m d] R h := by
  refine F40_ok _ _ _ _ _ _ (alK fun r3 h4 e4 f4 o4 z4 => alK fun r5 h6 e6 f6 o6 z6 => alK fun r7 h8 e8 f8 o8 z8 => ?_)
  have F8 := Ext.trans f4 (Ext.trans f6 f8)
  have O3 := (o4.ext f6).ext f8
  have O5 := o6.ext f8
  have hne : r5 ≠ r3 := by omega
  refine K87 (ss := [(p, n, c, xs), (q, m, d, ys)]) o8 rfl (by decide) (fun s hs => ?_) ⟨_, rfl, ?_⟩
  · rcases List.mem_cons.1 hs with e | hs
    · rw [e]; exact ⟨I.ext F8, hn⟩
    · rw [List.mem_singleton.1 hs]; exact ⟨J.ext F8, hm⟩
  have hall : (([(p, n, c, xs), (q, m, d, ys)] : List (Option Addr × Nat × Nat × List Int)).all fun s => validP s.2.2.2) = (validP xs && validP ys) := by simp
  rw [hall]
  unfold prodAns at H
  cases hv : (validP xs && validP ys)
  · rw [hv] at H
    exact ⟨fun _ => expEnd O3 O5 hne fun h' f => H none 0 0 h' (Fr.trans F8 f fun x hx e => by omega) Lj.nil, fun e => absurd e (by decide)⟩
  rw [hv] at H
  have hv2 := Bool.and_eq_true_iff.1 hv
  have l1 := validP_len hv2.1
  have l2 := validP_len hv2.2
  refine ⟨fun e => absurd e (by decide), fun _ => ?_⟩
  refine ⟨fun k vs h' => match vs with
    | [.slice p1 n1 c1, .pointer a, .pointer b, .slice g gn gc, .slice q1 m1 d1, .int _ y, .int _ i] => p = p1 ∧ n = n1 ∧ c = c1 ∧ q = q1 ∧ m = m1 ∧ d = d1 ∧ a = some (⟨r3, 0, none⟩ : Addr) ∧ b = some (⟨r5, 0, none⟩ : Addr) ∧ y = (m : Int) ∧
        ∃ j : Nat, i = (j : Int) ∧ j ≤ m ∧ k = m - j ∧ Ext h8 h' ∧ ∃ hs, Lj h8 h' g gn gc hs ∧ gn ≤ 2 * (n * j) ∧ prodP xs hs (ys.drop j) = prodP xs [] ys
    | _ => False, m, ⟨rfl, rfl, rfl, rfl, rfl, rfl, rfl, rfl, rfl, 0, rfl, by omega, by omega, Fr.rfl', [], Lj.nil, by omega, rfl⟩, ?_⟩
  rintro k h1 _ _ _ _ _ g gn gc _ _ _ _ _ ⟨rfl, rfl, rfl, rfl, rfl, rfl, rfl, rfl, rfl, j, rfl, hj, rfl, F, hs, L, hgn, hg⟩ _
  have F1 := Ext.trans F8 F
  have sF := F.size
  refine ⟨fun e => ?_, fun e => ?_⟩
  · have hjn : j < ys.length := by have := of_decide_eq_true e; omega
    have hI : I64 ys[j] := J.1 _ (List.getElem_mem hjn)
    have hd : ys.drop j = ys[j] :: ys.drop (j + 1) := List.drop_eq_getElem_cons hjn
    rw [hd] at hg
    have hnj : n * (j + 1) ≤ n * m := Nat.mul_le_mul_left n (by omega)
    rw [Nat.mul_succ] at hnj
    have e2 : prodP xs hs (ys[j] :: ys.drop (j + 1)) = match scaleTop xs ys[j] with | some s => (match sumP hs s with | some l => prodP xs l (ys.drop (j + 1)) | none => none) | none => none := rfl
    rw [e2] at hg
    refine (J.ext F1).get hm hjn (K91 (ht.ext F1) (I.ext F1) hn hc (by omega) hI (fun s hs1 q1 m1 c1 h2 f2 L2 => ⟨_, _, _, rfl, ?_⟩) fun hs1 h2 f2 => ?_)
    · rw [hs1] at hg
      have ls := scaleTop_len hs1
      have F2 := Ext.trans F1 f2
      refine K92 (ht.ext F2) (L.ext f2).ints L.len L.le L.pt L2.ints L2.len (by have := L2.len; omega) (fun l hl q3 m3 c3 h3 f3 L3 => ⟨_, _, _, rfl, rfl, m - (j + 1), by omega, rfl, rfl, rfl, rfl, rfl, rfl, rfl, rfl, rfl, j + 1, ?_, by omega, rfl, Ext.trans F (Ext.trans f2 f3), l, L3.base (Nat.le_trans F.size f2.size), ?_, ?_⟩) fun hl h3 f3 => ?_
      · rw [i64_in (by omega) (by omega)]; rfl
      · have := sumP_len hl
        have := L.len
        have := L2.len
        have := L3.len
        rw [Nat.mul_succ]; omega
      · rw [← hg]
        show _ = (match sumP hs s with | some l => prodP xs l (ys.drop (j + 1)) | none => none)
        rw [hl]
      · have hnone : prodP xs [] ys = none := by
          rw [← hg]
          show (match sumP hs s with | some l => prodP xs l (ys.drop (j + 1)) | none => none) = none
          rw [hl]
        rw [hnone] at H
        have F3 := Ext.trans F (Ext.trans f2 f3)
        exact expDie (O3.ext F3) (O5.ext F3) hne fun h4' f4' => H none 0 0 h4' (Fr.trans (Ext.trans F8 F3) f4' fun x hx e => by omega) Lj.nil
    · have hnone : prodP xs [] ys = none := by rw [← hg, hs1]
      rw [hnone] at H
      have F3 := Ext.trans F f2
      exact expDie (O3.ext F3) (O5.ext F3) hne fun h4' f4' => H none 0 0 h4' (Fr.trans (Ext.trans F8 F3) f4' fun x hx e => by omega) Lj.nil
  · have hjn : j = m := by have := of_decide_eq_false e; omega
    rw [List.drop_of_length_le (by omega)] at hg
    have hsome : prodP xs [] ys = some hs := by rw [← hg]; rfl
    rw [hsome] at H
    have s6 := f6.size
    have s8 := f8.size
    exact K89e (O3.ext F) (O5.ext F) hne L (by omega) (by omega) fun q m c' h2 f2 L2 => H q m c' h2 (Fr.trans (Ext.trans F8 F) f2 fun x hx e => by omega) (L2.base F8.size)
end Go.Proofs
set_option linter.unusedVariables false
namespace Go.Proofs
open Go Go.Eng
variable {B : World} {R : Ending → Heap → Prop} {h : Heap}
end Go.Proofs
set_option linter.unusedVariables false
namespace Go.Proofs
open Go Go.Eng
variable {B : World} {R : Ending → Heap → Prop} {h : Heap}
end Go.Proofs
