import Derived.Test.YtkfafikejdhccaaGreatDoorA34
import Derived.Test.YtkfafikejdhccaaGreatDoorA36
import Derived.Test.YtkfafikejdhccaaGreatDoorA35
/- Here stand lemmas: exact values of expansions. -/
set_option linter.unusedVariables false
set_option linter.unusedVariables false
namespace Go.Proofs
open Go Go.Eng
variable {B : World} {R : Ending → Heap → Prop} {h : Heap}
end Go.Proofs
set_option linter.unusedVariables false
namespace Go.Proofs
open Go Go.Eng
variable {B : World} {R : Ending → Heap → Prop} {h : Heap}
end Go.Proofs
set_option linter.unusedVariables false
namespace Go.Proofs
open Go Go.Eng
variable {B : World} {R : Ending → Heap → Prop} {h : Heap}
end Go.Proofs
set_option linter.unusedVariables false
namespace Go.Eng
open Go
theorem same3 {h h' : Heap} {b : Nat} {cs : Array Value} {S : Nat → Prop} (H : Own h b cs) (f : Fr S h h') (hb : ¬ S b) : sameCells h h' b 0 3 := by
  have h1 := H.fr f hb
  simp only [sameCells]
  simp [H.cell, h1.cell]
end Go.Eng
namespace Go.Proofs
open Go Go.Eng
variable {B : World} {R : Ending → Heap → Prop} {h : Heap}
theorem sum_bl {L : Nat} {vs : List Int} (h : ∀ v ∈ vs, bl v.natAbs ≤ L) : bl vs.sum.natAbs ≤ L + vs.length := by
  induction vs with
  | nil => exact Nat.zero_le _
  | cons v r ih =>
    rw [List.sum_cons, List.length_cons]
    have h1 := h v (List.mem_cons_self ..)
    have h2 := ih fun x hx => h x (List.mem_cons_of_mem _ hx)
    exact bl_add (L := L + r.length) (by omega) h2
/-- dyadic.Sum, and the room of its digits. -/
theorem K119n {K n c : Nat} {p : Option Addr} {vs : List Int} (ht : TabH h) (N : NumL K h p vs) (hn : vs.length = n) (hl : n ≤ 20000) (hK : K ≤ 1048576) (hv : ∀ v ∈ vs, bl v.natAbs ≤ 3000)
    (H : ∀ neg' p' n' c' e' h', Ext h h' → Fresh h p' → Room h' p' c' (fun b => h.size ≤ b) → n' ≤ c' → NumS K h' neg' p' n' e' vs.sum → R (.returned (.tuple #[.agg #[.bool neg', .slice p' n' c', .int .i64 e'], .int .i64 (0 : Int)])) h') :
    Ent Tryz.prog B 119 #[.slice p n c] R h := by
  refine F119_ok _ _ _ (alK fun r2 h3 e2 f2 o2 z2 => alK fun r4 h5 e4 f4 o4 z4 => ?_)
  have F := Ext.trans f2 f4
  refine K67 (N.ext F) hn (by omega) fun xs h28 f28 X => ⟨_, _, _, rfl, ?_⟩
  refine K66 X hn (by omega) hK (fun i _ => ?_) (fun x hx => Nat.le_trans (hv x hx) (by decide)) fun r q m e' h46 f46 I he hs => ⟨_, _, rfl, ?_⟩
  · have := sum_bl (L := 3000) (vs := vs.take i) fun v h => hv v (List.mem_of_mem_take h)
    have h2 : (vs.take i).length ≤ n := by rw [List.length_take, hn]; exact Nat.min_le_right _ _
    omega
  refine K65R (ht.ext (Ext.trans F (Ext.trans f28 f46))) I he hs (by have := sum_bl hv; omega) hK fun neg' p' n' c' e' h65 f65 fr65 rm le N => ⟨_, _, _, _, _, rfl, ?_⟩
  have FX := Ext.trans f28 (Ext.trans f46 f65)
  have s5 := F.size
  have s46 := (Ext.trans f28 f46).size
  have l2 := (o2.ext f4).lt
  have l4 := o4.lt
  refine numEnd ((o2.ext f4).ext FX) (o4.ext FX) (by omega) fun h' f => ?_
  exact H neg' p' n' c' e' h' (Fr.trans (Ext.trans F FX) f fun x hx e => by omega) (fr65.mono (by omega)) ((rm.fr f fun b k1 k2 => by omega).mono fun b k => by omega) le (N.fr f fun b o e e3 => by have := fr65 b o e; omega)
/-- expansion.Exact. -/
theorem K95 {p : Option Addr} {n c : Nat} {xs : List Int} (ht : TabH h) (I : IntsH h p xs) (hn : xs.length = n)
    (H1 : validP xs = true → ∀ neg q m c' e h', Ext h h' → Fresh h q → Room h' q c' (fun b => h.size ≤ b) → m ≤ c' → NumS 1074 h' neg q m e (xs.map fV).sum → R (.returned (.tuple #[.agg #[.bool neg, .slice q m c', .int .i64 e], .int .i64 (0 : Int)])) h')
    (H2 : validP xs = false → ∀ h', Ext h h' → R (.returned (.tuple #[.agg #[.bool false, .slice none 0 0, .int .i64 (0 : Int)], .int .i64 (1 : Int)])) h') : Ent Tryz.prog B 95 #[.slice p n c] R h := by
  refine F95_ok _ _ _ (alK fun r2 h3 e2 f2 o2 z2 => alK fun r4 h5 e4 f4 o4 z4 => K87 (ss := [(p, n, c, xs)]) o4 rfl (by decide) (fun s hs => ?_) ⟨_, rfl, ?_⟩)
  · rw [List.mem_singleton.1 hs]; exact ⟨(I.ext f2).ext f4, hn⟩
  have hall : (([(p, n, c, xs)] : List (Option Addr × Nat × Nat × List Int)).all fun s => validP s.2.2.2) = validP xs := by simp
  rw [hall]
  have F5 := Ext.trans f2 f4
  have O2 := o2.ext f4
  have s5 := F5.size
  have s2 := f2.size
  cases hv : validP xs
  · refine ⟨fun _ => ?_, fun e => absurd e (by decide)⟩
    refine ⟨r2, 0, rfl, O2.stC (by simp) rfl fun oa fa => oa.stC (by simp) rfl fun ob fb => ob.stC (by simp) rfl fun oc fc => ⟨r2, 0, rfl, _, oc.cell _, _, _, _, oc.cell _, _, oc.cell _, ?_⟩⟩
    have fabc := Fr.trans (S := fun x => x = r2) (Fr.trans (S := fun x => x = r2) fa fb fun _ _ e => e) fc fun _ _ e => e
    exact H2 hv _ (Fr.trans F5 fabc fun x hx e => by omega)
  refine ⟨fun e => absurd e (by decide), fun _ => ?_⟩
  have hl := validP_len hv
  have hfin : ∀ x ∈ xs, isFin x = true := by
    have := (Bool.and_eq_true_iff.1 hv).2
    exact (vOk_iff.1 this).1
  refine ⟨by omega, by omega, by omega, by omega, ?_⟩
  rw [Int.toNat_natCast]
  refine alK fun r21 h22 e21 f21 o21 z21 => ?_
  have ms : (mkCells #[Value.bool false, .slice none 0 0, .int .i64 0] (n * 3)).size = n * 3 := by simp [mkCells]
  have F22 := Ext.trans F5 f21
  have hr21 : h.size ≤ r21 := by omega
  refine ⟨fun k vs h' => match vs with
    | [.slice p1 n1 c1, .pointer a, .slice g gn gc, .int _ nn, .int _ i] => p = p1 ∧ n = n1 ∧ c = c1 ∧ a = some (⟨r2, 0, none⟩ : Addr) ∧ g = some (⟨r21, 0, none⟩ : Addr) ∧ n = gn ∧ n = gc ∧ nn = (n : Int) ∧
        ∃ j : Nat, i = (j : Int) ∧ j ≤ n ∧ k = n - j ∧ Fr (fun x => x = r21) h22 h' ∧ ∃ cs, Own h' r21 cs ∧ cs.size = n * 3 ∧ ∀ i (hi : i < xs.length), i < j → ∃ neg q m c e, cs[i * 3]? = some (.bool neg) ∧ cs[i * 3 + 1]? = some (.slice q m c) ∧ cs[i * 3 + 1 + 1]? = some (.int .i64 e) ∧ NumS 1074 h' neg q m e (fV xs[i]) ∧ ∀ b o, q = some ⟨b, o, none⟩ → r21 < b
    | _ => False, n, ⟨rfl, rfl, rfl, rfl, rfl, rfl, rfl, rfl, 0, rfl, by omega, by omega, Fr.rfl', _, o21, ms, fun i _ h0 => absurd h0 (by omega)⟩, ?_⟩
  rintro k h1 _ _ _ _ _ _ _ _ _ ⟨rfl, rfl, rfl, rfl, rfl, rfl, rfl, rfl, j, rfl, hj, rfl, F, cs, O, hcs, hg⟩ _
  have F1 : Ext h h1 := Fr.trans (S := fun _ => False) F22 F fun x hx e => by omega
  have lr := O.lt
  refine ⟨fun e => ?_, fun e => ?_⟩
  · have hjn : j < xs.length := by have := of_decide_eq_true e; omega
    refine (I.ext F1).get hn hjn (K21 (ht.ext F1) (hfin _ (List.getElem_mem hjn)) fun neg q m c' e' h2 f2' fr N => ⟨_, _, _, _, _, _, rfl, r21, 0, rfl, by omega, by omega, r21, _, rfl, ?_⟩)
    rw [Int.toNat_natCast, Nat.zero_add]
    refine (O.ext f2').stC (by omega) rfl fun oa fa => oa.stC (by simp; omega) rfl fun ob fb => ob.stC (by simp; omega) rfl fun oc fc => ?_
    have fabc := Fr.trans (S := fun x => x = r21) (Fr.trans (S := fun x => x = r21) fa fb fun _ _ e => e) fc fun _ _ e => e
    have hq : ∀ b o, q = some ⟨b, o, none⟩ → r21 < b := fun b o e => by have := fr b o e; omega
    refine ⟨n - (j + 1), by omega, rfl, rfl, rfl, rfl, rfl, rfl, rfl, rfl, j + 1, ?_, by omega, rfl, Fr.trans (Fr.trans F f2' fun x _ e => e.elim) fabc fun _ _ e => e, _, oc, by simp [hcs], fun i hi hij => ?_⟩
    · rw [i64_in (by omega) (by omega)]; rfl
    · by_cases hij2 : i = j
      · subst hij2
        refine ⟨neg, q, m, c', e', ?_, ?_, ?_, N.fr fabc fun b o e k => by have := hq b o e; omega, hq⟩
        · rw [Array.getElem?_setIfInBounds_ne (by omega), Array.getElem?_setIfInBounds_ne (by omega), Array.getElem?_setIfInBounds_self_of_lt (by omega)]
        · rw [Array.getElem?_setIfInBounds_ne (by omega), Array.getElem?_setIfInBounds_self_of_lt (by simp; omega)]
        · rw [Array.getElem?_setIfInBounds_self_of_lt (by simp; omega)]
      · obtain ⟨neg', q', m', c2, e2', g1, g2, g3, g4, g5⟩ := hg i hi (by omega)
        refine ⟨neg', q', m', c2, e2', ?_, ?_, ?_, (g4.ext f2').fr fabc fun b o e k => by have := g5 b o e; omega, g5⟩
        · rw [Array.getElem?_setIfInBounds_ne (by omega), Array.getElem?_setIfInBounds_ne (by omega), Array.getElem?_setIfInBounds_ne (by omega)]; exact g1
        · rw [Array.getElem?_setIfInBounds_ne (by omega), Array.getElem?_setIfInBounds_ne (by omega), Array.getElem?_setIfInBounds_ne (by omega)]; exact g2
        · rw [Array.getElem?_setIfInBounds_ne (by omega), Array.getElem?_setIfInBounds_ne (by omega), Array.getElem?_setIfInBounds_ne (by omega)]; exact g3
  · have hjn : j = n := by have := of_decide_eq_false e; omega
    have NL : NumL 1074 h1 (some ⟨r21, 0, none⟩) (xs.map fV) := by
      refine .inr ⟨r21, 0, cs, rfl, O, fun i hi => ?_⟩
      rw [List.length_map] at hi
      obtain ⟨neg', q', m', c2, e2', g1, g2, g3, g4, g5⟩ := hg i hi (by omega)
      refine ⟨neg', q', m', c2, e2', by rw [Nat.zero_add]; exact g1, by rw [Nat.zero_add]; exact g2, by rw [Nat.zero_add]; exact g3, ?_⟩
      rw [List.getElem_map]; exact g4
    refine K119n (ht.ext F1) NL (by rw [List.length_map]; exact hn) (by omega) (by decide) (fun v hv2 => ?_) fun neg q m c' e' h2 f2' fr rm le N => ⟨_, _, _, _, _, _, rfl, ?_⟩
    · obtain ⟨x, hx, rfl⟩ := List.mem_map.1 hv2
      exact Nat.le_trans (fV_bl (hfin x hx)) (by decide)
    have O2' : Own h2 r2 #[.bool false, .slice none 0 0, .int .i64 0] := ((O2.ext f21).fr F (by omega)).ext f2'
    have sF := F1.size
    have l2 : r2 < h1.size := ((O2.ext f21).fr F (show ¬ r2 = r21 by omega)).lt
    refine ⟨r2, 0, rfl, O2'.stC (by simp) rfl fun oa fa => oa.stC (by simp) rfl fun ob fb => ob.stC (by simp) rfl fun oc fc => ⟨r2, 0, rfl, _, oc.cell _, _, _, _, oc.cell _, _, oc.cell _, ?_⟩⟩
    have fabc := Fr.trans (S := fun x => x = r2) (Fr.trans (S := fun x => x = r2) fa fb fun _ _ e => e) fc fun _ _ e => e
    exact H1 hv neg q m c' e' _ (Fr.trans (Ext.trans F1 f2') fabc fun x hx e => by omega) (fr.mono sF) ((rm.fr fabc fun b k1 k2 => by omega).mono fun b k => by omega) le (N.fr fabc fun b o e k => by have := fr b o e; omega)
end Go.Proofs
set_option linter.unusedVariables false
namespace Go.Proofs
open Go Go.Eng
variable {B : World} {R : Ending → Heap → Prop} {h : Heap}
theorem yes {b : Bool} {X Y : Prop} (hb : b = true) (x : X) : (b = true → X) ∧ (b = false → Y) := ⟨fun _ => x, fun e => by rw [hb] at e; cases e⟩
theorem nope {b : Bool} {X Y : Prop} (hb : b = false) (y : Y) : (b = true → X) ∧ (b = false → Y) := ⟨fun e => (by rw [hb] at e; cases e), fun _ => y⟩
end Go.Proofs
set_option linter.unusedVariables false
namespace Go.Proofs
open Go Go.Eng
variable {B : World} {R : Ending → Heap → Prop} {h : Heap}
end Go.Proofs
