import Derived.Test.YtkfafikejdhccaaGreatDoorA37
import Derived.Test.YtkfafikejdhccaaGreatDoorA38
import Derived.Test.YtkfafikejdhccaaGreatDoorA39
/- Here stand lemmas: sums of expansions. -/
set_option linter.unusedVariables false
set_option linter.unusedVariables false
namespace Go.Proofs
open Go Go.Eng
variable {B : World} {R : Ending → Heap → Prop} {h : Heap}
/-- plumblaw7.same. -/
theorem K41 {K n c n2 c2 : Nat} {neg neg2 : Bool} {p p2 : Option Addr} {e e2 v w : Int} (N1 : NumS K h neg p n e v) (N2 : NumS K h neg2 p2 n2 e2 w) (hK : K ≤ 1048576) (hv : bl v.natAbs ≤ 50000) (hw : bl w.natAbs ≤ 50000) (hvw : v = w)
    (H : ∀ h', Ext h h' → R (.returned (.bool true)) h') : Ent Tryz.prog B 41 #[.agg #[.bool neg, .slice p n c, .int .i64 e], .agg #[.bool neg2, .slice p2 n2 c2, .int .i64 e2]] R h := by
  refine F41_ok _ _ _ _ _ _ _ _ _ _ (alK fun r7 h8 e7 f7 o7 z7 => alK fun r9 h10 e9 f9 o9 z9 => ?_)
  have O7 := o7.ext f9
  have F := Ext.trans f7 f9
  refine ⟨r7, 0, rfl, _, O7.cell _, _, _, _, O7.cell _, _, O7.cell _, r9, 0, rfl, _, o9.cell _, _, _, _, o9.cell _, _, o9.cell _, K28 (N1.ext F) (N2.ext F) hK hv hw fun h' f => ⟨_, _, rfl, ?_⟩⟩
  have e0 : (v - w).sign = 0 := by rw [hvw, Int.sub_self]; rfl
  rw [e0]
  exact H h' (Ext.trans F f)
/-- A number laid into a variable of its own. -/
theorem lay3 {h : Heap} {neg : Bool} {q : Option Addr} {m c : Nat} {e : Int} {K : Nat → Heap → Prop} (k : ∀ r h', Ext h h' → h.size ≤ r → Own h' r #[.bool neg, .slice q m c, .int .i64 e] → K r h') :
    alW h (.cells #[.bool false, .slice none 0 0, .int .i64 0] 29) fun r h1 => isP (some ⟨r, 0, none⟩) fun b o => stC h1 b o (.bool neg) fun h2 => stC h2 b (o + 1) (.slice q m c) fun h3 => stC h3 b (o + 1 + 1) (.int .i64 e) fun h4 => K r h4 := by
  refine alK fun r h1 e1 f1 o1 z1 => ⟨r, 0, rfl, o1.stC (by simp) rfl fun oa fa => oa.stC (by simp) rfl fun ob fb => ob.stC (by simp) rfl fun oc fc => ?_⟩
  have fabc := Fr.trans (S := fun x => x = r) (Fr.trans (S := fun x => x = r) fa fb fun _ _ e => e) fc fun _ _ e => e
  exact k r _ (Fr.trans (S := fun _ => False) f1 fabc fun x hx e => by omega) (by omega) oc
/-- plumblaw7.value, of an expansion. -/
theorem K39 {p : Option Addr} {n c : Nat} {xs : List Int} (ht : TabH h) (I : IntsH h p xs) (hn : xs.length = n) (hv : validP xs = true)
    (H : ∀ neg q m c' e h', Ext h h' → Fresh h q → NumS 1074 h' neg q m e (xs.map fV).sum → R (.returned (.tuple #[.agg #[.bool neg, .slice q m c', .int .i64 e], .bool true])) h') : Ent Tryz.prog B 39 #[.slice p n c] R h := by
  refine F39_ok _ _ _ (alK fun r1 h1 e1 f1 o1 z1 => K95 (ht.ext f1) (I.ext f1) hn (fun _ neg q m c' e h2 f2 fr rm le N => ⟨_, _, _, _, _, _, rfl, ?_⟩) fun k => by rw [hv] at k; cases k)
  have F2 := Ext.trans f1 f2
  refine lay3 fun r3 h3 f3 hr3 O3 => ?_
  have F3 := Ext.trans F2 f3
  refine ⟨r3, 0, rfl, _, O3.cell _, _, _, _, O3.cell _, _, O3.cell _, yes (decide_eq_true rfl) (K37 (I.ext F3) hn ⟨_, rfl, same3 O3 Fr.rfl' (S := fun _ => False) id, ?_⟩)⟩
  rw [hv]
  have s1 := f1.size
  have s2 := f2.size
  have O1 := (o1.ext f2).ext f3
  refine ⟨r1, 0, rfl, O1.stC (by simp) rfl fun oa fa => oa.stC (by simp) rfl fun ob fb => ob.stC (by simp) rfl fun oc fc => ⟨r1, 0, rfl, _, oc.cell _, _, _, _, oc.cell _, _, oc.cell _, ?_⟩⟩
  have fabc := Fr.trans (S := fun x => x = r1) (Fr.trans (S := fun x => x = r1) fa fb fun _ _ e => e) fc fun _ _ e => e
  exact H neg q m c' e _ (Fr.trans (S := fun _ => False) F3 fabc fun x hx e => by omega) (fr.mono s1) ((N.ext f3).fr fabc fun b o e k => by have := fr b o e; omega)
end Go.Proofs
set_option linter.unusedVariables false
namespace Go.Proofs
open Go Go.Eng
variable {B : World} {R : Ending → Heap → Prop} {h : Heap}
theorem ansOf_ok {l : List Int} (h : l.length ≤ 4096) : ansOf (some l) = (l, 0) := if_pos h
theorem growAns_good {b : Nat} {es l : List Int} {q : Int} (G : Good b es) (hl : es.length ≤ 4000) (fq : isFin q = true) (e : growP [] q es = some l) : growAns es q = (l, 0) := by
  have hlen := growP_len e
  rw [List.length_nil] at hlen
  rw [growAns_ok (G.valid (by omega)) fq, growRef_eq, e, ansOf_ok (by omega)]
end Go.Proofs
set_option linter.unusedVariables false
namespace Go.Proofs
open Go Go.Eng
variable {B : World} {R : Ending → Heap → Prop} {h : Heap}
theorem Good.bl {b : Nat} {xs : List Int} (G : Good b xs) : Go.Eng.bl ((xs.map fV).sum).natAbs ≤ b + 1 + xs.length := by
  have := sum_bl (L := b + 1) (vs := xs.map fV) fun v hv => by
    obtain ⟨x, hx, rfl⟩ := List.mem_map.1 hv
    exact bl_le_iff.2 (Nat.lt_of_le_of_lt (G.fin x hx).2 (Nat.pow_lt_pow_right (by decide) (Nat.lt_succ_self b)))
  rw [List.length_map] at this
  exact this
end Go.Proofs
