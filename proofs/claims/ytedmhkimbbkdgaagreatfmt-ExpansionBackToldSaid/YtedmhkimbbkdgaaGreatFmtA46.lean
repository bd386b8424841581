import Derived.Test.YtedmhkimbbkdgaaGreatFmtA24
import Derived.Test.YtedmhkimbbkdgaaGreatFmtA22
import Derived.Test.YtedmhkimbbkdgaaGreatFmtA35
/- Here stand lemmas: dyadic.Sub and dyadic.Sign. -/
set_option linter.unusedVariables false
set_option linter.unusedVariables false
namespace Go.Proofs
open Go Go.Eng
variable {B : World} {R : Ending → Heap → Prop} {h : Heap}
/-- dyadic.Sub. -/
theorem K44 {K n c n2 c2 : Nat} {neg neg2 : Bool} {p p2 : Option Addr} {e e2 v w : Int} (ht : TabH h) (N1 : NumS K h neg p n e v) (N2 : NumS K h neg2 p2 n2 e2 w) (hK : K ≤ 1048576) (hv : bl v.natAbs ≤ 50000) (hw : bl w.natAbs ≤ 50000)
    (H : ∀ neg' p' n' c' e' h', Ext h h' → Fresh h p' → NumS K h' neg' p' n' e' (v - w) → R (.returned (.tuple #[.agg #[.bool neg', .slice p' n' c', .int .i64 e'], .int .i64 (0 : Int)])) h') :
    Ent Tryz.prog B 19 #[.agg #[.bool neg, .slice p n c, .int .i64 e], .agg #[.bool neg2, .slice p2 n2 c2, .int .i64 e2]] R h := by
  refine F44_ok _ _ _ _ _ _ _ _ _ _ (alK fun r7 h8 e7 f7 o7 z7 => alK fun r9 h10 e9 f9 o9 z9 => alK fun r11 h12 e11 f11 o11 z11 => alK fun r13 h14 e13 f13 o13 z13 => ?_)
  have O7 := ((o7.ext f9).ext f11).ext f13
  have O9 := (o9.ext f11).ext f13
  refine ⟨r7, 0, rfl, _, O7.cell _, _, _, _, O7.cell _, _, O7.cell _, r9, 0, rfl, _, O9.cell _, _, _, _, O9.cell _, _, O9.cell _, alK fun r23 h24 e23 f23 o23 z23 => ?_⟩
  have F := Ext.trans f7 (Ext.trans f9 (Ext.trans f11 (Ext.trans f13 f23)))
  refine K67 (numL2 o23 (N1.ext F) (N2.ext F)) rfl (by decide) fun xs h26 f26 X => ⟨_, _, _, rfl, ?_⟩
  obtain ⟨x0, x1, rfl⟩ := two_of X.len
  obtain ⟨cs, Ob, hc⟩ := X.own
  obtain ⟨c10, c11⟩ := hc 1 (by simp)
  obtain ⟨⟨I0, y1, y2, y3, y5⟩, b0, b1⟩ := X.at_ 0 (by simp) (by simp)
  obtain ⟨⟨I1, w1, w2, w3, w5⟩, d0, d1⟩ := X.at_ 1 (by simp) (by simp)
  obtain ⟨a1, a2, a3, a4⟩ := X.apart 0 1 (by decide) (by simp)
  simp only [List.getElem_cons_zero, List.getElem_cons_succ] at c10 c11 I0 y1 y2 y3 y5 b0 b1 I1 w1 w2 w3 w5 d0 d1 a1 a2 a3 a4
  refine ⟨h24.size, 0, rfl, by decide, by decide, h24.size, _, rfl, h24.size, _, rfl, _, by rw [Ob.cell]; exact c10, h24.size, 0, rfl, by decide, by decide, h24.size, _, rfl, h24.size, _, rfl, _, by rw [Ob.cell]; exact c10, ?_⟩
  refine K74i I1 fun q' h53 f53 d53 I53 => ⟨_, rfl, ?_⟩
  have l1 := I1.lt
  have lq := I1.lq
  have lb := Ob.lt
  have nS : ∀ x, x < x1.r → x < x1.q → ¬ (x = x1.r ∨ Rm x1.r x1.q x) := fun x h1 h2 hh => by
    rcases hh with hh | hh
    · omega
    · have := hh.1; omega
  have hq' : x1.r ≤ q' ∨ x1.q ≤ q' := by
    rcases d53 with e | e | e
    · omega
    · have := e.1; omega
    · omega
  have X' : ExL K h53 h24.size [x0, ⟨x1.r, q', -x1.m, x1.e⟩] [v, -w] := by
    refine ⟨rfl, ⟨cs, Ob.fr f53 (nS _ d0 d1), fun i hi => ?_⟩, fun i hi hv => ?_, fun i j hij hj => ?_⟩
    · have hi' : i < 2 := hi
      rcases (by omega : i = 0 ∨ i = 1) with rfl | rfl
      · exact hc 0 (by simp)
      · exact hc 1 (by simp)
    · have hi' : i < 2 := hi
      rcases (by omega : i = 0 ∨ i = 1) with rfl | rfl
      · exact ⟨⟨I0.fr f53 (nS _ a1 a3) (nS _ a2 a4), y1, y2, y3, y5⟩, b0, b1⟩
      · refine ⟨⟨I53, w1, w2, ?_, ?_⟩, d0, by show h24.size < q'; rcases hq' with e | e <;> omega⟩
        · show -w = -x1.m * 2 ^ (x1.e + (K : Int)).toNat
          rw [Int.neg_mul, ← w3]
        · show -x1.m = 0 ∨ (-x1.m).natAbs % 2 = 1
          rw [Int.natAbs_neg]; omega
    · have hj' : j < 2 := hj
      have hi0 : i = 0 := by omega
      have hj1 : j = 1 := by omega
      subst hi0 hj1
      exact ⟨a1, a2, by show x0.r < q'; rcases hq' with e | e <;> omega, by show x0.q < q'; rcases hq' with e | e <;> omega⟩
  have hw' : bl (-w).natAbs ≤ 50000 := by rw [Int.natAbs_neg]; exact hw
  refine K66 X' rfl (by decide) hK (fun i _ => Nat.le_trans (take2_bl hv hw' i) (by decide)) (fun x hx => ?_) fun r q m e' h64 f64 I he hs => ⟨_, _, rfl, ?_⟩
  · rcases List.mem_cons.1 hx with e | hx
    · rw [e]; omega
    · rw [List.mem_singleton.1 hx, Int.natAbs_neg]; omega
  have hsum : [v, -w].sum = v - w := by simp; omega
  rw [hsum] at hs
  have s24 := F.size
  have F53 : Ext h h53 := Fr.trans (S := fun _ => False) (Ext.trans F f26) f53 fun x hx k => nS x (by omega) (by omega) k
  have FF := Ext.trans F53 f64
  have o11b : Own h64 r11 #[.bool false, .slice none 0 0, .int .i64 0] := ((((o11.ext f13).ext f23).ext f26).fr f53 (nS _ (by omega) (by omega))).ext f64
  have o13b : Own h64 r13 #[.int .i64 0] := (((o13.ext f23).ext f26).fr f53 (nS _ (by omega) (by omega))).ext f64
  refine K65 (ht.ext FF) I he hs (by rw [Int.sub_eq_add_neg]; exact Nat.le_trans (bl_add hv hw') (by decide)) hK fun neg' p' n' c' e' h65 f65 fr65 N => ⟨_, _, _, _, _, rfl, ?_⟩
  have l11 := o11b.lt
  have l13 := o13b.lt
  refine numEnd (o11b.ext f65) (o13b.ext f65) (by omega) fun h' f => ?_
  exact H neg' p' n' c' e' h' (Fr.trans (Ext.trans FF f65) f fun x hx e => by omega) (fr65.mono FF.size) (N.fr f fun b o e e3 => by have := fr65 b o e; omega)
/-- plumblaw7.same. -/
theorem K41 {K n c n2 c2 : Nat} {neg neg2 : Bool} {p p2 : Option Addr} {e e2 v w : Int} (N1 : NumS K h neg p n e v) (N2 : NumS K h neg2 p2 n2 e2 w) (hK : K ≤ 1048576) (hv : bl v.natAbs ≤ 50000) (hw : bl w.natAbs ≤ 50000) (hvw : v = w)
    (H : ∀ h', Ext h h' → R (.returned (.bool true)) h') : Ent Tryz.prog B 8 #[.agg #[.bool neg, .slice p n c, .int .i64 e], .agg #[.bool neg2, .slice p2 n2 c2, .int .i64 e2]] R h := by
  refine F41_ok _ _ _ _ _ _ _ _ _ _ (alK fun r7 h8 e7 f7 o7 z7 => alK fun r9 h10 e9 f9 o9 z9 => ?_)
  have O7 := o7.ext f9
  have F := Ext.trans f7 f9
  refine ⟨r7, 0, rfl, _, O7.cell _, _, _, _, O7.cell _, _, O7.cell _, r9, 0, rfl, _, o9.cell _, _, _, _, o9.cell _, _, o9.cell _, K28 (N1.ext F) (N2.ext F) hK hv hw fun h' f => ⟨_, _, rfl, ?_⟩⟩
  have e0 : (v - w).sign = 0 := by rw [hvw, Int.sub_self]; rfl
  rw [e0]
  exact H h' (Ext.trans F f)
/-- A number laid into a variable of its own. -/
theorem lay3 {h : Heap} {neg : Bool} {q : Option Addr} {m c : Nat} {e : Int} {K : Nat → Heap → Prop} (k : ∀ r h', Ext h h' → h.size ≤ r → Own h' r #[.bool neg, .slice q m c, .int .i64 e] → K r h') :
    alW h (.cells #[.bool false, .slice none 0 0, .int .i64 0] 27) fun r h1 => isP (some ⟨r, 0, none⟩) fun b o => stC h1 b o (.bool neg) fun h2 => stC h2 b (o + 1) (.slice q m c) fun h3 => stC h3 b (o + 1 + 1) (.int .i64 e) fun h4 => K r h4 := by
  refine alK fun r h1 e1 f1 o1 z1 => ⟨r, 0, rfl, o1.stC (by simp) rfl fun oa fa => oa.stC (by simp) rfl fun ob fb => ob.stC (by simp) rfl fun oc fc => ?_⟩
  have fabc := Fr.trans (S := fun x => x = r) (Fr.trans (S := fun x => x = r) fa fb fun _ _ e => e) fc fun _ _ e => e
  exact k r _ (Fr.trans (S := fun _ => False) f1 fabc fun x hx e => by omega) (by omega) oc
end Go.Proofs
