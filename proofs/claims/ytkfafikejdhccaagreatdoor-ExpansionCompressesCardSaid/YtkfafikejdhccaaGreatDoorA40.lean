import Derived.Test.YtkfafikejdhccaaGreatDoorA37
import Derived.Test.YtkfafikejdhccaaGreatDoorA38
import Derived.Test.YtkfafikejdhccaaGreatDoorA39
/- Here stand lemmas: sums of expansions. -/
set_option linter.unusedVariables false
set_option linter.unusedVariables false
namespace Go.Proofs
open Go Go.Eng
variable {B : World} {R : Ending → Heap → Prop} {h : Heap}
/-- dyadic.Sub. -/
theorem K44 {K n c n2 c2 : Nat} {neg neg2 : Bool} {p p2 : Option Addr} {e e2 v w : Int} (ht : TabH h) (N1 : NumS K h neg p n e v) (N2 : NumS K h neg2 p2 n2 e2 w) (hK : K ≤ 1048576) (hv : bl v.natAbs ≤ 50000) (hw : bl w.natAbs ≤ 50000)
    (H : ∀ neg' p' n' c' e' h', Ext h h' → Fresh h p' → NumS K h' neg' p' n' e' (v - w) → R (.returned (.tuple #[.agg #[.bool neg', .slice p' n' c', .int .i64 e'], .int .i64 (0 : Int)])) h') :
    Ent Tryz.prog B 44 #[.agg #[.bool neg, .slice p n c, .int .i64 e], .agg #[.bool neg2, .slice p2 n2 c2, .int .i64 e2]] R h := by
  refine F44_ok _ _ _ _ _ _ _ _ _ _ (alK fun r7 h8 e7 f7 o7 z7 => alK fun r9 h10 e9 f9 o9 z9 => alK fun r11 h12 e11 f11 o11 z11 => alK fun r13 h14 e13 f13 o13 z13 => ?_)
  have O7 := ((o7.ext f9).ext f11).ext f13
  have O9 := (o9.ext f11).ext f13
  refine ⟨r7, 0, rfl, _, O7.cell _, _, _, _, O7.cell _, _, O7.cell _, r9, 0, rfl, _, O9.cell _, _, _, _, O9.cell _, _, O9.cell _, alK fun r23 h24 e23 f23 o23 z23 => ?_⟩
  have F := Ext.trans f7 (Ext.trans f9 (Ext.trans f11 (Ext.trans f13 f23)))
  refine K67 (numL2 o23 (N1.ext F) (N2.ext F)) rfl (by decide) fun xs h26 f26 X => ⟨_, _, _, rfl, ?_⟩
  obtain ⟨x0, x1, rfl⟩ := two_of X.len
  obtain ⟨cs, Ob, hc⟩ := X.own
  obtain ⟨c10, c11⟩ := hc 1 (by simp)
  obtain ⟨⟨I0, y1, y2, y3, y5⟩, b0, b1⟩ := X.at_ 0 (by simp) (by simp)
  obtain ⟨⟨I1, w1, w2, w3, w5⟩, d0, d1⟩ := X.at_ 1 (by simp) (by simp)
  obtain ⟨a1, a2, a3, a4⟩ := X.apart 0 1 (by decide) (by simp)
  simp only [List.getElem_cons_zero, List.getElem_cons_succ] at c10 c11 I0 y1 y2 y3 y5 b0 b1 I1 w1 w2 w3 w5 d0 d1 a1 a2 a3 a4
  refine ⟨h24.size, 0, rfl, by decide, by decide, h24.size, _, rfl, h24.size, _, rfl, _, by rw [Ob.cell]; exact c10, h24.size, 0, rfl, by decide, by decide, h24.size, _, rfl, h24.size, _, rfl, _, by rw [Ob.cell]; exact c10, ?_⟩
  refine K74i I1 fun q' h53 f53 d53 I53 => ⟨_, rfl, ?_⟩
  have l1 := I1.lt
  have lq := I1.lq
  have lb := Ob.lt
  have nS : ∀ x, x < x1.r → x < x1.q → ¬ (x = x1.r ∨ Rm x1.r x1.q x) := fun x h1 h2 hh => by
    rcases hh with hh | hh
    · omega
    · have := hh.1; omega
  have hq' : x1.r ≤ q' ∨ x1.q ≤ q' := by
    rcases d53 with e | e | e
    · omega
    · have := e.1; omega
    · omega
  have X' : ExL K h53 h24.size [x0, ⟨x1.r, q', -x1.m, x1.e⟩] [v, -w] := by
    refine ⟨rfl, ⟨cs, Ob.fr f53 (nS _ d0 d1), fun i hi => ?_⟩, fun i hi hv => ?_, fun i j hij hj => ?_⟩
    · have hi' : i < 2 := hi
      rcases (by omega : i = 0 ∨ i = 1) with rfl | rfl
      · exact hc 0 (by simp)
      · exact hc 1 (by simp)
    · have hi' : i < 2 := hi
      rcases (by omega : i = 0 ∨ i = 1) with rfl | rfl
      · exact ⟨⟨I0.fr f53 (nS _ a1 a3) (nS _ a2 a4), y1, y2, y3, y5⟩, b0, b1⟩
      · refine ⟨⟨I53, w1, w2, ?_, ?_⟩, d0, by show h24.size < q'; rcases hq' with e | e <;> omega⟩
        · show -w = -x1.m * 2 ^ (x1.e + (K : Int)).toNat
          rw [Int.neg_mul, ← w3]
        · show -x1.m = 0 ∨ (-x1.m).natAbs % 2 = 1
          rw [Int.natAbs_neg]; omega
    · have hj' : j < 2 := hj
      have hi0 : i = 0 := by omega
      have hj1 : j = 1 := by omega
      subst hi0 hj1
      exact ⟨a1, a2, by show x0.r < q'; rcases hq' with e | e <;> omega, by show x0.q < q'; rcases hq' with e | e <;> omega⟩
  have hw' : bl (-w).natAbs ≤ 50000 := by rw [Int.natAbs_neg]; exact hw
  refine K66 X' rfl (by decide) hK (fun i _ => Nat.le_trans (take2_bl hv hw' i) (by decide)) (fun x hx => ?_) fun r q m e' h64 f64 I he hs => ⟨_, _, rfl, ?_⟩
  · rcases List.mem_cons.1 hx with e | hx
    · rw [e]; omega
    · rw [List.mem_singleton.1 hx, Int.natAbs_neg]; omega
  have hsum : [v, -w].sum = v - w := by simp; omega
  rw [hsum] at hs
  have s24 := F.size
  have F53 : Ext h h53 := Fr.trans (S := fun _ => False) (Ext.trans F f26) f53 fun x hx k => nS x (by omega) (by omega) k
  have FF := Ext.trans F53 f64
  have o11b : Own h64 r11 #[.bool false, .slice none 0 0, .int .i64 0] := ((((o11.ext f13).ext f23).ext f26).fr f53 (nS _ (by omega) (by omega))).ext f64
  have o13b : Own h64 r13 #[.int .i64 0] := (((o13.ext f23).ext f26).fr f53 (nS _ (by omega) (by omega))).ext f64
  refine K65 (ht.ext FF) I he hs (by rw [Int.sub_eq_add_neg]; exact Nat.le_trans (bl_add hv hw') (by decide)) hK fun neg' p' n' c' e' h65 f65 fr65 N => ⟨_, _, _, _, _, rfl, ?_⟩
  have l11 := o11b.lt
  have l13 := o13b.lt
  refine numEnd (o11b.ext f65) (o13b.ext f65) (by omega) fun h' f => ?_
  exact H neg' p' n' c' e' h' (Fr.trans (Ext.trans FF f65) f fun x hx e => by omega) (fr65.mono FF.size) (N.fr f fun b o e e3 => by have := fr65 b o e; omega)
/-- plumblaw7.same. -/
theorem K41 {K n c n2 c2 : Nat} {neg neg2 : Bool} {p p2 : Option Addr} {e e2 v w : Int} (N1 : NumS K h neg p n e v) (N2 : NumS K h neg2 p2 n2 e2 w) (hK : K ≤ 1048576) (hv : bl v.natAbs ≤ 50000) (hw : bl w.natAbs ≤ 50000) (hvw : v = w)
    (H : ∀ h', Ext h h' → R (.returned (.bool true)) h') : Ent Tryz.prog B 41 #[.agg #[.bool neg, .slice p n c, .int .i64 e], .agg #[.bool neg2, .slice p2 n2 c2, .int .i64 e2]] R h := by
  refine F41_ok _ _ _ _ _ _ _ _ _ _ (alK fun r7 h8 e7 f7 o7 z7 => alK fun r9 h10 e9 f9 o9 z9 => ?_)
  have O7 := o7.ext f9
  have F := Ext.trans f7 f9
  refine ⟨r7, 0, rfl, _, O7.cell _, _, _, _, O7.cell _, _, O7.cell _, r9, 0, rfl, _, o9.cell _, _, _, _, o9.cell _, _, o9.cell _, K28 (N1.ext F) (N2.ext F) hK hv hw fun h' f => ⟨_, _, rfl, ?_⟩⟩
  have e0 : (v - w).sign = 0 := by rw [hvw, Int.sub_self]; rfl
  rw [e0]
  exact H h' (Ext.trans F f)
/-- A number laid into a variable of its own. -/
theorem lay3 {h : Heap} {neg : Bool} {q : Option Addr} {m c : Nat} {e : Int} {K : Nat → Heap → Prop} (k : ∀ r h', Ext h h' → h.size ≤ r → Own h' r #[.bool neg, .slice q m c, .int .i64 e] → K r h') :
    alW h (.cells #[.bool false, .slice none 0 0, .int .i64 0] 29) fun r h1 => isP (some ⟨r, 0, none⟩) fun b o => stC h1 b o (.bool neg) fun h2 => stC h2 b (o + 1) (.slice q m c) fun h3 => stC h3 b (o + 1 + 1) (.int .i64 e) fun h4 => K r h4 := by
  refine alK fun r h1 e1 f1 o1 z1 => ⟨r, 0, rfl, o1.stC (by simp) rfl fun oa fa => oa.stC (by simp) rfl fun ob fb => ob.stC (by simp) rfl fun oc fc => ?_⟩
  have fabc := Fr.trans (S := fun x => x = r) (Fr.trans (S := fun x => x = r) fa fb fun _ _ e => e) fc fun _ _ e => e
  exact k r _ (Fr.trans (S := fun _ => False) f1 fabc fun x hx e => by omega) (by omega) oc
/-- plumblaw7.value, of an expansion. -/
theorem K39 {p : Option Addr} {n c : Nat} {xs : List Int} (ht : TabH h) (I : IntsH h p xs) (hn : xs.length = n) (hv : validP xs = true)
    (H : ∀ neg q m c' e h', Ext h h' → Fresh h q → NumS 1074 h' neg q m e (xs.map fV).sum → R (.returned (.tuple #[.agg #[.bool neg, .slice q m c', .int .i64 e], .bool true])) h') : Ent Tryz.prog B 39 #[.slice p n c] R h := by
  refine F39_ok _ _ _ (alK fun r1 h1 e1 f1 o1 z1 => K95 (ht.ext f1) (I.ext f1) hn (fun _ neg q m c' e h2 f2 fr rm le N => ⟨_, _, _, _, _, _, rfl, ?_⟩) fun k => by rw [hv] at k; cases k)
  have F2 := Ext.trans f1 f2
  refine lay3 fun r3 h3 f3 hr3 O3 => ?_
  have F3 := Ext.trans F2 f3
  refine ⟨r3, 0, rfl, _, O3.cell _, _, _, _, O3.cell _, _, O3.cell _, yes (decide_eq_true rfl) (K37 (I.ext F3) hn ⟨_, rfl, same3 O3 Fr.rfl' (S := fun _ => False) id, ?_⟩)⟩
  rw [hv]
  have s1 := f1.size
  have s2 := f2.size
  have O1 := (o1.ext f2).ext f3
  refine ⟨r1, 0, rfl, O1.stC (by simp) rfl fun oa fa => oa.stC (by simp) rfl fun ob fb => ob.stC (by simp) rfl fun oc fc => ⟨r1, 0, rfl, _, oc.cell _, _, _, _, oc.cell _, _, oc.cell _, ?_⟩⟩
  have fabc := Fr.trans (S := fun x => x = r1) (Fr.trans (S := fun x => x = r1) fa fb fun _ _ e => e) fc fun _ _ e => e
  exact H neg q m c' e _ (Fr.trans (S := fun _ => False) F3 fabc fun x hx e => by omega) (fr.mono s1) ((N.ext f3).fr fabc fun b o e k => by have := fr b o e; omega)
end Go.Proofs
set_option linter.unusedVariables false
namespace Go.Proofs
open Go Go.Eng
variable {B : World} {R : Ending → Heap → Prop} {h : Heap}
theorem ansOf_ok {l : List Int} (h : l.length ≤ 4096) : ansOf (some l) = (l, 0) := if_pos h
theorem growAns_good {b : Nat} {es l : List Int} {q : Int} (G : Good b es) (hl : es.length ≤ 4000) (fq : isFin q = true) (e : growP [] q es = some l) : growAns es q = (l, 0) := by
  have hlen := growP_len e
  rw [List.length_nil] at hlen
  rw [growAns_ok (G.valid (by omega)) fq, growRef_eq, e, ansOf_ok (by omega)]
/-- plumblaw7.made. -/
theorem K38 {p : Option Addr} {n c : Nat} {xs : List Int} (lim : Nat) (ht : TabH h) (I : IntsH h p xs) (hn : xs.length = n) (hlim : lim ≤ 20)
    (H : ∀ q m c' es h', Ext h h' → Lj h h' q m c' es → Good (1130 + 30 * lim) es → es.length ≤ lim → R (.returned (.tuple #[.slice q m c', .bool true])) h') :
    Ent Tryz.prog B 38 #[.slice p n c, .int .i64 (lim : Int)] R h := by
  refine F38_ok _ _ _ _ ?_
  refine ⟨fun k vs h' => match vs with
    | [.slice p1 n1 c1, .int _ y, .slice z zn zc, .int _ i] => p1 = p ∧ n1 = n ∧ c1 = c ∧ y = (lim : Int) ∧ ∃ j : Nat, i = (j : Int) ∧ j ≤ lim ∧ k = lim - j ∧ Ext h h' ∧ ∃ es, Lj h h' z zn zc es ∧ Good (1130 + 30 * j) es ∧ es.length ≤ j
    | _ => False, lim, ⟨rfl, rfl, rfl, rfl, 0, rfl, by omega, by omega, Fr.rfl', [], Lj.nil, Good.nil, by simp⟩, ?_⟩
  rintro k h1 _ _ _ _ z zn zc _ ⟨rfl, rfl, rfl, rfl, j, rfl, hj, rfl, F, es, L, G, hes⟩ _
  have done : R (.returned (.tuple #[.slice z zn zc, .bool true])) h1 := H z zn zc es h1 F L (G.mono (by omega)) (by omega)
  refine ⟨fun e => ⟨fun e2 => ?_, fun _ => done⟩, fun _ => ⟨fun e => (by cases e), fun _ => done⟩⟩
  have hjn : j < xs.length := by have := of_decide_eq_true e; omega
  have hjl : j < lim := by have := of_decide_eq_true e2; omega
  refine (I.ext F).get hn hjn ((I.ext F).get hn hjn ⟨by decide, by decide, ?_⟩)
  rw [mid_bits (I.1 _ (List.getElem_mem hjn))]
  obtain ⟨m1, m2, m3⟩ := mid_law xs[j]
  have hp := p2le (a := 53 + 1077) (b := 1130 + 30 * j) (by omega)
  obtain ⟨l, l1, l2, l3, l4⟩ := grow_good G m2 (Nat.le_trans m3 hp) (by omega)
  refine K34 (ht.ext F) L.ints L.len m1 ?_
  rw [growAns_good G (by omega) m2 l1]
  intro q' m' c' h2 f2 L2
  refine ⟨_, _, _, _, rfl, fun e3 => absurd e3 (by simp), fun _ => ⟨lim - (j + 1), by omega, rfl, rfl, rfl, rfl, j + 1, ?_, by omega, rfl, Ext.trans F f2, l, L2.base F.size, l2.mono (by omega), by omega⟩⟩
  rw [i64_in (by omega) (by omega)]; rfl
end Go.Proofs
set_option linter.unusedVariables false
namespace Go.Proofs
open Go Go.Eng
variable {B : World} {R : Ending → Heap → Prop} {h : Heap}
theorem Good.bl {b : Nat} {xs : List Int} (G : Good b xs) : Go.Eng.bl ((xs.map fV).sum).natAbs ≤ b + 1 + xs.length := by
  have := sum_bl (L := b + 1) (vs := xs.map fV) fun v hv => by
    obtain ⟨x, hx, rfl⟩ := List.mem_map.1 hv
    exact bl_le_iff.2 (Nat.lt_of_le_of_lt (G.fin x hx).2 (Nat.pow_lt_pow_right (by decide) (Nat.lt_succ_self b)))
  rw [List.length_map] at this
  exact this
end Go.Proofs
