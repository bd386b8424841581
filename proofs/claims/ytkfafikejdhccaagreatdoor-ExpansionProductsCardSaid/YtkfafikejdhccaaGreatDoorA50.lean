import Derived.Test.YtkfafikejdhccaaGreatDoorA43
import Derived.Test.YtkfafikejdhccaaGreatDoorA46
import Derived.Test.YtkfafikejdhccaaGreatDoorA48
import Derived.Test.YtkfafikejdhccaaGreatDoorA49
/- Here stand lemmas: the walk of ExpansionProducts. -/
set_option linter.unusedVariables false
set_option linter.unusedVariables false
namespace Go.Proofs
open Go Go.Eng
variable {B : World} {R : Ending → Heap → Prop} {h : Heap}
theorem mid_dv (b : Int) : Dv 822 (fV (midP b)) := by
  have hT := fT_lt b
  obtain ⟨k, hk, hk2⟩ : ∃ k, (b / 4503599627370496 % 256).toNat = k ∧ k < 256 := ⟨_, rfl, by omega⟩
  unfold midP
  rw [hk]
  have e : (823 + k) * 4503599627370496 + fT b = (822 + k) * 4503599627370496 + (4503599627370496 + fT b) := by omega
  rw [e]
  obtain ⟨f1, f2⟩ := fV_pat (decide (b < 0)) (j := 822 + k) (k := 4503599627370496 + fT b) (by omega) (by omega) (by omega)
  rw [f2]
  exact (Dv.of_abs (m := 4503599627370496 + fT b) (k := 822 + k) (by rw [signed_abs])).mono (by omega)
/-- plumblaw7.made, of few. -/
theorem K38d {p : Option Addr} {n c : Nat} {xs : List Int} (lim : Nat) (ht : TabH h) (I : IntsH h p xs) (hn : xs.length = n) (hlim : lim ≤ 6)
    (H : ∀ q m c' es h', Ext h h' → Lj h h' q m c' es → Good (53 + 1077 + 4 * lim) es → MulD 822 es → es.length ≤ lim → R (.returned (.tuple #[.slice q m c', .bool true])) h') :
    Ent Tryz.prog B 38 #[.slice p n c, .int .i64 (lim : Int)] R h := by
  refine F38_ok _ _ _ _ ?_
  refine ⟨fun k vs h' => match vs with
    | [.slice p1 n1 c1, .int _ y, .slice z zn zc, .int _ i] => p1 = p ∧ n1 = n ∧ c1 = c ∧ y = (lim : Int) ∧ ∃ j : Nat, i = (j : Int) ∧ j ≤ lim ∧ k = lim - j ∧ Ext h h' ∧ ∃ es, Lj h h' z zn zc es ∧ Good (53 + 1077 + 4 * j) es ∧ MulD 822 es ∧ es.length ≤ j
    | _ => False, lim, ⟨rfl, rfl, rfl, rfl, 0, rfl, by omega, by omega, Fr.rfl', [], Lj.nil, Good.nil, fun x hx => (by cases hx), by simp⟩, ?_⟩
  rintro k h1 _ _ _ _ z zn zc _ ⟨rfl, rfl, rfl, rfl, j, rfl, hj, rfl, F, es, L, G, D, hes⟩ _
  have done : R (.returned (.tuple #[.slice z zn zc, .bool true])) h1 := H z zn zc es h1 F L (G.mono (by omega)) D (by omega)
  refine ⟨fun e => ⟨fun e2 => ?_, fun _ => done⟩, fun _ => ⟨fun e => (by cases e), fun _ => done⟩⟩
  have hjn : j < xs.length := by have := of_decide_eq_true e; omega
  have hjl : j < lim := by have := of_decide_eq_true e2; omega
  refine (I.ext F).get hn hjn ((I.ext F).get hn hjn ⟨by decide, by decide, ?_⟩)
  rw [mid_bits (I.1 _ (List.getElem_mem hjn))]
  obtain ⟨m1, m2, m3⟩ := mid_law xs[j]
  have hp := p2le (a := 53 + 1077) (b := 53 + 1077 + 4 * j) (by omega)
  have e4 : (2 : Nat) ^ 4 = 16 := by decide
  obtain ⟨l, l1, l2, l3, l4, l5⟩ := grow_good2 (c := 4) G m2 (Nat.le_trans m3 hp) (by omega) (by omega)
  refine K34 (ht.ext F) L.ints L.len m1 ?_
  rw [growAns_good G (by omega) m2 l1]
  intro q' m' c' h2 f2 L2
  refine ⟨_, _, _, _, rfl, fun e3 => absurd e3 (by simp), fun _ => ⟨lim - (j + 1), by omega, rfl, rfl, rfl, rfl, j + 1, ?_, by omega, rfl, Ext.trans F f2, l, L2.base F.size, l2.mono (by omega), l5 822 (mid_dv _) D, by omega⟩⟩
  rw [i64_in (by omega) (by omega)]; rfl
/-- plumblaw7.ExpansionProducts. -/
theorem K10 {p q : Option Addr} {n c m d : Nat} (ht : TabH h) (hk : TabK h) (S : SlH h p n c) (S2 : SlH h q m d) (H : ∀ h', Ext h h' → R (.returned (.bool true)) h') : Ent Tryz.prog B 10 #[.slice p n c, .slice q m d] R h := by
  obtain ⟨xs, I, hn, -, -⟩ := S
  obtain ⟨ys, J, hm, -, -⟩ := S2
  obtain ⟨W, hW⟩ : ∃ W, W = 1074 := ⟨_, rfl⟩
  refine F10_ok _ _ _ _ _ _ (K38d 6 ht I hn (by decide) fun p1 n1 c1 es h1 f1 L1 G1 D1 le1 => ⟨_, _, _, _, rfl, K38d 6 (ht.ext f1) (J.ext f1) hm (by decide) fun p2 n2 c2 fs h2 f2 L2 G2 D2 le2 => ⟨_, _, _, _, rfl, ?_⟩⟩)
  have F2 := Ext.trans f1 f2
  refine K29 (ht.ext F2) fun h3 f3 => ⟨_, rfl, nope rfl (nope rfl (nope rfl ?_))⟩
  have F3 := Ext.trans F2 f3
  have M1 := (L1.ext f2).ext f3
  have M2 := L2.ext f3
  have v1 := G1.valid (by omega)
  have v2 := G2.valid (by omega)
  obtain ⟨e, he⟩ : ∃ e, e = 53 + 1077 + 4 * 6 := ⟨_, rfl⟩
  rw [← he] at G1 G2
  obtain ⟨ps, ps1, ps2, ps3, ps4⟩ := prod_good he G1 D1 le1 hW (ys := fs) (hs := []) (b := 1240) Good.nil (by omega) (fun y hy => ⟨(G2.fin y hy).1, (G2.fin y hy).2, G2.ne y hy, D2 y hy⟩) (by rw [List.length_nil]; omega) (by omega)
  rw [List.length_nil, Nat.zero_add] at ps4
  rw [List.map_nil, List.sum_nil, Int.zero_mul, Int.zero_add] at ps3
  have b1 := G1.bl
  have b2 := G2.bl
  have g1 := L1.len
  have g2 := L2.len
  refine K39 (ht.ext F3) M1.ints M1.len v1 fun s1 q1 m1 d1 e1 h4 f4 fr4 N1 => ⟨_, _, _, _, _, _, rfl, lay3 fun r5 h5 f5 hr5 O5 => ?_⟩
  have f45 := Ext.trans f4 f5
  have F5 := Ext.trans F3 f45
  have M1 := M1.ext f45
  have M2 := M2.ext f45
  have N1 := N1.ext f5
  refine K39 (ht.ext F5) M2.ints M2.len v2 fun s2 q2 m2 d2 e2 h6 f6 fr6 N2 => ⟨_, _, _, _, _, _, rfl, lay3 fun r7 h7 f7 hr7 O7 => ?_⟩
  have f67 := Ext.trans f6 f7
  have F7 := Ext.trans F5 f67
  have M1 := M1.ext f67
  have M2 := M2.ext f67
  have N1 := N1.ext f67
  have N2 := N2.ext f7
  have O5 := O5.ext f67
  have eP : prodAns es fs = (ps, 0) := by
    unfold prodAns
    rw [v1, v2, ps1, ansOf_ok (by omega)]; rfl
  have hnm : n1 * n2 ≤ 6 * 6 := Nat.mul_le_mul (by omega) (by omega)
  refine K40 (ht.ext F7) M1.ints M1.len M1.le M2.ints M2.len (by omega) ?_
  rw [eP]
  intro p8 n8 c8 h8 f8 L8
  have L8 : Lj h7 h8 p8 n8 c8 ps := L8
  refine ⟨_, _, _, _, rfl, ?_⟩
  have F8 := Ext.trans F7 f8
  have M1 := M1.ext f8
  have M2 := M2.ext f8
  have N1 := N1.ext f8
  have N2 := N2.ext f8
  have O5 := O5.ext f8
  have O7 := O7.ext f8
  have g8 := L8.len
  refine K39 (ht.ext F8) L8.ints L8.len (ps2.valid (by omega)) fun s3 q3 m3 d3 e3 h9 f9 fr9 N3 => ⟨_, _, _, _, _, _, rfl, lay3 fun r10 h10 f10 hr10 O10 => ?_⟩
  have f910 := Ext.trans f9 f10
  have F10 := Ext.trans F8 f910
  have M1 := M1.ext f910
  have M2 := M2.ext f910
  have N1 := N1.ext f910
  have N2 := N2.ext f910
  have N3 := N3.ext f10
  have O5 := O5.ext f910
  have O7 := O7.ext f910
  refine ⟨r5, 0, rfl, _, O5.cell _, _, _, _, O5.cell _, _, O5.cell _, r7, 0, rfl, _, O7.cell _, _, _, _, O7.cell _, _, O7.cell _, ?_⟩
  refine K23g (ht.ext F10) (hk.ext F10) N1 N2 (by decide) (by omega) (by omega) fun s4 q4 m4 d4 e4 h11 f11 fr11 N4 => ⟨_, _, _, _, _, _, rfl, lay3 fun r12 h12 f12 hr12 O12 => nope rfl (nope rfl ?_)⟩
  have f1112 := Ext.trans f11 f12
  have F12 := Ext.trans F10 f1112
  have M1 := M1.ext f1112
  have M2 := M2.ext f1112
  have N1 := N1.ext f1112
  have N3 := (N3.ext f1112).up W
  have N4 := N4.ext f12
  rw [show 1074 + 1074 = 1074 + W by omega] at N4
  have O5 := O5.ext f1112
  have O10 := O10.ext f1112
  have b4 := bl_mul (Nat.le_trans b1 (show _ ≤ 2400 by omega)) (Nat.le_trans b2 (show _ ≤ 2400 by omega))
  refine ⟨r10, 0, rfl, _, O10.cell _, _, _, _, O10.cell _, _, O10.cell _, r12, 0, rfl, _, O12.cell _, _, _, _, O12.cell _, _, O12.cell _, ?_⟩
  refine K41 N3 N4 (by omega) (by rw [ps3]; omega) (by omega) ps3 fun h13 f13 => ⟨_, rfl, nope rfl ?_⟩
  have F13 := Ext.trans F12 f13
  have M1 := M1.ext f13
  have M2 := M2.ext f13
  have N1 := N1.ext f13
  have O5 := O5.ext f13
  refine ⟨fun e0 => ?_, fun e0 => ?_⟩
  · have hz : n8 = 0 := by have := of_decide_eq_true e0; omega
    subst hz
    exact H h13 F13
  have h0 : 0 < fs.length := by have := of_decide_eq_false e0; omega
  have hm0 : fs[0] ∈ fs := List.getElem_mem h0
  obtain ⟨t1, t2, t3, t4⟩ := scale_good he G1 D1 le1 (G2.fin _ hm0).1 (G2.fin _ hm0).2 (G2.ne _ hm0) (D2 _ hm0) hW
  have t5 := t4.1
  have eS : scaleAns es fs[0] = (t1, 0) := by
    unfold scaleAns
    rw [v1, (G2.fin _ hm0).1]
    show ansOf (scaleTop es fs[0]) = _
    rw [t2, ansOf_ok (by omega)]
  refine M2.ints.get (j := 0) M2.len h0 ?_
  refine K35 (ht.ext F13) M1.ints M1.len M1.le (M2.all _ hm0) ?_
  rw [eS]
  intro p14 n14 c14 h14 f14 L14
  have L14 : Lj h13 h14 p14 n14 c14 t1 := L14
  refine ⟨_, _, _, _, rfl, ?_⟩
  have F14 := Ext.trans F13 f14
  refine K39 (ht.ext F14) L14.ints L14.len (t3.valid (by omega)) fun s5 q5 m5 d5 e5 h15 f15 fr15 N5 => ⟨_, _, _, _, _, _, rfl, lay3 fun r16 h16 f16 hr16 O16 => ?_⟩
  have f1416 := Ext.trans f14 (Ext.trans f15 f16)
  have F16 := Ext.trans F13 f1416
  have M2 := M2.ext f1416
  have N1 := N1.ext f1416
  have N5 := N5.ext f16
  have O5 := O5.ext f1416
  refine M2.ints.get (j := 0) M2.len h0 ?_
  refine K21 (ht.ext F16) (G2.fin _ hm0).1 fun s6 q6 m6 d6 e6 h17 f17 fr17 N6 => ⟨_, _, _, _, _, _, rfl, lay3 fun r18 h18 f18 hr18 O18 => ?_⟩
  have f1718 := Ext.trans f17 f18
  have F18 := Ext.trans F16 f1718
  have N1 := N1.ext f1718
  have N5 := N5.ext f1718
  have N6 := N6.ext f18
  have O5 := O5.ext f1718
  have O16 := O16.ext f1718
  have b6 : bl (fV fs[0]).natAbs ≤ 2400 := by
    have hp := p2lt (a := e) (b := 1155) (by omega)
    exact bl_of_lt (a := 1155) (Nat.lt_of_le_of_lt (G2.fin _ hm0).2 hp) (by omega)
  refine ⟨r5, 0, rfl, _, O5.cell _, _, _, _, O5.cell _, _, O5.cell _, r18, 0, rfl, _, O18.cell _, _, _, _, O18.cell _, _, O18.cell _, ?_⟩
  refine K23g (ht.ext F18) (hk.ext F18) N1 N6 (by decide) (by omega) b6 fun s7 q7 m7 d7 e7 h19 f19 fr19 N7 => ⟨_, _, _, _, _, _, rfl, lay3 fun r20 h20 f20 hr20 O20 => yes rfl (yes rfl ?_)⟩
  have f1920 := Ext.trans f19 f20
  have F20 := Ext.trans F18 f1920
  have N5 := (N5.ext f1920).up W
  have N7 := N7.ext f20
  rw [show 1074 + 1074 = 1074 + W by omega] at N7
  have O16 := O16.ext f1920
  have b7 := bl_mul (Nat.le_trans b1 (show _ ≤ 2400 by omega)) b6
  refine ⟨r16, 0, rfl, _, O16.cell _, _, _, _, O16.cell _, _, O16.cell _, r20, 0, rfl, _, O20.cell _, _, _, _, O20.cell _, _, O20.cell _, ?_⟩
  refine K41 N5 N7 (by omega) (by rw [t4.2]; omega) (by omega) t4.2 fun h21 f21 => ⟨_, rfl, ?_⟩
  exact H h21 (Ext.trans F20 f21)
end Go.Proofs
