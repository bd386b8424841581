import Derived.Test.YtgeanmigldaniaaGreatFmtA41
import Derived.Test.YtgeanmigldaniaaGreatFmtA46
import Derived.Test.YtgeanmigldaniaaGreatFmtA35
import Derived.Test.YtgeanmigldaniaaGreatFmtA36
/- Here stand lemmas: the walk of SpanHolds. -/
set_option linter.unusedVariables false
set_option linter.unusedVariables false
namespace Go.Proofs
open Go Go.Eng
variable {B : World} {R : Ending → Heap → Prop} {h : Heap}
theorem NumS.upK {K d : Nat} {neg : Bool} {p : Option Addr} {n : Nat} {e v : Int} (N : NumS 1074 h neg p n e v) (hd : K = 1074 + d) : NumS K h neg p n e (v * ((2 ^ (K - 1074) : Nat) : Int)) := by
  subst hd
  rw [show 1074 + d - 1074 = d by omega]
  exact N.up d
theorem bl_scale {v : Int} {L d : Nat} (h : bl v.natAbs ≤ L) : bl (v * ((2 ^ d : Nat) : Int)).natAbs ≤ L + d := by
  rw [bl_le_iff] at *
  rw [Int.natAbs_mul, Int.natAbs_natCast, Nat.pow_add]
  exact Nat.mul_lt_mul_of_pos_right h (Nat.pow_pos (by decide))
/-- span.notLess, of any scale. -/
theorem K1042g {K : Nat} {neg : Bool} {p : Option Addr} {n c : Nat} {e v x side : Int} (ht : TabH h) (N : NumS K h neg p n e v) (hK : 1074 ≤ K) (hK2 : K ≤ 10000) (hb : bl v.natAbs ≤ 50000) (hs : side = 1 ∨ side = -1)
    (H : ∀ h', Ext h h' → R (.returned (.bool (nlK K v x side))) h') : Ent Tryz.prog B 83 #[.agg #[.bool neg, .slice p n c, .int .i64 e], .int .i64 x, .int .i64 side] R h := by
  refine F1042_ok _ _ _ _ _ _ _ (alK fun r1 h1 e1 f1 o1 z1 => K21g (ht.fr f1 id) fun neg2 p2 n2 c2 ee err h2 f2 hfin hinf => ⟨_, _, _, _, _, _, rfl, ?_⟩)
  refine alK fun r3 h3 e3 f3 o3 z3 => ⟨r3, 0, rfl, o3.stC (by simp) rfl fun oa fa => oa.stC (by simp) rfl fun ob fb => ob.stC (by simp) rfl fun oc fc => ?_⟩
  have fac := Fr.trans (S := fun x => x = r3) (Fr.trans (S := fun x => x = r3) fa fb fun _ _ e => e) fc fun _ _ e => e
  generalize setCell (setCell (setCell h3 _ _) _ _) _ _ = h4 at *
  have oc : Own h4 r3 #[.bool neg2, .slice p2 n2 c2, .int .i64 ee] := oc
  have F24 : Ext h2 h4 := Fr.trans f3 fac fun x hx e => by omega
  have O1 := (o1.ext f2).ext F24
  have E4 := Ext.trans (Ext.trans f1 f2) F24
  cases hf : isFin x
  · have he := hinf hf
    subst he
    have HH := H h4 E4
    unfold nlK at HH
    rw [hf] at HH
    exact ⟨fun _ => HH, fun e => (by cases e)⟩
  · obtain ⟨he, N2⟩ := hfin hf
    subst he
    refine ⟨fun e => (by cases e), fun _ => ⟨r1, 0, rfl, _, O1.cell _, _, _, _, O1.cell _, _, O1.cell _, r3, 0, rfl, _, oc.cell _, _, _, _, oc.cell _, _, oc.cell _, ?_⟩⟩
    have N3 := (N2.ext F24).upK (K := K) (d := K - 1074) (by omega)
    have b3 := bl_scale (d := K - 1074) (fV_bl hf)
    refine K28 (N.ext E4) N3 (by omega) hb (by omega) fun h5 f5 => ⟨_, _, rfl, ?_⟩
    have HH := H h5 (Ext.trans E4 f5)
    unfold nlK at HH
    rw [hf] at HH
    have sb := sign_bd (v - fV x * ((2 ^ (K - 1074) : Nat) : Int))
    rw [i64_in (by rcases hs with rfl | rfl <;> omega) (by rcases hs with rfl | rfl <;> omega)]
    exact HH
/-- span.Has, of a valid number of any scale. -/
theorem K1015g {K : Nat} {a b : Int} {neg : Bool} {p : Option Addr} {n c : Nat} {e v : Int} (ht : TabH h) (N : NumS K h neg p n e v) (hK : 1074 ≤ K) (hK2 : K ≤ 10000) (hb : bl v.natAbs ≤ 50000) (ia : I64 a) (ib : I64 b)
    (H : ∀ h', Ext h h' → R (.returned (.tuple #[.bool (vS a b && (nlK K v a 1 && nlK K v b (-1))), .int .i64 (if vS a b then (0 : Int) else 1)])) h') :
    Ent Tryz.prog B 44 #[.agg #[.int .i64 a, .int .i64 b], .agg #[.bool neg, .slice p n c, .int .i64 e]] R h := by
  refine F1015_ok _ _ _ _ _ _ _ (alK fun r1 h1 e1 f1 o1 z1 => alK fun r2 h2 e2 f2 o2 z2 => ?_)
  have O1 := o1.ext f2
  refine ⟨r1, 0, rfl, _, O1.cell _, _, O1.cell _, alK fun r3 h3 e3 f3 o3 z3 => ?_⟩
  refine K1040 (ps := [(a, b)]) o3 rfl (by omega) (fun i hi => ?_) fun h4 f4 => ⟨_, rfl, ?_⟩
  · have : i = 0 := by simp at hi; omega
    subst this
    exact ⟨rfl, rfl, ia, ib⟩
  have ho : okS [(a, b)] = vS a b := by unfold okS; simp
  rw [ho]
  have F4 := Ext.trans (Ext.trans (Ext.trans f1 f2) f3) f4
  have O1 := (O1.ext f3).ext f4
  have O2 := (o2.ext f3).ext f4
  have N4 := N.ext F4
  cases hv : vS a b
  · have HH := H h4 F4
    rw [hv] at HH
    exact ⟨fun _ => HH, fun e => (by cases e)⟩
  rw [hv] at H
  obtain ⟨M, N1, N2, N3⟩ := N4
  refine ⟨fun e => (by cases e), fun _ => ⟨r2, 0, rfl, _, O2.cell _, _, _, _, O2.cell _, _, O2.cell _, K129 N1 fun h5 f5 => ⟨_, rfl, fun e => (by cases e), fun _ => ?_⟩⟩⟩
  have O1 := O1.ext f5
  have O2 := O2.ext f5
  have F5 := Ext.trans F4 f5
  refine ⟨r2, 0, rfl, _, O2.cell _, _, _, _, O2.cell _, _, O2.cell _, r1, 0, rfl, r1, 0, rfl, _, O1.cell _, K1042g (ht.fr F5 id) (N.ext F5) hK hK2 hb (.inl rfl) fun h6 f6 => ⟨_, rfl, ?_⟩⟩
  have O1 := O1.ext f6
  have O2 := O2.ext f6
  have F6 := Ext.trans F5 f6
  cases hl : nlK K v a 1
  · have HH := H h6 F6
    rw [hl] at HH
    exact ⟨fun e => (by cases e), fun _ => HH⟩
  · refine ⟨fun _ => ⟨r2, 0, rfl, _, O2.cell _, _, _, _, O2.cell _, _, O2.cell _, r1, 0, rfl, r1, 0 + 1, rfl, _, O1.cell _, K1042g (ht.fr F6 id) (N.ext F6) hK hK2 hb (.inr rfl) fun h7 f7 => ⟨_, rfl, ?_⟩⟩, fun e => (by cases e)⟩
    have HH := H h7 (Ext.trans F6 f7)
    rw [hl] at HH
    exact HH
/-- span.Neg. -/
theorem K1027 {a b : Int} (hN : NoneH h) (ia : I64 a) (ib : I64 b) (hv : vS a b = true)
    (H : ∀ h', Ext h h' → R (.returned (.tuple #[.agg #[.int .i64 (cnP (negP b)), .int .i64 (cnP (negP a))], .int .i64 (0 : Int)])) h') :
    Ent Tryz.prog B 19 #[.agg #[.int .i64 a, .int .i64 b]] R h := by
  obtain ⟨na, nb, _, _, _⟩ := vS_parts hv
  refine F1027_ok _ _ (alK fun r1 h1 e1 f1 o1 z1 => alK fun r2 h2 e2 f2 o2 z2 => ?_)
  have O1 := o1.ext f2
  have F2 := Ext.trans f1 f2
  refine ⟨r1, 0, rfl, _, O1.cell _, _, O1.cell _, alK fun r3 h3 e3 f3 o3 z3 => ?_⟩
  refine K1040 (ps := [(a, b)]) o3 rfl (by omega) (fun i hi => ?_) fun h4 f4 => ⟨_, rfl, ?_⟩
  · have : i = 0 := by simp at hi; omega
    subst this
    exact ⟨rfl, rfl, ia, ib⟩
  have ho : okS [(a, b)] = true := by unfold okS; simp [hv]
  rw [ho]
  have F4 := Ext.trans (Ext.trans F2 f3) f4
  have O1 := (O1.ext f3).ext f4
  have O2 := (o2.ext f3).ext f4
  have n2 : h.size ≤ r2 := by have := f1.size; omega
  refine ⟨fun e => (by cases e), fun _ => ⟨r1, 0, rfl, r1, 0 + 1, rfl, _, O1.cell _, r1, 0, rfl, r1, 0, rfl, _, O1.cell _, K99 ib ⟨_, rfl, same1 (S := fun _ => False) O1 Fr.rfl' id, K99 ia ⟨_, rfl, ?_⟩⟩⟩⟩
  refine K1041 (rk_neg ib nb).2.1 (rk_neg ia na).2.1 fun h9 f9 => ⟨_, _, _, rfl, ?_⟩
  refine ⟨r2, 0, rfl, (O2.ext f9).stC (by simp) rfl fun oc fc => oc.stC (by simp) rfl fun od fd => ⟨r2, 0, rfl, _, od.cell _, _, od.cell _, ?_⟩⟩
  have fcd := Fr.trans (S := fun x => x = r2) fc fd fun _ _ e => e
  exact H _ (Fr.trans (Ext.trans F4 f9) fcd fun x hx e => by omega)
/-- span.Sub. -/
theorem K1026 {a b c d : Int} (ht : TabH h) (hN : NoneH h) (ia : I64 a) (ib : I64 b) (ic : I64 c) (id' : I64 d) (hv : vS a b = true) (hv2 : vS c d = true) (hv3 : vS (cnP (negP d)) (cnP (negP c)) = true) (i1 : I64 (cnP (negP d))) (i2 : I64 (cnP (negP c)))
    (H : ∀ h', Ext h h' → R (.returned (.tuple #[.agg #[.int .i64 (cnP (addW 1 a (cnP (negP d)))), .int .i64 (cnP (addW 2 b (cnP (negP c))))], .int .i64 (0 : Int)])) h') :
    Ent Tryz.prog B 18 #[.agg #[.int .i64 a, .int .i64 b], .agg #[.int .i64 c, .int .i64 d]] R h := by
  refine F1026_ok _ _ _ _ (alK fun r1 h1 e1 f1 o1 z1 => alK fun r2 h2 e2 f2 o2 z2 => alK fun r3 h3 e3 f3 o3 z3 => ?_)
  have O1 := (o1.ext f2).ext f3
  have O2 := o2.ext f3
  have F3 := Ext.trans (Ext.trans f1 f2) f3
  refine ⟨r1, 0, rfl, _, O1.cell _, _, O1.cell _, r2, 0, rfl, _, O2.cell _, _, O2.cell _, alK fun r4 h4 e4 f4 o4 z4 => K1040p o4 ia ib ic id' fun h5 f5 => ⟨_, rfl, ?_⟩⟩
  rw [okS2, hv, hv2]
  have F5 := Ext.trans F3 (Ext.trans f4 f5)
  have O3 := (o3.ext f4).ext f5
  have O1 := (O1.ext f4).ext f5
  have O2 := (O2.ext f4).ext f5
  have n3 : h.size ≤ r3 := by have := f1.size; have := f2.size; omega
  refine ⟨fun e => (by cases e), fun _ => ⟨r2, 0, rfl, _, O2.cell _, _, O2.cell _, K1027 (hN.ext F5) ic id' hv2 fun h6 f6 => ⟨_, _, _, rfl, spK fun r7 h7 l7 f7 O7 => ?_⟩⟩⟩
  have g7 := Ext.trans f6 f7
  have O1 := O1.ext g7
  have O3 := O3.ext g7
  have E7 := Ext.trans F5 g7
  have hvv : (vS a b && vS (cnP (negP d)) (cnP (negP c))) = true := by rw [hv, hv3]; rfl
  refine ⟨r1, 0, rfl, _, O1.cell _, _, O1.cell _, r7, 0, rfl, _, O7.cell _, _, O7.cell _, K1019 (ht.ext E7) (hN.ext E7) ia ib i1 i2 (fun e => by rw [hvv] at e; cases e) fun _ h8 f8 => ⟨_, _, _, rfl, ?_⟩⟩
  refine ⟨r3, 0, rfl, (O3.ext f8).stC (by simp) rfl fun oc fc => oc.stC (by simp) rfl fun od fd => ⟨r3, 0, rfl, _, od.cell _, _, od.cell _, ?_⟩⟩
  have fcd := Fr.trans (S := fun x => x = r3) fc fd fun _ _ e => e
  exact H _ (Fr.trans (Ext.trans E7 f8) fcd fun x hx e => by omega)
end Go.Proofs
set_option linter.unusedVariables false
namespace Go.Proofs
open Go Go.Eng
variable {B : World} {R : Ending → Heap → Prop} {h : Heap}
/-- dyadic.Neg. -/
theorem K1025 {K n c : Nat} {neg : Bool} {p : Option Addr} {e v : Int} (ht : TabH h) (N : NumS K h neg p n e v) (hK : K ≤ 1048576) (hb : bl v.natAbs ≤ 50000)
    (H : ∀ neg' p' n' c' e' h', Ext h h' → Fresh h p' → NumS K h' neg' p' n' e' (-v) → R (.returned (.tuple #[.agg #[.bool neg', .slice p' n' c', .int .i64 e'], .int .i64 (0 : Int)])) h') :
    Ent Tryz.prog B 17 #[.agg #[.bool neg, .slice p n c, .int .i64 e]] R h := by
  refine F1025_ok _ _ _ _ _ (alK fun r7 h8 e7 f7 o7 z7 => alK fun r11 h12 e11 f11 o11 z11 => alK fun r13 h14 e13 f13 o13 z13 => ?_)
  have O7 := (o7.ext f11).ext f13
  refine ⟨r7, 0, rfl, _, O7.cell _, _, _, _, O7.cell _, _, O7.cell _, alK fun r23 h24 e23 f23 o23 z23 => ?_⟩
  have F := Ext.trans f7 (Ext.trans f11 (Ext.trans f13 f23))
  refine K67 (numL1 o23 (N.ext F)) rfl (by decide) fun xs h26 f26 X => ⟨_, _, _, rfl, ?_⟩
  obtain ⟨x0, rfl⟩ := List.length_eq_one_iff.1 X.len
  obtain ⟨cs, Ob, hc⟩ := X.own
  obtain ⟨c10, c11⟩ := hc 0 (by simp)
  obtain ⟨⟨I0, y1, y2, y3, y5⟩, b0, b1⟩ := X.at_ 0 (by simp) (by simp)
  simp only [List.getElem_cons_zero] at c10 c11 I0 y1 y2 y3 y5 b0 b1
  refine ⟨h24.size, 0, rfl, by decide, by decide, h24.size, _, rfl, h24.size, _, rfl, _, by rw [Ob.cell]; exact c10, h24.size, 0, rfl, by decide, by decide, h24.size, _, rfl, h24.size, _, rfl, _, by rw [Ob.cell]; exact c10, ?_⟩
  refine K74i I0 fun q' h53 f53 d53 I53 => ⟨_, rfl, ?_⟩
  have nS : ∀ x, x < x0.r → x < x0.q → ¬ (x = x0.r ∨ Rm x0.r x0.q x) := fun x h1 h2 hh => by
    rcases hh with hh | hh
    · omega
    · have := hh.1; omega
  have Ob53 := Ob.fr f53 (nS _ b0 b1)
  have s24 := F.size
  have F53 : Ext h h53 := Fr.trans (S := fun _ => False) (Ext.trans F f26) f53 fun x hx k => nS x (by omega) (by omega) k
  refine ⟨h24.size, 0, rfl, by decide, by decide, h24.size, _, rfl, _, by rw [Ob53.cell]; exact c10, _, by rw [Ob53.cell]; exact c11, ?_⟩
  refine K65 (v := -v) (ht.ext F53) I53 y1 (by rw [Int.neg_mul, ← y3]) (by rw [Int.natAbs_neg]; exact Nat.le_trans hb (by decide)) hK fun neg' p' n' c' e' h65 f65 fr65 N => ⟨_, _, _, _, _, rfl, ?_⟩
  have o11b : Own h65 r11 #[.bool false, .slice none 0 0, .int .i64 0] := ((((o11.ext f13).ext f23).ext f26).fr f53 (nS _ (by have := o11.lt; have := f13.size; have := f23.size; omega) (by have := o11.lt; have := f13.size; have := f23.size; omega))).ext f65
  have o13b : Own h65 r13 #[.int .i64 0] := (((o13.ext f23).ext f26).fr f53 (nS _ (by have := o13.lt; have := f23.size; omega) (by have := o13.lt; have := f23.size; omega))).ext f65
  have l11 := o11.lt
  have l13 := o13.lt
  have s1 := f7.size
  have s2 := f11.size
  refine numEnd o11b o13b (by omega) fun h' f => ?_
  exact H neg' p' n' c' e' h' (Fr.trans (Ext.trans F53 f65) f fun x hx e => by omega) (fr65.mono F53.size) (N.fr f fun b o e e3 => by have := fr65 b o e; have := F53.size; have := f13.size; have := f23.size; have := f26.size; have := f53.size; omega)
/-- span.Sign. -/
def sgS (a b : Int) : Int := if 0 < rk a then 1 else if rk b < 0 then -1 else 0
def knS (a b : Int) : Bool := decide (0 < rk a) || decide (rk b < 0) || (decide (cnP a = 0) && decide (cnP b = 0))
theorem K1029 {a b : Int} (hN : NoneH h) (ia : I64 a) (ib : I64 b) (hv : vS a b = true) (H : ∀ h', Ext h h' → R (.returned (.tuple #[.int .i64 (sgS a b), .bool (knS a b), .int .i64 (0 : Int)])) h') :
    Ent Tryz.prog B 22 #[.agg #[.int .i64 a, .int .i64 b]] R h := by
  obtain ⟨na, nb, _, _, _⟩ := vS_parts hv
  obtain ⟨ra, na', ia'⟩ := cn_rk ia na
  obtain ⟨rb, nb', ib'⟩ := cn_rk ib nb
  refine F1029_ok _ _ (alK fun r1 h1 e1 f1 o1 z1 => ⟨r1, 0, rfl, _, o1.cell _, _, o1.cell _, alK fun r2 h2 e2 f2 o2 z2 => ?_⟩)
  refine K1040 (ps := [(a, b)]) o2 rfl (by omega) (fun i hi => ?_) fun h3 f3 => ⟨_, rfl, ?_⟩
  · have : i = 0 := by simp at hi; omega
    subst this
    exact ⟨rfl, rfl, ia, ib⟩
  have ho : okS [(a, b)] = true := by unfold okS; simp [hv]
  rw [ho]
  have O1 := (o1.ext f2).ext f3
  refine ⟨fun e => (by cases e), fun _ => ⟨r1, 0, rfl, r1, 0, rfl, _, O1.cell _, r1, 0, rfl, r1, 0 + 1, rfl, _, O1.cell _, K1041 ia ib fun h4 f4 => ⟨_, _, _, rfl, spK fun r5 h5 l5 f5 O5 => ⟨r5, 0, rfl, r5, 0, rfl, _, O5.cell _, K54 ⟨_, rfl, ?_⟩⟩⟩⟩⟩
  have F : Ext h h5 := Ext.trans (Ext.trans (Ext.trans (Ext.trans f1 f2) f3) f4) f5
  have HH := H h5 F
  have N5 := hN.ext F
  rw [order_0 ia' na', gt_ord, ra]
  refine ⟨fun e => ?_, fun e => ⟨r5, 0, rfl, r5, 0 + 1, rfl, _, O5.cell _, K54 ⟨_, rfl, ?_⟩⟩⟩
  · have h1 := of_decide_eq_true e
    unfold sgS knS at HH
    rw [if_pos h1, e, Bool.true_or, Bool.true_or] at HH
    exact HH
  · have h1 := of_decide_eq_false e
    rw [order_0 ib' nb', lt_ord, rb]
    refine ⟨fun e2 => ?_, fun e2 => ⟨r5, 0, rfl, _, O5.cell _, _, O5.cell _, _, 0, rfl, _, N5.c0, _, N5.c1, ?_⟩⟩
    · have h2 := of_decide_eq_true e2
      unfold sgS knS at HH
      rw [if_neg h1, if_pos h2, e2, Bool.or_true, Bool.true_or] at HH
      exact HH
    · have h2 := of_decide_eq_false e2
      unfold sgS knS at HH
      rw [if_neg h1, if_neg h2, e, e2, Bool.or_false, Bool.false_or] at HH
      exact HH
/-- plumblaw8.has, where it is so. -/
theorem K1028 {K : Nat} {a b : Int} {neg : Bool} {p : Option Addr} {n c : Nat} {e v : Int} (ht : TabH h) (N : NumS K h neg p n e v) (hK : 1074 ≤ K) (hK2 : K ≤ 10000) (hb : bl v.natAbs ≤ 50000) (ia : I64 a) (ib : I64 b) (hv : vS a b = true)
    (hl : nlK K v a 1 = true) (hh : nlK K v b (-1) = true) (H : ∀ h', Ext h h' → R (.returned (.bool true)) h') :
    Ent Tryz.prog B 21 #[.agg #[.int .i64 a, .int .i64 b], .int .i64 (0 : Int), .agg #[.bool neg, .slice p n c, .int .i64 e]] R h := by
  refine F1028_ok _ _ _ _ _ _ _ _ (alK fun r1 h1 e1 f1 o1 z1 => alK fun r2 h2 e2 f2 o2 z2 => ?_)
  have O1 := o1.ext f2
  have F2 := Ext.trans f1 f2
  refine ⟨r1, 0, rfl, _, O1.cell _, _, O1.cell _, r2, 0, rfl, _, o2.cell _, _, _, _, o2.cell _, _, o2.cell _, K1015g (ht.ext F2) (N.ext F2) hK hK2 hb ia ib fun h3 f3 => ⟨_, _, rfl, fun _ => ?_, fun e => absurd e (by decide)⟩⟩
  rw [hv, hl, hh]
  have O1 := O1.ext f3
  refine ⟨fun _ => ⟨fun _ => ⟨r1, 0, rfl, _, O1.cell _, _, O1.cell _, K1014 ia ib fun h4 f4 => ⟨_, rfl, ?_⟩⟩, fun e => absurd e (by decide)⟩, fun e => absurd e (by decide)⟩
  rw [hv]
  exact H h4 (Ext.trans (Ext.trans F2 f3) f4)
end Go.Proofs
set_option linter.unusedVariables false
namespace Go.Proofs
open Go Go.Eng
variable {B : World} {R : Ending → Heap → Prop} {h : Heap}
theorem fin_negP {a : Int} (ia : I64 a) (fa : isFin a = true) : isFin (negP a) = true ∧ fV (negP a) = -fV a ∧ I64 (negP a) ∧ isNaN (negP a) = false ∧ rk (negP a) = -rk a := by
  obtain ⟨r, i, n⟩ := rk_neg ia (fin_not fa).1
  have fr := fin_rk ia fa
  have f := fin_of_rk i n (by omega) (by omega)
  refine ⟨f, ?_, i, n, r⟩
  obtain ⟨s, k, hk, rfl⟩ := as_pat ia (fin_not fa).1
  have hk := fin_pat hk fa
  rw [negP_pat (by omega), fV_mag hk, fV_mag hk]
  cases s <;> simp
theorem enc_neg {lo hi a : Int} (E : EncS lo hi a) (ia : I64 a) (fa : isFin a = true) : EncS (cnP (negP hi)) (cnP (negP lo)) (negP a) := by
  obtain ⟨r1, i1, n1⟩ := rk_neg E.il E.nl
  obtain ⟨r2, i2, n2⟩ := rk_neg E.ih E.nh
  obtain ⟨_, _, _, _, r3⟩ := fin_negP ia fa
  obtain ⟨c1, c2, c3⟩ := cn_rk i1 n1
  obtain ⟨d1, d2, d3⟩ := cn_rk i2 n2
  have := E.l
  have := E.h
  exact ⟨d3, c3, d2, c2, by omega, by omega⟩
theorem enc_has {lo hi a : Int} (E : EncS lo hi a) (ia : I64 a) (fa : isFin a = true) : nlK 1074 (fV a) lo 1 = true ∧ nlK 1074 (fV a) hi (-1) = true := by
  have e1 := rk_self (w := 1) (.inl rfl) ia fa
  have e2 := rk_self (w := 2) (.inr rfl) ia fa
  exact ⟨in_lo (K := 1074) (Nat.le_refl _) E.il (by rw [show -((1074 : Nat) : Int) = -1074 from rfl, e1]; exact E.l), in_hi (K := 1074) (Nat.le_refl _) E.ih (by rw [show -((1074 : Nat) : Int) = -1074 from rfl, e2]; exact E.h)⟩
theorem sign_ok {D1 D2 q : Int} (T : TolS D1 D2) (h1 : rk D1 ≤ rk (dirV 1 q (-1074))) (h2 : rk (dirV 2 q (-1074)) ≤ rk D2) (hk : knS D1 D2 = true) : sgS D1 D2 = q.sign := by
  have p := @rk_zero_hi q
  have n := @rk_zero_lo q
  have z : q = 0 → rk (dirV 1 q (-1074)) = 0 ∧ rk (dirV 2 q (-1074)) = 0 := fun e => by rw [e, dirV_zero, dirV_zero]; decide
  unfold sgS
  by_cases c1 : 0 < rk D1
  · rw [if_pos c1, Int.sign_eq_one_of_pos (by omega)]
  · rw [if_neg c1]
    by_cases c2 : rk D2 < 0
    · rw [if_pos c2, Int.sign_eq_neg_one_of_neg (by omega)]
    · rw [if_neg c2]
      unfold knS at hk
      rw [decide_eq_false c1, decide_eq_false c2, Bool.false_or, Bool.false_or, Bool.and_eq_true, decide_eq_true_eq, decide_eq_true_eq] at hk
      have e1 := (cn_rk T.il T.nl).1
      have e2 := (cn_rk T.ih T.nh).1
      rw [hk.1, show rk 0 = 0 from rfl] at e1
      rw [hk.2, show rk 0 = 0 from rfl] at e2
      have : q = 0 := by omega
      rw [this]; rfl
set_option maxHeartbeats 1000000 in
/-- plumblaw8.SpanHolds, of finite ones. -/
theorem holds_j4 {r1 rx r2 ry n c n2 c2 : Nat} {a b lo hi lo2 hi2 e e2 : Int} {neg neg2 : Bool} {p p2 : Option Addr} (ht : TabH h) (hk : TabK h) (hN : NoneH h) (ia : I64 a) (ib : I64 b) (fa : isFin a = true) (fb : isFin b = true) (S : EncS lo hi a) (T : EncS lo2 hi2 b)
    (O1 : Own h r1 #[.int .i64 lo, .int .i64 hi]) (X1 : Own h rx #[.bool neg, .slice p n c, .int .i64 e]) (N1 : NumS 1074 h neg p n e (fV a))
    (O2 : Own h r2 #[.int .i64 lo2, .int .i64 hi2]) (X2 : Own h ry #[.bool neg2, .slice p2 n2 c2, .int .i64 e2]) (N2 : NumS 1074 h neg2 p2 n2 e2 (fV b))
    (H : ∀ h', Ext h h' → R (.returned (.bool true)) h') :
    F1007_j4 B R (some ⟨r1, 0, none⟩) (some ⟨rx, 0, none⟩) (some ⟨r2, 0, none⟩) (some ⟨ry, 0, none⟩) false h := by
  have va := fV_bl fa
  have vb := fV_bl fb
  have vst : (vS lo hi && vS lo2 hi2) = true := by rw [S.v ia fa, T.v ib fb]; rfl
  obtain ⟨fb', eb', ib', nb', rb'⟩ := fin_negP ib fb
  have T' := enc_neg T ib fb
  obtain ⟨fa', ea', ia', na', ra'⟩ := fin_negP ia fa
  have S' := enc_neg S ia fa
  refine ⟨fun e => (by cases e), fun _ => ⟨rx, 0, rfl, _, X1.cell _, _, _, _, X1.cell _, _, X1.cell _, ry, 0, rfl, _, X2.cell _, _, _, _, X2.cell _, _, X2.cell _, ?_⟩⟩
  refine K22 ht N1 N2 (by decide) (by omega) (by omega) fun np pp pn pc pe h1 f1 _ Np => ⟨_, _, _, _, _, _, rfl, lay3 fun rp h2 f2 l2 Op => ?_⟩
  have E2 := Ext.trans f1 f2
  replace Np := Np.ext f2
  replace X1 := X1.ext E2
  replace X2 := X2.ext E2
  refine ⟨rx, 0, rfl, _, X1.cell _, _, _, _, X1.cell _, _, X1.cell _, ry, 0, rfl, _, X2.cell _, _, _, _, X2.cell _, _, X2.cell _, ?_⟩
  refine K44 (ht.ext E2) (N1.ext E2) (N2.ext E2) (by decide) (by omega) (by omega) fun nq qq qn qc qe h3 f3 _ Nq => ⟨_, _, _, _, _, _, rfl, lay3 fun rq h4 f4 l4 Oq => ?_⟩
  have g4 := Ext.trans f3 f4
  have E4 := Ext.trans E2 g4
  replace Nq := Nq.ext f4
  replace X1 := X1.ext g4
  replace X2 := X2.ext g4
  refine ⟨rx, 0, rfl, _, X1.cell _, _, _, _, X1.cell _, _, X1.cell _, ry, 0, rfl, _, X2.cell _, _, _, _, X2.cell _, _, X2.cell _, ?_⟩
  refine K23g (ht.ext E4) (hk.ext E4) (N1.ext E4) (N2.ext E4) (by decide) (by omega) (by omega) fun nr rr rn rc re h5 f5 _ Nr => ⟨_, _, _, _, _, _, rfl, lay3 fun rr' h6 f6 l6 Or => ?_⟩
  have g6 := Ext.trans f5 f6
  have E6 := Ext.trans E4 g6
  replace Nr : NumS 2148 h6 nr rr rn re (fV a * fV b) := Nr.ext f6
  replace X1 := X1.ext g6
  replace X2 := X2.ext g6
  refine ⟨rx, 0, rfl, _, X1.cell _, _, _, _, X1.cell _, _, X1.cell _, rx, 0, rfl, _, X1.cell _, _, _, _, X1.cell _, _, X1.cell _, ?_⟩
  refine K23g (ht.ext E6) (hk.ext E6) (N1.ext E6) (N1.ext E6) (by decide) (by omega) (by omega) fun nu uu un uc ue h7 f7 _ Nu => ⟨_, _, _, _, _, _, rfl, lay3 fun ru h8 f8 l8 Ou => ?_⟩
  have g8 := Ext.trans f7 f8
  have E8 := Ext.trans E6 g8
  replace Nu : NumS 2148 h8 nu uu un ue (fV a * fV a) := Nu.ext f8
  replace X1 := X1.ext g8
  replace X2 := X2.ext g8
  refine ⟨rx, 0, rfl, _, X1.cell _, _, _, _, X1.cell _, _, X1.cell _, ?_⟩
  refine K1025 (ht.ext E8) (N1.ext E8) (by decide) (by omega) fun nv vv vn vc ve h9 f9 _ Nv => ⟨_, _, _, _, _, _, rfl, lay3 fun rv h10 f10 l10 Ov => ?_⟩
  have g10 := Ext.trans f9 f10
  have E10 := Ext.trans E8 g10
  replace Nv := Nv.ext f10
  replace X1 := X1.ext g10
  replace X2 := X2.ext g10
  replace O1 := O1.ext E10
  replace O2 := O2.ext E10
  replace N1 := N1.ext E10
  replace N2 := N2.ext E10
  replace ht := ht.ext E10
  replace hk := hk.ext E10
  replace hN := hN.ext E10
  replace Nu := Nu.ext g10
  replace Ou := Ou.ext g10
  replace Nr := (Nr.ext g8).ext g10
  replace Or := (Or.ext g8).ext g10
  replace Nq := ((Nq.ext g6).ext g8).ext g10
  replace Oq := ((Oq.ext g6).ext g8).ext g10
  replace Np := (((Np.ext g4).ext g6).ext g8).ext g10
  replace Op := (((Op.ext g4).ext g6).ext g8).ext g10
  -- the intervals
  refine ⟨r1, 0, rfl, _, O1.cell _, _, O1.cell _, r2, 0, rfl, _, O2.cell _, _, O2.cell _, K1019 ht hN S.il S.ih T.il T.ih (fun e => by rw [vst] at e; cases e) fun _ h11 f11 => ⟨_, _, _, rfl, spK fun sc h12 l12 f12 Sc => ?_⟩⟩
  have k12 := Ext.trans f11 f12
  replace O1 := O1.ext k12
  replace O2 := O2.ext k12
  refine ⟨r1, 0, rfl, _, O1.cell _, _, O1.cell _, r2, 0, rfl, _, O2.cell _, _, O2.cell _, K1026 (ht.ext k12) (hN.ext k12) S.il S.ih T.il T.ih (S.v ia fa) (T.v ib fb) (T'.v ib' fb') T'.il T'.ih fun h13 f13 => ⟨_, _, _, rfl, spK fun sd h14 l14 f14 Sd => ?_⟩⟩
  have j14 := Ext.trans f13 f14
  have k14 := Ext.trans k12 j14
  replace O1 := O1.ext j14
  replace O2 := O2.ext j14
  refine ⟨r1, 0, rfl, _, O1.cell _, _, O1.cell _, r2, 0, rfl, _, O2.cell _, _, O2.cell _, K1020 (ht.ext k14) (hk.ext k14) (hN.ext k14) S.il S.ih T.il T.ih (fun e => by rw [vst] at e; cases e) fun _ m1 m2 h15 f15 im1 im2 nm1 nm2 rm1 rm2 => ⟨_, _, _, rfl, spK fun sm h16 l16 f16 Sm => ?_⟩⟩
  have j16 := Ext.trans f15 f16
  have k16 := Ext.trans k14 j16
  replace O1 := O1.ext j16
  replace O2 := O2.ext j16
  refine ⟨r1, 0, rfl, _, O1.cell _, _, O1.cell _, K1021 (ht.ext k16) (hk.ext k16) (hN.ext k16) S.il S.ih (fun e => by rw [S.v ia fa] at e; cases e) fun _ w1 w2 h17 f17 iw1 iw2 nw1 nw2 rw1 rw2 => ⟨_, _, _, rfl, spK fun sw h18 l18 f18 Sw => ?_⟩⟩
  have j18 := Ext.trans f17 f18
  have k18 := Ext.trans k16 j18
  replace O1 := O1.ext j18
  replace O2 := O2.ext j18
  refine ⟨r1, 0, rfl, _, O1.cell _, _, O1.cell _, K1027 (hN.ext k18) S.il S.ih (S.v ia fa) fun h19 f19 => ⟨_, _, _, rfl, spK fun sn h20 l20 f20 Sn => ?_⟩⟩
  have j20 := Ext.trans f19 f20
  have k20 := Ext.trans k18 j20
  replace O1 := O1.ext j20
  replace O2 := O2.ext j20
  refine ⟨r1, 0, rfl, _, O1.cell _, _, O1.cell _, r2, 0, rfl, _, O2.cell _, _, O2.cell _, K1016 (hN.ext k20) S.il S.ih T.il T.ih (fun e => by rw [vst] at e; cases e) fun _ jl jh h21 f21 ij1 ij2 nj1 nj2 rj1 rj2 => ⟨_, _, _, rfl, spK fun sj h22 l22 f22 Sj => ?_⟩⟩
  have j22 := Ext.trans f21 f22
  have k22 := Ext.trans k20 j22
  have E22 := Ext.trans E10 k22
  replace O1 := O1.ext j22
  replace Sn := Sn.ext j22
  replace Sw := (Sw.ext j20).ext j22
  replace Sm := ((Sm.ext j18).ext j20).ext j22
  replace Sd := (((Sd.ext j16).ext j18).ext j20).ext j22
  replace Sc := ((((Sc.ext j14).ext j16).ext j18).ext j20).ext j22
  replace X1 := X1.ext k22
  replace X2 := X2.ext k22
  replace N1 := N1.ext k22
  replace N2 := N2.ext k22
  replace Np := Np.ext k22
  replace Op := Op.ext k22
  replace Nq := Nq.ext k22
  replace Oq := Oq.ext k22
  replace Nr := Nr.ext k22
  replace Or := Or.ext k22
  replace Nu := Nu.ext k22
  replace Ou := Ou.ext k22
  replace Nv := Nv.ext k22
  replace Ov := Ov.ext k22
  replace ht := ht.ext k22
  replace hN := hN.ext k22
  obtain ⟨tc, tc1, tc2⟩ := add_tol S.il S.ih T.il T.ih ia ib S.nl S.nh T.nl T.nh fa fb S.l S.h T.l T.h
  obtain ⟨td, td1, td2⟩ := add_tol S.il S.ih T'.il T'.ih ia ib' S.nl S.nh T'.nl T'.nh fa fb' S.l S.h T'.l T'.h
  rw [eb', ← Int.sub_eq_add_neg] at td1 td2
  obtain ⟨tm, tm1, tm2⟩ := mul_tol S.il S.ih T.il T.ih ia ib S.nl S.nh T.nl T.nh fa fb S.l S.h T.l T.h im1 im2 nm1 nm2 rm1 rm2
  obtain ⟨tw, tw1, tw2⟩ := sq_tol S.il S.ih ia S.nl S.nh fa S.l S.h iw1 iw2 nw1 nw2 rw1 rw2
  have hJa : EncS (cnP jl) (cnP jh) a := by
    obtain ⟨c1, c2, c3⟩ := cn_rk ij1 nj1
    obtain ⟨d1, d2, d3⟩ := cn_rk ij2 nj2
    have := S.l; have := S.h
    exact ⟨c3, d3, c2, d2, by omega, by omega⟩
  have hJb : EncS (cnP jl) (cnP jh) b := by
    obtain ⟨c1, c2, c3⟩ := cn_rk ij1 nj1
    obtain ⟨d1, d2, d3⟩ := cn_rk ij2 nj2
    have := T.l; have := T.h
    exact ⟨c3, d3, c2, d2, by omega, by omega⟩
  have bp : bl (fV a + fV b).natAbs ≤ 2101 := bl_add va vb
  have bq : bl (fV a - fV b).natAbs ≤ 2101 := by rw [Int.sub_eq_add_neg]; exact bl_add va (by rw [Int.natAbs_neg]; exact vb)
  have br : bl (fV a * fV b).natAbs ≤ 4200 := bl_mul va vb
  have bu : bl (fV a * fV a).natAbs ≤ 4200 := bl_mul va va
  have bv : bl (-fV a).natAbs ≤ 2100 := by rw [Int.natAbs_neg]; exact va
  have hnv := enc_has S' ia' fa'
  rw [ea'] at hnv
  refine ⟨r1, 0, rfl, _, O1.cell _, _, O1.cell _, rx, 0, rfl, _, X1.cell _, _, _, _, X1.cell _, _, X1.cell _, ?_⟩
  refine K1028 ht N1 (by decide) (by decide) (by omega) S.il S.ih (S.v ia fa) (enc_has S ia fa).1 (enc_has S ia fa).2 fun h23 f23 => ⟨_, rfl, fun e => (by cases e), fun _ => ?_⟩
  replace Sc := Sc.ext f23
  replace Op := Op.ext f23
  refine ⟨sc, 0, rfl, _, Sc.cell _, _, Sc.cell _, rp, 0, rfl, _, Op.cell _, _, _, _, Op.cell _, _, Op.cell _, ?_⟩
  refine K1028 (ht.ext f23) (Np.ext f23) (by decide) (by decide) (by omega) tc.il tc.ih tc.v (in_lo (K := 1074) (by decide) tc.il tc1) (in_hi (K := 1074) (by decide) tc.ih tc2) fun h24 f24 => ⟨_, rfl, fun e => (by cases e), fun _ => ?_⟩
  have m24 := Ext.trans f23 f24
  replace Sd := Sd.ext m24
  replace Oq := Oq.ext m24
  refine ⟨sd, 0, rfl, _, Sd.cell _, _, Sd.cell _, rq, 0, rfl, _, Oq.cell _, _, _, _, Oq.cell _, _, Oq.cell _, ?_⟩
  refine K1028 (ht.ext m24) (Nq.ext m24) (by decide) (by decide) (by omega) td.il td.ih td.v (in_lo (K := 1074) (by decide) td.il td1) (in_hi (K := 1074) (by decide) td.ih td2) fun h25 f25 => ⟨_, rfl, fun e => (by cases e), fun _ => ?_⟩
  have m25 := Ext.trans m24 f25
  replace Sm := Sm.ext m25
  replace Or := Or.ext m25
  refine ⟨sm, 0, rfl, _, Sm.cell _, _, Sm.cell _, rr', 0, rfl, _, Or.cell _, _, _, _, Or.cell _, _, Or.cell _, ?_⟩
  refine K1028 (ht.ext m25) (Nr.ext m25) (by decide) (by decide) (by omega) tm.il tm.ih tm.v (in_lo (K := 2148) (by decide) tm.il tm1) (in_hi (K := 2148) (by decide) tm.ih tm2) fun h26 f26 => ⟨_, rfl, fun e => (by cases e), fun _ => ?_⟩
  have m26 := Ext.trans m25 f26
  replace Sw := Sw.ext m26
  replace Ou := Ou.ext m26
  refine ⟨sw, 0, rfl, _, Sw.cell _, _, Sw.cell _, ru, 0, rfl, _, Ou.cell _, _, _, _, Ou.cell _, _, Ou.cell _, ?_⟩
  refine K1028 (ht.ext m26) (Nu.ext m26) (by decide) (by decide) (by omega) tw.il tw.ih tw.v (in_lo (K := 2148) (by decide) tw.il tw1) (in_hi (K := 2148) (by decide) tw.ih tw2) fun h27 f27 => ⟨_, rfl, fun e => (by cases e), fun _ => ?_⟩
  have m27 := Ext.trans m26 f27
  replace Sn := Sn.ext m27
  replace Ov := Ov.ext m27
  refine ⟨sn, 0, rfl, _, Sn.cell _, _, Sn.cell _, rv, 0, rfl, _, Ov.cell _, _, _, _, Ov.cell _, _, Ov.cell _, ?_⟩
  refine K1028 (ht.ext m27) (Nv.ext m27) (by decide) (by decide) (by omega) S'.il S'.ih (S'.v ia' fa') hnv.1 hnv.2 fun h28 f28 => ⟨_, rfl, fun e => (by cases e), fun _ => ?_⟩
  have m28 := Ext.trans m27 f28
  replace Sj := Sj.ext m28
  replace X1 := X1.ext m28
  refine ⟨sj, 0, rfl, _, Sj.cell _, _, Sj.cell _, rx, 0, rfl, _, X1.cell _, _, _, _, X1.cell _, _, X1.cell _, ?_⟩
  refine K1028 (ht.ext m28) (N1.ext m28) (by decide) (by decide) (by omega) hJa.il hJa.ih (hJa.v ia fa) (enc_has hJa ia fa).1 (enc_has hJa ia fa).2 fun h29 f29 => ⟨_, rfl, fun e => (by cases e), fun _ => ?_⟩
  have m29 := Ext.trans m28 f29
  replace Sj := Sj.ext f29
  replace X2 := X2.ext m29
  refine ⟨sj, 0, rfl, _, Sj.cell _, _, Sj.cell _, ry, 0, rfl, _, X2.cell _, _, _, _, X2.cell _, _, X2.cell _, ?_⟩
  refine K1028 (ht.ext m29) (N2.ext m29) (by decide) (by decide) (by omega) hJb.il hJb.ih (hJb.v ib fb) (enc_has hJb ib fb).1 (enc_has hJb ib fb).2 fun h30 f30 => ⟨_, rfl, fun e => (by cases e), fun _ => ?_⟩
  have m30 := Ext.trans m29 f30
  replace Sd := (((((Sd.ext f25).ext f26).ext f27).ext f28).ext f29).ext f30
  refine ⟨sd, 0, rfl, _, Sd.cell _, _, Sd.cell _, K1029 (hN.ext m30) td.il td.ih td.v fun h31 f31 => ⟨_, _, _, rfl, ?_⟩⟩
  replace Oq := ((((((Oq.ext f25).ext f26).ext f27).ext f28).ext f29).ext f30).ext f31
  have m31 := Ext.trans m30 f31
  refine ⟨rq, 0, rfl, _, Oq.cell _, _, _, _, Oq.cell _, _, Oq.cell _, K48 (Nq.ext m31) fun h32 f32 => ⟨_, _, rfl, ?_⟩⟩
  have HH := H h32 (Ext.trans (Ext.trans E22 m31) f32)
  refine ⟨fun _ => HH, fun e => ?_⟩
  have hkn : knS (cnP (addW 1 lo (cnP (negP hi2)))) (cnP (addW 2 hi (cnP (negP lo2)))) = true := by simpa using e
  rw [decide_eq_true (sign_ok td td1 td2 hkn)]
  exact HH
end Go.Proofs
set_option linter.unusedVariables false
namespace Go.Proofs
open Go Go.Eng
variable {B : World} {R : Ending → Heap → Prop} {h : Heap}
/-- plumblaw8.SpanHolds. -/
theorem K1007 {a b u w : Int} (ht : TabH h) (hk : TabK h) (hN : NoneH h) (ia : I64 a) (ib : I64 b) (iu : I64 u) (iw : I64 w) (H : ∀ h', Ext h h' → R (.returned (.bool true)) h') :
    Ent Tryz.prog B 4 #[.int .i64 a, .int .i64 b, .int .i64 u, .int .i64 w] R h := by
  refine F1007_ok _ _ _ _ (K1017 ht ia fun lo hi neg p n c e err h1 f1 D U hfin hinf => ⟨_, _, _, _, _, _, _, _, rfl, spnmK fun r1 rx h2 f2 O1 X1 => ⟨by decide, ?_⟩⟩)
  have E2 := Ext.trans f1 f2
  refine K1017 (ht.ext E2) ib fun lo2 hi2 neg2 p2 n2 c2 e2 err2 h3 f3 D2 U2 hfin2 hinf2 => ⟨_, _, _, _, _, _, _, _, rfl, spnmK fun r2 ry h4 f4 O2 X2 => ?_⟩
  have g4 := Ext.trans f3 f4
  have E4 := Ext.trans E2 g4
  refine K1011 (ht.ext E4) fun h5 f5 => ⟨_, rfl, fun e => (by cases e), fun _ => ?_⟩
  have E5 := Ext.trans E4 f5
  have yes : F1007_j4 B R (some ⟨r1, 0, none⟩) (some ⟨rx, 0, none⟩) (some ⟨r2, 0, none⟩) (some ⟨ry, 0, none⟩) true h5 :=
    ⟨fun _ => K1011 (ht.ext E5) fun h6 f6 => ⟨_, rfl, H h6 (Ext.trans E5 f6)⟩, fun e => (by cases e)⟩
  cases fa : isFin a
  · rw [hinf fa]
    exact ⟨fun _ => yes, fun e => absurd e (by decide)⟩
  cases fb : isFin b
  · rw [hinf2 fb]
    exact ⟨fun _ => yes, fun _ => yes⟩
  obtain ⟨he, N1⟩ := hfin fa
  obtain ⟨he2, N2⟩ := hfin2 fb
  rw [he, he2]
  refine ⟨fun e => absurd e (by decide), fun _ => ?_⟩
  exact holds_j4 (ht.ext E5) (hk.ext E5) (hN.ext E5) ia ib fa fb (EncS.of ia fa D U) (EncS.of ib fb D2 U2) (O1.ext (Ext.trans g4 f5)) (X1.ext (Ext.trans g4 f5)) ((N1.ext f2).ext (Ext.trans g4 f5)) (O2.ext f5) (X2.ext f5) (N2.ext (Ext.trans f4 f5)) fun h' f => H h' (Ext.trans E5 f)
end Go.Proofs
