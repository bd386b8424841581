import Derived.Test.YtpkdpdpobddnpaaGreatFmtA52
/- Here stand lemmas: plumbref8.Meet and Join, and the walk of SpanTwos. -/
set_option linter.unusedVariables false
set_option linter.unusedVariables false
namespace Go.Eng
open Go
end Go.Eng
namespace Go.Proofs
open Go Go.Eng
variable {B : World} {R : Ending -> Heap -> Prop} {h : Heap}
theorem lh_rk {w : Nat} {a c : Int} {x y : EV} (H : LH a c x y) (hw : w = 1 \/ w = 2) (ia : I64 a) (ic : I64 c) (na : isNaN a = false) (nc : isNaN c = false) :
  rT w 1074 x.i x.v = min (rk a) (rk c) /\ rT w 1074 y.i y.v = max (rk a) (rk c) := by
 obtain ⟨h1, h2, h3, h4, h5, h6⟩ := H
 have ta := rT_of hw ia na
 have tc := rT_of hw ic nc
 have m3 := rT_mono (w := w) (K := 1074) hw h3
 have m4 := rT_mono (w := w) (K := 1074) hw h4
 have m5 := rT_mono (w := w) (K := 1074) hw h5
 have m6 := rT_mono (w := w) (K := 1074) hw h6
 rw [ta] at m3 m5
 rw [tc] at m4 m6
 have e1 : rT w 1074 x.i x.v = rk a \/ rT w 1074 x.i x.v = rk c := by
  rcases h1 with ⟨p, q⟩ | ⟨p, q⟩
  ·left; rw [p, q, ta]
  ·right; rw [p, q, tc]
 have e2 : rT w 1074 y.i y.v = rk a \/ rT w 1074 y.i y.v = rk c := by
  rcases h2 with ⟨p, q⟩ | ⟨p, q⟩
  ·left; rw [p, q, ta]
  ·right; rw [p, q, tc]
 constructor <;> omega
theorem lh_bl {a c : Int} {x y : EV} (H : LH a c x y) : bl x.v.natAbs <= 50000 /\ bl y.v.natAbs <= 50000 := by
 have ba := fWbl a
 have bc := fWbl c
 obtain ⟨h1, h2, _⟩ := H
 constructor
 ·rcases h1 with ⟨_, q⟩ | ⟨_, q⟩ <;> rw [q] <;> omega
 ·rcases h2 with ⟨_, q⟩ | ⟨_, q⟩ <;> rw [q] <;> omega
theorem lh_ord {a b c d : Int} {x y u v : EV} (ia : I64 a) (ib : I64 b) (ic : I64 c) (id' : I64 d) (na : isNaN a = false) (nb : isNaN b = false) (nc : isNaN c = false) (nd : isNaN d = false) (H : LH a c x y) (G : LH b d u v) :
  ordE y.i y.v u.i u.v <= 0 ↔ max (rk a) (rk c) <= min (rk b) (rk d) := by
 rw [ordE_le]
 have r1 := (lh_rk H (w := 1) (.inl rfl) ia ic na nc).2
 have r2 := (lh_rk G (w := 1) (.inl rfl) ib id' nb nd).1
 have e1 := H.2.1
 have e2 := G.1
 have lab := leE_of ia ib na nb
 have lad := leE_of ia id' na nd
 have lcb := leE_of ic ib nc nb
 have lcd := leE_of ic id' nc nd
 have ta := rT_of (w := 1) (.inl rfl) ia na
 have tb := rT_of (w := 1) (.inl rfl) ib nb
 have tc := rT_of (w := 1) (.inl rfl) ic nc
 have td := rT_of (w := 1) (.inl rfl) id' nd
 rcases e1 with ⟨p, q⟩ | ⟨p, q⟩ <;> rcases e2 with ⟨s, t⟩ | ⟨s, t⟩ <;> rw [p, q, s, t] <;> rw [p, q] at r1 <;> rw [s, t] at r2
 ·rw [lab]; omega
 ·rw [lad]; omega
 ·rw [lcb]; omega
 ·rw [lcd]; omega
theorem K1035 {a b c d : Int} (ia : I64 a) (ib : I64 b) (ic : I64 c) (id' : I64 d) (na : isNaN a = false) (nb : isNaN b = false) (nc : isNaN c = false) (nd : isNaN d = false)
  (Hno : min (rk b) (rk d) < max (rk a) (rk c) -> ∀ h', Ext h h' -> R (.returned (.tuple #[.agg #[.int .i64 0, .int .i64 0], .bool false])) h')
  (Hyes : max (rk a) (rk c) <= min (rk b) (rk d) -> ∀ x y h', Ext h h' -> SpR x y (max (rk a) (rk c)) (min (rk b) (rk d)) -> R (.returned (.tuple #[.agg #[.int .i64 x, .int .i64 y], .bool true])) h') :
  Ent Tryz.prog B 17 #[.agg #[.int .i64 a, .int .i64 b], .agg #[.int .i64 c, .int .i64 d]] R h := by
 refine F1035_ok _ _ _ _ (alK fun r1 h1 e1 f1 o1 z1 => alK fun r2 h2 e2 f2 o2 z2 => alK fun r3 h3 e3 f3 o3 z3 => ?_)
 have O1 := (o1.ext f2).ext f3
 have O2 := o2.ext f3
 have F3 := Ext.trans (Ext.trans f1 f2) f3
 have n3 : h.size <= r3 := by have := f1.size; have := f2.size; omega
 have l1 := O1.lt
 have l2 := O2.lt
 have l3 := o3.lt
 refine ⟨r1, 0, rfl, r1, 0, rfl, _, O1.cell _, r2, 0, rfl, r2, 0, rfl, _, O2.cell _, ?_⟩
 refine meet_lo (r4 := 0) (r5 := 0) O1 O2 ia ic na nc fun g fg rA lA oA rB lB oB dAB x y Nx Ny hQ => ?_
 have sg := fg.size
 refine wr4 oA fun g1 k1 q1 => wr4 (oB.fr k1 (fun e => dAB e.symm)) fun g2 k2 q2 => ?_
 have E2 : Ext h3 g2 := Fr.trans (Fr.trans fg k1 fun x hx e => by omega) k2 fun x hx e => by omega
 have Ny2 := (Ny.off oA zero4 k1).off (oB.fr k1 (fun e => dAB e.symm)) zero4 k2
 have P1 := O1.ext E2
 have P2 := O2.ext E2
 refine ⟨r1, 0, rfl, r1, 0 + 1, rfl, _, P1.cell _, r2, 0, rfl, r2, 0 + 1, rfl, _, P2.cell _, ?_⟩
 have tB := q2.lt
 refine meet_hi (r3 := 0) (r4 := 0) (r5 := 0) P1 P2 ib id' nb nd fun g' fg' sA mA pA sB mB pB dS u v Nu Nv hG => ?_
 have sg' := fg'.size
 refine wr4 pA fun g3 k3 q3 => wr4 (pB.fr k3 (fun e => dS e.symm)) fun g4 k4 q4 => ?_
 have E4 : Ext g2 g4 := Fr.trans (Fr.trans fg' k3 fun x hx e => by omega) k4 fun x hx e => by omega
 have Nu4 := (Nu.off pA zero4 k3).off (pB.fr k3 (fun e => dS e.symm)) zero4 k4
 have Ny4 := Ny2.ext E4
 have QB := q2.ext E4
 have QA := q3.fr k4 dS
 have o3' := (o3.ext E2).ext E4
 have F4 := Ext.trans (Ext.trans F3 E2) E4
 have hord := lh_ord ia ib ic id' na nb nc nd hQ hG
 refine ⟨rB, 0, rfl, _, QB.cell _, _, QB.cell _, _, _, _, QB.cell _, _, QB.cell _, sA, 0, rfl, _, QA.cell _, _, QA.cell _, _, _, _, QA.cell _, _, QA.cell _, ?_⟩
 refine K1061 Ny4 Nu4 (by decide) (lh_bl hQ).2 (lh_bl hG).1 fun g5 k5 => ⟨_, rfl, fun e => ?_, fun e => ?_⟩
 ·have hgt := of_decide_eq_true e
  have o5 := o3'.ext k5
  refine ⟨r3, 0, rfl, o5.stC (by simp) rfl fun oa fa => oa.stC (by simp) rfl fun ob fb => ⟨r3, 0, rfl, _, ob.cell _, _, ob.cell _, ?_⟩⟩
  have fab := Fr.trans (S := fun x => x = r3) fa fb fun _ _ e => e
  exact Hno (by omega) _ (Fr.trans (Ext.trans F4 k5) fab fun x hx e => by omega)
 ·have hle := of_decide_eq_false e
  have QB := QB.ext k5
  have QA := QA.ext k5
  refine ⟨rB, 0, rfl, _, QB.cell _, _, QB.cell _, _, _, _, QB.cell _, _, QB.cell _, sA, 0, rfl, _, QA.cell _, _, QA.cell _, _, _, _, QA.cell _, _, QA.cell _, ?_⟩
  refine K1063 (Ny4.ext k5) (Nu4.ext k5) fun p q g6 k6 ip iq np nq zp zq rp rq => ⟨_, _, rfl, ?_⟩
  have o6 := (o3'.ext k5).ext k6
  refine ⟨r3, 0, rfl, o6.stC (by simp) rfl fun oa fa => oa.stC (by simp) rfl fun ob fb => ⟨r3, 0, rfl, _, ob.cell _, _, ob.cell _, ?_⟩⟩
  have fab := Fr.trans (S := fun x => x = r3) fa fb fun _ _ e => e
  rw [(lh_rk hQ (.inl rfl) ia ic na nc).2] at rp
  rw [(lh_rk hG (.inr rfl) ib id' nb nd).1] at rq
  exact Hyes (by omega) p q _ (Fr.trans (Ext.trans (Ext.trans F4 k5) k6) fab fun x hx e => by omega) ⟨ip, iq, np, nq, zp, zq, rp, rq⟩
theorem K1039 {a b c d : Int} (ia : I64 a) (ib : I64 b) (ic : I64 c) (id' : I64 d) (na : isNaN a = false) (nb : isNaN b = false) (nc : isNaN c = false) (nd : isNaN d = false)
  (H : ∀ x y h', Ext h h' -> SpR x y (min (rk a) (rk c)) (max (rk b) (rk d)) -> R (.returned (.agg #[.int .i64 x, .int .i64 y])) h') :
  Ent Tryz.prog B 21 #[.agg #[.int .i64 a, .int .i64 b], .agg #[.int .i64 c, .int .i64 d]] R h := by
 refine F1039_ok _ _ _ _ (alK fun r1 h1 e1 f1 o1 z1 => alK fun r2 h2 e2 f2 o2 z2 => alK fun r3 h3 e3 f3 o3 z3 => ?_)
 have O1 := (o1.ext f2).ext f3
 have O2 := o2.ext f3
 have F3 := Ext.trans (Ext.trans f1 f2) f3
 have n3 : h.size <= r3 := by have := f1.size; have := f2.size; omega
 have l1 := O1.lt
 have l2 := O2.lt
 have l3 := o3.lt
 refine ⟨r1, 0, rfl, r1, 0, rfl, _, O1.cell _, r2, 0, rfl, r2, 0, rfl, _, O2.cell _, ?_⟩
 refine join_lo (r4 := 0) (r5 := 0) O1 O2 ia ic na nc fun g fg rA lA oA rB lB oB dAB x y Nx Ny hQ => ?_
 have sg := fg.size
 refine wr4 oA fun g1 k1 q1 => wr4 (oB.fr k1 (fun e => dAB e.symm)) fun g2 k2 q2 => ?_
 have E2 : Ext h3 g2 := Fr.trans (Fr.trans fg k1 fun x hx e => by omega) k2 fun x hx e => by omega
 have Nx2 := (Nx.off oA zero4 k1).off (oB.fr k1 (fun e => dAB e.symm)) zero4 k2
 have P1 := O1.ext E2
 have P2 := O2.ext E2
 have qA := q1.fr k2 dAB
 refine ⟨r1, 0, rfl, r1, 0 + 1, rfl, _, P1.cell _, r2, 0, rfl, r2, 0 + 1, rfl, _, P2.cell _, ?_⟩
 have tA := qA.lt
 refine join_hi (r3 := 0) (r4 := 0) (r5 := 0) P1 P2 ib id' nb nd fun g' fg' sA mA pA sB mB pB dS u v Nu Nv hG => ?_
 have sg' := fg'.size
 refine wr4 pA fun g3 k3 q3 => wr4 (pB.fr k3 (fun e => dS e.symm)) fun g4 k4 q4 => ?_
 have E4 : Ext g2 g4 := Fr.trans (Fr.trans fg' k3 fun x hx e => by omega) k4 fun x hx e => by omega
 have Nv4 := (Nv.off pA zero4 k3).off (pB.fr k3 (fun e => dS e.symm)) zero4 k4
 have Nx4 := Nx2.ext E4
 have QA := qA.ext E4
 have o3' := (o3.ext E2).ext E4
 have F4 := Ext.trans (Ext.trans F3 E2) E4
 refine ⟨rA, 0, rfl, _, QA.cell _, _, QA.cell _, _, _, _, QA.cell _, _, QA.cell _, sB, 0, rfl, _, q4.cell _, _, q4.cell _, _, _, _, q4.cell _, _, q4.cell _, ?_⟩
 refine K1063 Nx4 Nv4 fun p q g6 k6 ip iq np nq zp zq rp rq => ⟨_, _, rfl, ret2 (o3'.ext k6) fun g7 k7 => ?_⟩
 rw [(lh_rk hQ (.inl rfl) ia ic na nc).1] at rp
 rw [(lh_rk hG (.inr rfl) ib id' nb nd).2] at rq
 exact H p q g7 (Fr.trans (Ext.trans F4 k6) k7 fun x hx e => by omega) ⟨ip, iq, np, nq, zp, zq, rp, rq⟩
end Go.Proofs
set_option linter.unusedVariables false
namespace Go.Proofs
open Go Go.Eng
variable {B : World} {R : Ending -> Heap -> Prop} {h : Heap}
theorem K1034b {u w : Int} (H : ∀ h', Ext h h' -> R (.returned (.bool true)) h') : Ent Tryz.prog B 16 #[.agg #[.int .i64 0, .int .i64 0], .int .i64 (1 : Int), .bool true, .agg #[.int .i64 u, .int .i64 w]] R h := by
 refine F1034_ok _ _ _ _ _ _ (alK fun r1 h1 e1 f1 o1 z1 => alK fun r2 h2 e2 f2 o2 z2 => ⟨fun _ => ⟨fun _ => ⟨r1, 0, rfl, _, (o1.ext f2).cell _, _, (o1.ext f2).cell _, H h2 (Ext.trans f1 f2)⟩, fun e => absurd e (by decide)⟩, nofun⟩)
theorem K1034g {x y : Int} (H : ∀ h', Ext h h' -> R (.returned (.bool true)) h') : Ent Tryz.prog B 16 #[.agg #[.int .i64 x, .int .i64 y], .int .i64 (0 : Int), .bool false, .agg #[.int .i64 x, .int .i64 y]] R h := by
 refine F1034_ok _ _ _ _ _ _ (alK fun r1 h1 e1 f1 o1 z1 => alK fun r2 h2 e2 f2 o2 z2 => ⟨nofun, fun _ => ⟨fun _ => ⟨r1, 0, rfl, _, (o1.ext f2).cell _, _, (o1.ext f2).cell _, r2, 0, rfl, _, o2.cell _, _, o2.cell _, ?_⟩, fun e => absurd e (by decide)⟩⟩)
 have ea : (decide (x = x) && decide (y = y)) = true := by simp
 rw [ea]
 exact H h2 (Ext.trans f1 f2)
theorem K1026b {a b c d : Int} (hN : NoneH h) (ia : I64 a) (ib : I64 b) (ic : I64 c) (id' : I64 d) (hv : (vS a b && vS c d) = false)
  (H : ∀ h', Ext h h' -> R (.returned (.tuple #[.agg #[.int .i64 0, .int .i64 0], .int .i64 (1 : Int)])) h') :
  Ent Tryz.prog B 12 #[.agg #[.int .i64 a, .int .i64 b], .agg #[.int .i64 c, .int .i64 d]] R h := by
 refine F1026_ok _ _ _ _ (alK fun r1 h1 e1 f1 o1 z1 => alK fun r2 h2 e2 f2 o2 z2 => alK fun r3 h3 e3 f3 o3 z3 => ?_)
 have O1 := (o1.ext f2).ext f3
 have O2 := o2.ext f3
 have F3 := Ext.trans (Ext.trans f1 f2) f3
 refine ⟨r1, 0, rfl, _, O1.cell _, _, O1.cell _, r2, 0, rfl, _, O2.cell _, _, O2.cell _, alK fun r4 h4 e4 f4 o4 z4 => K1040p o4 ia ib ic id' fun h5 f5 => ⟨_, rfl, ?_⟩⟩
 rw [okS2, hv]
 have F5 := Ext.trans F3 (Ext.trans f4 f5)
 have O3 := (o3.ext f4).ext f5
 have N5 := hN.ext F5
 have n3 : h.size <= r3 := by have := f1.size; have := f2.size; omega
 refine ⟨fun _ => ⟨_, 0, rfl, _, N5.c0, _, N5.c1, r3, 0, rfl, O3.stC (by simp) rfl fun oa fa => oa.stC (by simp) rfl fun ob fb => ⟨r3, 0, rfl, _, ob.cell _, _, ob.cell _, ?_⟩⟩, nofun⟩
 have fab := Fr.trans (S := fun x => x = r3) fa fb fun _ _ e => e
 exact H _ (Fr.trans F5 fab fun x hx e => by omega)
theorem vS_neg {c d : Int} (ic : I64 c) (id' : I64 d) (hv : vS c d = true) : vS (cnP (negP d)) (cnP (negP c)) = true /\ I64 (cnP (negP d)) /\ I64 (cnP (negP c)) := by
 obtain ⟨nc, nd, h1, h2, h3⟩ := vS_parts hv
 obtain ⟨t1, t2, t3⟩ := rk_neg id' nd
 obtain ⟨s1, s2, s3⟩ := rk_neg ic nc
 obtain ⟨a1, a2, a3⟩ := cn_rk t2 t3
 obtain ⟨b1, b2, b3⟩ := cn_rk s2 s3
 refine ⟨?_, a3, b3⟩
 unfold vS
 rw [a2, b2, a1, b1, t1, s1, decide_eq_true (by omega), decide_eq_true (by omega), decide_eq_true (by omega)]; rfl
def MT (a b c d t1 t2 : Int) (th : Bool) : Prop :=
 (th = false /\ t1 = 0 /\ t2 = 0 /\ min (rk b) (rk d) < max (rk a) (rk c)) \/ (th = true /\ max (rk a) (rk c) <= min (rk b) (rk d) /\ SpR t1 t2 (max (rk a) (rk c)) (min (rk b) (rk d)))
theorem MT.uniq {a b c d t1 t2 u1 u2 : Int} {th uh : Bool} (H : MT a b c d t1 t2 th) (G : MT a b c d u1 u2 uh) : u1 = t1 /\ u2 = t2 /\ uh = th := by
 rcases H with ⟨h1, h2, h3, h4⟩ | ⟨h1, h2, h3⟩ <;> rcases G with ⟨g1, g2, g3, g4⟩ | ⟨g1, g2, g3⟩
 ·exact ⟨by rw [g2, h2], by rw [g3, h3], by rw [g1, h1]⟩
 ·omega
 ·omega
 ·obtain ⟨x, y⟩ := g3.uniq h3
  exact ⟨x, y, by rw [g1, h1]⟩
theorem K1013m {a b c d : Int} (hN : NoneH h) (ia : I64 a) (ib : I64 b) (ic : I64 c) (id' : I64 d) (hv : (vS a b && vS c d) = true)
  (H : ∀ t1 t2 th h', Ext h h' -> MT a b c d t1 t2 th -> R (.returned (.tuple #[.agg #[.int .i64 t1, .int .i64 t2], .bool th, .int .i64 (0 : Int)])) h') :
  Ent Tryz.prog B 14 #[.agg #[.int .i64 a, .int .i64 b], .agg #[.int .i64 c, .int .i64 d]] R h :=
 K1013 hN ia ib ic id' (fun e => by rw [hv] at e; cases e) (fun _ hl h' f => H 0 0 false h' f (.inl ⟨rfl, rfl, rfl, hl⟩)) fun _ hl lo hi h' f il ih nl nh rl rh => H _ _ true h' f (.inr ⟨rfl, hl, SpR.cn il ih nl nh rl rh⟩)
theorem K1035m {a b c d : Int} (ia : I64 a) (ib : I64 b) (ic : I64 c) (id' : I64 d) (na : isNaN a = false) (nb : isNaN b = false) (nc : isNaN c = false) (nd : isNaN d = false)
  (H : ∀ t1 t2 th h', Ext h h' -> MT a b c d t1 t2 th -> R (.returned (.tuple #[.agg #[.int .i64 t1, .int .i64 t2], .bool th])) h') :
  Ent Tryz.prog B 17 #[.agg #[.int .i64 a, .int .i64 b], .agg #[.int .i64 c, .int .i64 d]] R h :=
 K1035 ia ib ic id' na nb nc nd (fun hl h' f => H 0 0 false h' f (.inl ⟨rfl, rfl, rfl, hl⟩)) fun hl x y h' f S => H x y true h' f (.inr ⟨rfl, hl, S⟩)
theorem twos_bad {r1 r2 : Nat} {a b c d : Int} (ht : TabH h) (hk : TabK h) (hN : NoneH h) (ia : I64 a) (ib : I64 b) (ic : I64 c) (id' : I64 d) (O1 : Own h r1 #[.int .i64 a, .int .i64 b]) (O2 : Own h r2 #[.int .i64 c, .int .i64 d])
  (hv : (vS a b && vS c d) = false) (H : ∀ h', Ext h h' -> R (.returned (.bool true)) h') : F1012_j2 B R (some ⟨r1, 0, none⟩) (some ⟨r2, 0, none⟩) true h := by
 have nt : (vS a b && vS c d) = true -> False := fun e => by rw [hv] at e; cases e
 refine ⟨r1, 0, rfl, _, O1.cell _, _, O1.cell _, r2, 0, rfl, _, O2.cell _, _, O2.cell _, K1019 ht hN ia ib ic id' (fun _ h1 f1 => ⟨_, _, _, rfl, spK fun sa h2 l2 f2 Sa => ?_⟩) fun e => (nt e).elim⟩
 have g2 := Ext.trans f1 f2
 replace O1 := O1.ext g2
 replace O2 := O2.ext g2
 refine ⟨r1, 0, rfl, _, O1.cell _, _, O1.cell _, r2, 0, rfl, _, O2.cell _, _, O2.cell _, K1026b (hN.ext g2) ia ib ic id' hv fun h3 f3 => ⟨_, _, _, rfl, spK fun sb h4 l4 f4 Sb => ?_⟩⟩
 have g4 := Ext.trans f3 f4
 have E4 := Ext.trans g2 g4
 replace O1 := O1.ext g4
 replace O2 := O2.ext g4
 replace Sa := Sa.ext g4
 refine ⟨r1, 0, rfl, _, O1.cell _, _, O1.cell _, r2, 0, rfl, _, O2.cell _, _, O2.cell _, K1020 (ht.ext E4) (hk.ext E4) (hN.ext E4) ia ib ic id' (fun _ h5 f5 => ⟨_, _, _, rfl, spK fun sc h6 l6 f6 Sc => ?_⟩) fun e => (nt e).elim⟩
 have g6 := Ext.trans f5 f6
 have E6 := Ext.trans E4 g6
 replace O1 := O1.ext g6
 replace O2 := O2.ext g6
 replace Sa := Sa.ext g6
 replace Sb := Sb.ext g6
 refine ⟨r1, 0, rfl, _, O1.cell _, _, O1.cell _, r2, 0, rfl, _, O2.cell _, _, O2.cell _, K1013 (hN.ext E6) ia ib ic id' (fun _ h7 f7 => ⟨_, _, _, _, rfl, spK fun sd h8 l8 f8 Sd => ?_⟩) (fun e => (nt e).elim) fun e => (nt e).elim⟩
 have g8 := Ext.trans f7 f8
 have E8 := Ext.trans E6 g8
 replace O1 := O1.ext g8
 replace O2 := O2.ext g8
 replace Sa := Sa.ext g8
 replace Sb := Sb.ext g8
 replace Sc := Sc.ext g8
 refine ⟨r1, 0, rfl, _, O1.cell _, _, O1.cell _, r2, 0, rfl, _, O2.cell _, _, O2.cell _, K1016 (hN.ext E8) ia ib ic id' (fun _ h9 f9 => ⟨_, _, _, rfl, spK fun sj h10 l10 f10 Sj => ?_⟩) fun e => (nt e).elim⟩
 have g10 := Ext.trans f9 f10
 have E10 := Ext.trans E8 g10
 replace O1 := O1.ext g10
 replace Sa := Sa.ext g10
 replace Sb := Sb.ext g10
 replace Sc := Sc.ext g10
 replace Sd := Sd.ext g10
 refine ⟨fun _ => ⟨sa, 0, rfl, _, Sa.cell _, _, Sa.cell _, r1, 0, rfl, _, O1.cell _, _, O1.cell _, K1034b fun h11 f11 => ⟨_, rfl, fun _ => ?_, nofun⟩⟩, nofun⟩
 replace O1 := O1.ext f11
 replace Sb := Sb.ext f11
 refine ⟨sb, 0, rfl, _, Sb.cell _, _, Sb.cell _, r1, 0, rfl, _, O1.cell _, _, O1.cell _, K1034b fun h12 f12 => ⟨_, rfl, fun _ => ?_, nofun⟩⟩
 have k12 := Ext.trans f11 f12
 replace O1 := O1.ext f12
 replace Sc := Sc.ext k12
 refine ⟨sc, 0, rfl, _, Sc.cell _, _, Sc.cell _, r1, 0, rfl, _, O1.cell _, _, O1.cell _, K1034b fun h13 f13 => ⟨_, rfl, fun _ => ?_, nofun⟩⟩
 have k13 := Ext.trans k12 f13
 replace O1 := O1.ext f13
 replace Sd := Sd.ext k13
 refine ⟨sd, 0, rfl, _, Sd.cell _, _, Sd.cell _, r1, 0, rfl, _, O1.cell _, _, O1.cell _, K1034b fun h14 f14 => ⟨_, rfl, fun _ => ?_, nofun⟩⟩
 have k14 := Ext.trans k13 f14
 replace O1 := O1.ext f14
 replace Sj := Sj.ext k14
 refine ⟨fun _ => ⟨sj, 0, rfl, _, Sj.cell _, _, Sj.cell _, r1, 0, rfl, _, O1.cell _, _, O1.cell _, K1034b fun h15 f15 => ⟨_, rfl, H h15 (Ext.trans (Ext.trans E10 k14) f15)⟩⟩, nofun⟩
set_option maxHeartbeats 1000000 in
/-- twos, of two intervals. -/
theorem twos_ok {r1 r2 : Nat} {a b c d : Int} (ht : TabH h) (hk : TabK h) (hN : NoneH h) (ia : I64 a) (ib : I64 b) (ic : I64 c) (id' : I64 d) (O1 : Own h r1 #[.int .i64 a, .int .i64 b]) (O2 : Own h r2 #[.int .i64 c, .int .i64 d])
  (v1 : vS a b = true) (v2 : vS c d = true) (H : ∀ h', Ext h h' -> R (.returned (.bool true)) h') : F1012_j2 B R (some ⟨r1, 0, none⟩) (some ⟨r2, 0, none⟩) false h := by
 have hv : (vS a b && vS c d) = true := by rw [v1, v2]; rfl
 have nf : (vS a b && vS c d) = false -> False := fun e => by rw [hv] at e; cases e
 obtain ⟨na, nb, _, ka, kb⟩ := vS_parts v1
 obtain ⟨nc, nd, _, kc, kd⟩ := vS_parts v2
 obtain ⟨v3, i3, i4⟩ := vS_neg ic id' v2
 obtain ⟨n3, n4, _, k3, k4⟩ := vS_parts v3
 have pn1 := (rT_plus (w := 1) (.inl rfl) ia ic na nc (.inl ⟨ka, kc⟩)).2
 have pn2 := (rT_plus (w := 2) (.inr rfl) ib id' nb nd (.inr ⟨kb, kd⟩)).2
 have mn1 := (rT_plus (w := 1) (.inl rfl) ia i3 na n3 (.inl ⟨ka, k3⟩)).2
 have mn2 := (rT_plus (w := 2) (.inr rfl) ib i4 nb n4 (.inr ⟨kb, k4⟩)).2
 refine ⟨r1, 0, rfl, _, O1.cell _, _, O1.cell _, r2, 0, rfl, _, O2.cell _, _, O2.cell _, K1019 ht hN ia ib ic id' (fun e => (nf e).elim) fun _ h1 f1 => ⟨_, _, _, rfl, spK fun sa h2 l2 f2 Sa => ?_⟩⟩
 have g2 := Ext.trans f1 f2
 replace O1 := O1.ext g2
 replace O2 := O2.ext g2
 refine ⟨r1, 0, rfl, _, O1.cell _, _, O1.cell _, r2, 0, rfl, _, O2.cell _, _, O2.cell _, K1026 (ht.ext g2) (hN.ext g2) ia ib ic id' v1 v2 v3 i3 i4 fun h3 f3 => ⟨_, _, _, rfl, spK fun sb h4 l4 f4 Sb => ?_⟩⟩
 have g4 := Ext.trans f3 f4
 have E4 := Ext.trans g2 g4
 replace O1 := O1.ext g4
 replace O2 := O2.ext g4
 replace Sa := Sa.ext g4
 refine ⟨r1, 0, rfl, _, O1.cell _, _, O1.cell _, r2, 0, rfl, _, O2.cell _, _, O2.cell _, K1020 (ht.ext E4) (hk.ext E4) (hN.ext E4) ia ib ic id' (fun e => (nf e).elim) fun _ m1 m2 h5 f5 im1 im2 nm1 nm2 rm1 rm2 => ⟨_, _, _, rfl, spK fun sc h6 l6 f6 Sc => ?_⟩⟩
 have g6 := Ext.trans f5 f6
 have E6 := Ext.trans E4 g6
 replace O1 := O1.ext g6
 replace O2 := O2.ext g6
 replace Sa := Sa.ext g6
 replace Sb := Sb.ext g6
 refine ⟨r1, 0, rfl, _, O1.cell _, _, O1.cell _, r2, 0, rfl, _, O2.cell _, _, O2.cell _, K1013m (hN.ext E6) ia ib ic id' hv fun t1 t2 th h7 f7 hM => ⟨_, _, _, _, rfl, spK fun sd h8 l8 f8 Sd => ?_⟩⟩
 have g8 := Ext.trans f7 f8
 have E8 := Ext.trans E6 g8
 replace O1 := O1.ext g8
 replace O2 := O2.ext g8
 replace Sa := Sa.ext g8
 replace Sb := Sb.ext g8
 replace Sc := Sc.ext g8
 refine ⟨r1, 0, rfl, _, O1.cell _, _, O1.cell _, r2, 0, rfl, _, O2.cell _, _, O2.cell _, K1016 (hN.ext E8) ia ib ic id' (fun e => (nf e).elim) fun _ jl jh h9 f9 ij1 ij2 nj1 nj2 rj1 rj2 => ⟨_, _, _, rfl, spK fun sj h10 l10 f10 Sj => ?_⟩⟩
 have g10 := Ext.trans f9 f10
 have E10 := Ext.trans E8 g10
 replace O1 := O1.ext g10
 replace O2 := O2.ext g10
 replace Sa := Sa.ext g10
 replace Sb := Sb.ext g10
 replace Sc := Sc.ext g10
 replace Sd := Sd.ext g10
 refine ⟨nofun, fun _ => ⟨r1, 0, rfl, _, O1.cell _, _, O1.cell _, r2, 0, rfl, _, O2.cell _, _, O2.cell _, K1035m ia ib ic id' na nb nc nd fun w1 w2 ok h11 f11 hW => ⟨_, _, _, rfl, spK fun sm h12 l12 f12 Sm => ?_⟩⟩⟩
 obtain ⟨x1, x2, x3⟩ := hM.uniq hW
 subst x1 x2 x3
 have g12 := Ext.trans f11 f12
 have E12 := Ext.trans E10 g12
 replace O1 := O1.ext g12
 replace O2 := O2.ext g12
 replace Sa := Sa.ext g12
 replace Sb := Sb.ext g12
 replace Sc := Sc.ext g12
 replace Sd := Sd.ext g12
 replace Sj := Sj.ext g12
 refine ⟨sa, 0, rfl, _, Sa.cell _, _, Sa.cell _, r1, 0, rfl, _, O1.cell _, _, O1.cell _, r2, 0, rfl, _, O2.cell _, _, O2.cell _, K1036 ia ib ic id' v1 v2 fun x y h13 f13 T => ⟨_, _, rfl, sameN Sa f13 id 2, ?_⟩⟩
 obtain ⟨x1, x2⟩ := T.uniq (SpR.cn (addW_I64 1 a c) (addW_I64 2 b d) pn1 pn2 rfl rfl)
 subst x1 x2
 refine K1034g fun h14 f14 => ⟨_, rfl, fun _ => ?_, nofun⟩
 have k14 := Ext.trans f13 f14
 replace O1 := O1.ext k14
 replace O2 := O2.ext k14
 replace Sb := Sb.ext k14
 refine ⟨sb, 0, rfl, _, Sb.cell _, _, Sb.cell _, r1, 0, rfl, _, O1.cell _, _, O1.cell _, r2, 0, rfl, _, O2.cell _, _, O2.cell _, K1037 ia ib ic id' v1 v2 v3 fun x y h15 f15 T => ⟨_, _, rfl, sameN Sb f15 id 2, ?_⟩⟩
 obtain ⟨x1, x2⟩ := T.uniq (SpR.cn (addW_I64 1 a _) (addW_I64 2 b _) mn1 mn2 rfl rfl)
 subst x1 x2
 refine K1034g fun h16 f16 => ⟨_, rfl, fun _ => ?_, nofun⟩
 have j16 := Ext.trans f15 f16
 have k16 := Ext.trans k14 j16
 replace O1 := O1.ext j16
 replace O2 := O2.ext j16
 replace Sc := Sc.ext k16
 refine ⟨sc, 0, rfl, _, Sc.cell _, _, Sc.cell _, r1, 0, rfl, _, O1.cell _, _, O1.cell _, r2, 0, rfl, _, O2.cell _, _, O2.cell _, K1038 ia ib ic id' na nb nc nd fun x y h17 f17 T => ⟨_, _, rfl, sameN Sc f17 id 2, ?_⟩⟩
 obtain ⟨x1, x2⟩ := T.uniq (SpR.cn im1 im2 nm1 nm2 rm1 rm2)
 subst x1 x2
 refine K1034g fun h18 f18 => ⟨_, rfl, fun _ => ?_, nofun⟩
 have j18 := Ext.trans f17 f18
 have k18 := Ext.trans k16 j18
 replace O1 := O1.ext j18
 replace O2 := O2.ext j18
 replace Sd := Sd.ext k18
 replace Sm := Sm.ext k18
 refine ⟨sd, 0, rfl, _, Sd.cell _, _, Sd.cell _, sm, 0, rfl, _, Sm.cell _, _, Sm.cell _, K1034g fun h19 f19 => ⟨_, rfl, fun _ => ?_, nofun⟩⟩
 have k19 := Ext.trans k18 f19
 replace O1 := O1.ext f19
 replace O2 := O2.ext f19
 replace Sj := Sj.ext k19
 rw [beq_self_eq_true]
 refine ⟨fun _ => ⟨sj, 0, rfl, _, Sj.cell _, _, Sj.cell _, r1, 0, rfl, _, O1.cell _, _, O1.cell _, r2, 0, rfl, _, O2.cell _, _, O2.cell _, K1039 ia ib ic id' na nb nc nd fun x y h20 f20 T => ⟨_, _, rfl, sameN Sj f20 id 2, ?_⟩⟩, nofun⟩
 obtain ⟨x1, x2⟩ := T.uniq (SpR.cn ij1 ij2 nj1 nj2 rj1 rj2)
 subst x1 x2
 exact K1034g fun h21 f21 => ⟨_, rfl, H h21 (Ext.trans (Ext.trans (Ext.trans E12 k19) f20) f21)⟩
theorem K1012 {a b c d : Int} (ht : TabH h) (hk : TabK h) (hN : NoneH h) (ia : I64 a) (ib : I64 b) (ic : I64 c) (id' : I64 d) (H : ∀ h', Ext h h' -> R (.returned (.bool true)) h') :
  Ent Tryz.prog B 7 #[.agg #[.int .i64 a, .int .i64 b], .agg #[.int .i64 c, .int .i64 d]] R h := by
 refine F1012_ok _ _ _ _ (alK fun r1 h1 e1 f1 o1 z1 => alK fun r2 h2 e2 f2 o2 z2 => ?_)
 have O1 := o1.ext f2
 have F2 := Ext.trans f1 f2
 refine ⟨r1, 0, rfl, _, O1.cell _, _, O1.cell _, K1033 ia ib fun h3 f3 => ⟨_, rfl, ?_⟩⟩
 have F3 := Ext.trans F2 f3
 cases v1 : vS a b
 ·refine ⟨fun _ => ?_, nofun⟩
  exact twos_bad (ht.ext F3) (hk.ext F3) (hN.ext F3) ia ib ic id' (O1.ext f3) (o2.ext f3) (by rw [v1]; rfl) fun h' f => H h' (Ext.trans F3 f)
 ·have O2 := o2.ext f3
  refine ⟨nofun, fun _ => ⟨r2, 0, rfl, _, O2.cell _, _, O2.cell _, K1033 ic id' fun h4 f4 => ⟨_, rfl, ?_⟩⟩⟩
  have F4 := Ext.trans F3 f4
  cases v2 : vS c d
  ·exact twos_bad (ht.ext F4) (hk.ext F4) (hN.ext F4) ia ib ic id' ((O1.ext f3).ext f4) (O2.ext f4) (by rw [v1, v2]; rfl) fun h' f => H h' (Ext.trans F4 f)
  ·exact twos_ok (ht.ext F4) (hk.ext F4) (hN.ext F4) ia ib ic id' ((O1.ext f3).ext f4) (O2.ext f4) v1 v2 fun h' f => H h' (Ext.trans F4 f)
theorem K1003 {a b c d : Int} (ht : TabH h) (hk : TabK h) (hN : NoneH h) (ia : I64 a) (ib : I64 b) (ic : I64 c) (id' : I64 d) (H : ∀ h', Ext h h' -> R (.returned (.bool true)) h') :
  Ent Tryz.prog B 3 #[.agg #[.int .i64 a, .int .i64 b], .agg #[.int .i64 c, .int .i64 d]] R h := by
 refine F1003_ok _ _ _ _ (alK fun r1 h1 e1 f1 o1 z1 => alK fun r2 h2 e2 f2 o2 z2 => ?_)
 have F2 := Ext.trans f1 f2
 refine K1011 (ht.ext F2) fun h3 f3 => ⟨_, rfl, fun _ => ?_, nofun⟩
 have F3 := Ext.trans F2 f3
 have O1 := (o1.ext f2).ext f3
 have O2 := o2.ext f3
 refine ⟨r1, 0, rfl, _, O1.cell _, _, O1.cell _, r2, 0, rfl, _, O2.cell _, _, O2.cell _, K1012 (ht.ext F3) (hk.ext F3) (hN.ext F3) ia ib ic id' fun h4 f4 => ⟨_, rfl, fun _ => ?_, nofun⟩⟩
 have F4 := Ext.trans F3 f4
 replace O1 := O1.ext f4
 replace O2 := O2.ext f4
 exact ⟨r2, 0, rfl, _, O2.cell _, _, O2.cell _, r1, 0, rfl, _, O1.cell _, _, O1.cell _, K1012 (ht.ext F4) (hk.ext F4) (hN.ext F4) ic id' ia ib fun h5 f5 => ⟨_, rfl, H h5 (Ext.trans F4 f5)⟩⟩
end Go.Proofs
