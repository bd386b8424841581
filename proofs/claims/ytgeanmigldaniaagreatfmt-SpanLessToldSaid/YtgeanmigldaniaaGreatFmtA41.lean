import Derived.Test.YtgeanmigldaniaaGreatFmtA40
/- Here stand lemmas: the walk of SpanLess, and words for it. -/
set_option linter.unusedVariables false
set_option linter.unusedVariables false
namespace Go.Eng
open Go
theorem same2 {h h' : Heap} {b : Nat} {cs : Array Value} {S : Nat → Prop} (H : Own h b cs) (f : Fr S h h') (hb : ¬ S b) : sameCells h h' b 0 2 := by
  have h1 := H.fr f hb
  simp only [sameCells]
  simp [H.cell, h1.cell]
/-- An interval around a finite float. -/
structure EncS (lo hi a : Int) : Prop where
  il : I64 lo
  ih : I64 hi
  nl : isNaN lo = false
  nh : isNaN hi = false
  l : rk lo ≤ rk a
  h : rk a ≤ rk hi
theorem EncS.v {lo hi a : Int} (E : EncS lo hi a) (ia : I64 a) (fa : isFin a = true) : vS lo hi = true := by
  have := fin_rk ia fa
  have := E.l
  have := E.h
  unfold vS
  rw [E.nl, E.nh, decide_eq_true (by omega), decide_eq_true (by omega), decide_eq_true (by omega)]; rfl
theorem PtS.enc {A a : Int} (P : PtS A a) : EncS A A a := ⟨P.i, P.i, P.n, P.n, by rw [P.r]; omega, by rw [P.r]; omega⟩
end Go.Eng
namespace Go.Proofs
open Go Go.Eng
variable {B : World} {R : Ending → Heap → Prop} {h : Heap}
/-- A new pair, written. -/
theorem spK {h : Heap} {x y : Int} {e : TypeId} {K : Nat → Heap → Prop} (k : ∀ r h', h.size ≤ r → Ext h h' → Own h' r #[.int .i64 x, .int .i64 y] → K r h') :
    alW h (.cells #[.int .i64 0, .int .i64 0] e) fun r h1 => iP r 0 fun b o => stC h1 b o (.int .i64 x) fun h2 => stC h2 b (o + 1) (.int .i64 y) fun h3 => K r h3 := by
  refine alK fun r1 h1 e1 f1 o1 z1 => ⟨r1, 0, rfl, o1.stC (by simp) rfl fun oa fa => oa.stC (by simp) rfl fun ob fb => ?_⟩
  have fab := Fr.trans (S := fun x => x = r1) fa fb fun _ _ e => e
  exact k r1 _ (by omega) (Fr.trans f1 fab fun x hx e => by omega) ob
theorem EncS.of {a lo hi : Int} {j k : Nat} (ia : I64 a) (fa : isFin a = true) (D : Dn a lo j) (U : Up a hi k) : EncS lo hi a := by
  have na := (fin_not fa).1
  obtain ⟨d1, d2⟩ := D.2 na
  obtain ⟨u1, u2⟩ := U.2 na
  have := fin_rk ia fa
  exact ⟨D.1, U.1, d1, u1, by omega, by omega⟩
/-- plumblaw8.SpanLess, of finite ones. -/
theorem less_j4 {r1 rx r2 ry n c n2 c2 : Nat} {a b lo hi lo2 hi2 e e2 : Int} {neg neg2 : Bool} {p p2 : Option Addr} (ht : TabH h) (hk : TabK h) (hN : NoneH h) (ia : I64 a) (ib : I64 b) (fa : isFin a = true) (fb : isFin b = true) (S : EncS lo hi a) (T : EncS lo2 hi2 b)
    (O1 : Own h r1 #[.int .i64 lo, .int .i64 hi]) (X1 : Own h rx #[.bool neg, .slice p n c, .int .i64 e]) (N1 : NumS 1074 h neg p n e (fV a))
    (O2 : Own h r2 #[.int .i64 lo2, .int .i64 hi2]) (X2 : Own h ry #[.bool neg2, .slice p2 n2 c2, .int .i64 e2]) (N2 : NumS 1074 h neg2 p2 n2 e2 (fV b))
    (H : ∀ h', Ext h h' → R (.returned (.bool true)) h') :
    F1005_j4 B R (some ⟨r1, 0, none⟩) (some ⟨rx, 0, none⟩) (some ⟨r2, 0, none⟩) (some ⟨ry, 0, none⟩) false h := by
  have PA1 := around_pt (w := 1) (.inl rfl) ia fa
  have PA2 := around_pt (w := 2) (.inr rfl) ia fa
  have PB1 := around_pt (w := 1) (.inl rfl) ib fb
  have PB2 := around_pt (w := 2) (.inr rfl) ib fb
  have eA := PA2.uniq PA1
  have eB := PB2.uniq PB1
  have vst : (vS lo hi && vS lo2 hi2) = true := by rw [S.v ia fa, T.v ib fb]; rfl
  refine ⟨fun e => (by cases e), fun _ => ⟨rx, 0, rfl, _, X1.cell _, _, _, _, X1.cell _, _, X1.cell _, K1018 N1 fun h1 f1 => ⟨_, _, _, rfl, spK fun rp h2 l2 f2 Op => ?_⟩⟩⟩
  rw [eA] at Op
  have E2 := Ext.trans f1 f2
  have X2a := X2.ext E2
  refine ⟨ry, 0, rfl, _, X2a.cell _, _, _, _, X2a.cell _, _, X2a.cell _, K1018 (N2.ext E2) fun h3 f3 => ⟨_, _, _, rfl, spK fun rq h4 l4 f4 Oq => ?_⟩⟩
  rw [eB] at Oq
  have g4 := Ext.trans f3 f4
  have E4 := Ext.trans E2 g4
  replace Op := Op.ext g4
  generalize cnP (pz (dirV 1 (fV a) (-((1074 : Nat) : Int)))) = A at *
  generalize cnP (pz (dirV 1 (fV b) (-((1074 : Nat) : Int)))) = C at *
  clear PA2 PB2 eA eB
  have vpq : (vS A A && vS C C) = true := by rw [PA1.enc.v ia fa, PB1.enc.v ib fb]; rfl
  replace O1 := O1.ext E4
  replace O2 := O2.ext E4
  replace ht := ht.ext E4
  replace hk := hk.ext E4
  replace hN := hN.ext E4
  refine ⟨r1, 0, rfl, _, O1.cell _, _, O1.cell _, r2, 0, rfl, _, O2.cell _, _, O2.cell _, K1019 ht hN S.il S.ih T.il T.ih (fun e => by rw [vst] at e; cases e) fun _ h5 f5 => ⟨_, _, _, rfl, spK fun rc h6 l6 f6 Oc => ?_⟩⟩
  have g6 := Ext.trans f5 f6
  have E6 := Ext.trans E4 g6
  replace Op := Op.ext g6
  replace Oq := Oq.ext g6
  replace O1 := O1.ext g6
  replace O2 := O2.ext g6
  replace ht := ht.ext g6
  replace hk := hk.ext g6
  replace hN := hN.ext g6
  refine ⟨rp, 0, rfl, _, Op.cell _, _, Op.cell _, rq, 0, rfl, _, Oq.cell _, _, Oq.cell _, K1019 ht hN PA1.i PA1.i PB1.i PB1.i (fun e => by rw [vpq] at e; cases e) fun _ h7 f7 => ⟨_, _, _, rfl, spK fun rd h8 l8 f8 Od => ?_⟩⟩
  have g8 := Ext.trans f7 f8
  have E8 := Ext.trans E6 g8
  replace Op := Op.ext g8
  replace Oq := Oq.ext g8
  replace O1 := O1.ext g8
  replace O2 := O2.ext g8
  replace Oc := Oc.ext g8
  replace ht := ht.ext g8
  replace hk := hk.ext g8
  replace hN := hN.ext g8
  refine ⟨r1, 0, rfl, _, O1.cell _, _, O1.cell _, r2, 0, rfl, _, O2.cell _, _, O2.cell _, K1020 ht hk hN S.il S.ih T.il T.ih (fun e => by rw [vst] at e; cases e) fun _ m1 m2 h9 f9 im1 im2 nm1 nm2 rm1 rm2 => ⟨_, _, _, rfl, spK fun rm h10 l10 f10 Om => ?_⟩⟩
  have g10 := Ext.trans f9 f10
  have E10 := Ext.trans E8 g10
  replace Op := Op.ext g10
  replace Oq := Oq.ext g10
  replace O1 := O1.ext g10
  replace Oc := Oc.ext g10
  replace Od := Od.ext g10
  replace ht := ht.ext g10
  replace hk := hk.ext g10
  replace hN := hN.ext g10
  refine ⟨rp, 0, rfl, _, Op.cell _, _, Op.cell _, rq, 0, rfl, _, Oq.cell _, _, Oq.cell _, K1020 ht hk hN PA1.i PA1.i PB1.i PB1.i (fun e => by rw [vpq] at e; cases e) fun _ n1 n2 h11 f11 in1 in2 nn1 nn2 rn1 rn2 => ⟨_, _, _, rfl, spK fun rn h12 l12 f12 On => ?_⟩⟩
  have g12 := Ext.trans f11 f12
  have E12 := Ext.trans E10 g12
  replace Op := Op.ext g12
  replace O1 := O1.ext g12
  replace Oc := Oc.ext g12
  replace Od := Od.ext g12
  replace Om := Om.ext g12
  replace ht := ht.ext g12
  replace hk := hk.ext g12
  replace hN := hN.ext g12
  refine ⟨r1, 0, rfl, _, O1.cell _, _, O1.cell _, K1021 ht hk hN S.il S.ih (fun e => by rw [S.v ia fa] at e; cases e) fun _ v1 v2 h13 f13 iv1 iv2 nv1 nv2 rv1 rv2 => ⟨_, _, _, rfl, spK fun rv h14 l14 f14 Ov => ?_⟩⟩
  have g14 := Ext.trans f13 f14
  have E14 := Ext.trans E12 g14
  replace Op := Op.ext g14
  replace O1 := O1.ext g14
  replace Oc := Oc.ext g14
  replace Od := Od.ext g14
  replace Om := Om.ext g14
  replace On := On.ext g14
  replace ht := ht.ext g14
  replace hk := hk.ext g14
  replace hN := hN.ext g14
  refine ⟨rp, 0, rfl, _, Op.cell _, _, Op.cell _, K1021 ht hk hN PA1.i PA1.i (fun e => by rw [PA1.enc.v ia fa] at e; cases e) fun _ w1 w2 h15 f15 iw1 iw2 nw1 nw2 rw1 rw2 => ⟨_, _, _, rfl, spK fun rw' h16 l16 f16 Ow => ?_⟩⟩
  have g16 := Ext.trans f15 f16
  have E16 := Ext.trans E14 g16
  replace O1 := O1.ext g16
  replace Oc := Oc.ext g16
  replace Od := Od.ext g16
  replace Om := Om.ext g16
  replace On := On.ext g16
  replace Ov := Ov.ext g16
  replace ht := ht.ext g16
  replace hk := hk.ext g16
  replace hN := hN.ext g16
  obtain ⟨tc, tc1, tc2⟩ := add_tol S.il S.ih T.il T.ih ia ib S.nl S.nh T.nl T.nh fa fb S.l S.h T.l T.h
  obtain ⟨td, _, _⟩ := add_tol PA1.i PA1.i PB1.i PB1.i ia ib PA1.n PA1.n PB1.n PB1.n fa fb PA1.enc.l PA1.enc.h PB1.enc.l PB1.enc.h
  have td1 := add_pt (w := 1) (.inl rfl) PA1 PB1 ia ib fa fb
  have td2 := add_pt (w := 2) (.inr rfl) PA1 PB1 ia ib fa fb
  rw [show (1 : Int).toNat = 1 from rfl] at td1
  rw [show (2 : Int).toNat = 2 from rfl] at td2
  obtain ⟨tm, tm1, tm2⟩ := mul_tol S.il S.ih T.il T.ih ia ib S.nl S.nh T.nl T.nh fa fb S.l S.h T.l T.h im1 im2 nm1 nm2 rm1 rm2
  obtain ⟨tn, _, _⟩ := mul_tol PA1.i PA1.i PB1.i PB1.i ia ib PA1.n PA1.n PB1.n PB1.n fa fb PA1.enc.l PA1.enc.h PB1.enc.l PB1.enc.h in1 in2 nn1 nn2 rn1 rn2
  have tn1 := mul_pt (w := 1) (.inl rfl) PA1 PB1 ia ib fa fb in1 nn1 (.inl rn1)
  have tn2 := mul_pt (w := 2) (.inr rfl) PA1 PB1 ia ib fa fb in2 nn2 (.inr rn2)
  rw [show (1 : Int).toNat = 1 from rfl] at tn1
  rw [show (2 : Int).toNat = 2 from rfl] at tn2
  obtain ⟨tv, tv1, tv2⟩ := sq_tol S.il S.ih ia S.nl S.nh fa S.l S.h iv1 iv2 nv1 nv2 rv1 rv2
  obtain ⟨tw, _, _⟩ := sq_tol PA1.i PA1.i ia PA1.n PA1.n fa PA1.enc.l PA1.enc.h iw1 iw2 nw1 nw2 rw1 rw2
  have tw1 := sq_lo_pt PA1 ia fa iw1 nw1 rw1
  have tw2 := sq_hi_pt PA1 ia fa iw2 nw2 rw2
  refine ⟨rd, 0, rfl, _, Od.cell _, _, Od.cell _, rc, 0, rfl, _, Oc.cell _, _, Oc.cell _, K1022 hN td tc (by omega) (by omega) fun h17 f17 => ⟨_, rfl, fun _ => ?_, fun e => (by cases e)⟩⟩
  have E17 := Ext.trans E16 f17
  replace O1 := O1.ext f17
  replace Om := Om.ext f17
  replace On := On.ext f17
  replace Ov := Ov.ext f17
  replace Ow := Ow.ext f17
  replace ht := ht.ext f17
  replace hk := hk.ext f17
  replace hN := hN.ext f17
  refine ⟨rn, 0, rfl, _, On.cell _, _, On.cell _, rm, 0, rfl, _, Om.cell _, _, Om.cell _, K1022 hN tn tm (by omega) (by omega) fun h18 f18 => ⟨_, rfl, fun _ => ?_, fun e => (by cases e)⟩⟩
  have E18 := Ext.trans E17 f18
  replace O1 := O1.ext f18
  replace Ov := Ov.ext f18
  replace Ow := Ow.ext f18
  replace ht := ht.ext f18
  replace hk := hk.ext f18
  replace hN := hN.ext f18
  refine ⟨rw', 0, rfl, _, Ow.cell _, _, Ow.cell _, rv, 0, rfl, _, Ov.cell _, _, Ov.cell _, K1022 hN tw tv (by omega) (by omega) fun h19 f19 => ⟨_, rfl, fun _ => ?_, fun e => (by cases e)⟩⟩
  have E19 := Ext.trans E18 f19
  replace O1 := O1.ext f19
  replace Ow := Ow.ext f19
  replace ht := ht.ext f19
  replace hk := hk.ext f19
  replace hN := hN.ext f19
  refine ⟨rw', 0, rfl, _, Ow.cell _, _, Ow.cell _, r1, 0, rfl, _, O1.cell _, _, O1.cell _, K1023 ht hk hN S.il S.ih (S.v ia fa) fun x y h20 f20 ix iy nx ny rx ry => ⟨_, _, rfl, same2 Ow f20 id, ?_⟩⟩
  obtain ⟨ts, ts1, ts2⟩ := mul_tol S.il S.ih S.il S.ih ia ia S.nl S.nh S.nl S.nh fa fa S.l S.h S.l S.h ix iy nx ny rx ry
  exact K1022 (hN.ext f20) tw ts (by omega) (by omega) fun h21 f21 => ⟨_, rfl, H h21 (Ext.trans (Ext.trans E19 f20) f21)⟩
end Go.Proofs
set_option linter.unusedVariables false
namespace Go.Proofs
open Go Go.Eng
variable {B : World} {R : Ending → Heap → Prop} {h : Heap}
/-- A new pair and a new number, written. -/
theorem spnmK {h : Heap} {x y ex : Int} {ng : Bool} {p : Option Addr} {n c : Nat} {e1 e2 : TypeId} {K : Nat → Nat → Heap → Prop} (k : ∀ r rx h', Ext h h' → Own h' r #[.int .i64 x, .int .i64 y] → Own h' rx #[.bool ng, .slice p n c, .int .i64 ex] → K r rx h') :
    alW h (.cells #[.int .i64 0, .int .i64 0] e1) fun r h1 => alW h1 (.cells #[.bool false, .slice none 0 0, .int .i64 0] e2) fun rx h2 => iP r 0 fun b o => stC h2 b o (.int .i64 x) fun h3 => stC h3 b (o + 1) (.int .i64 y) fun h4 =>
      iP rx 0 fun b' o' => stC h4 b' o' (.bool ng) fun h5 => stC h5 b' (o' + 1) (.slice p n c) fun h6 => stC h6 b' (o' + 1 + 1) (.int .i64 ex) fun h7 => K r rx h7 := by
  refine alK fun r1 h1 e1 f1 o1 z1 => alK fun r2 h2 e2 f2 o2 z2 => ⟨r1, 0, rfl, (o1.ext f2).stC (by simp) rfl fun oa fa => oa.stC (by simp) rfl fun ob fb => ?_⟩
  have fab := Fr.trans (S := fun x => x = r1) fa fb fun _ _ e => e
  have o2' := o2.fr fab (by omega)
  refine ⟨r2, 0, rfl, o2'.stC (by simp) rfl fun oc fc => oc.stC (by simp) rfl fun od fd => od.stC (by simp) rfl fun oe fe => ?_⟩
  have fce := Fr.trans (S := fun x => x = r2) (Fr.trans (S := fun x => x = r2) fc fd fun _ _ e => e) fe fun _ _ e => e
  exact k r1 r2 _ (Fr.trans (Fr.trans (Ext.trans f1 f2) fab fun x hx e => by omega) fce fun x hx e => by omega) (ob.fr fce (by omega)) oe
/-- plumblaw8.SpanLess. -/
theorem K1005 {a b u w : Int} (ht : TabH h) (hk : TabK h) (hN : NoneH h) (ia : I64 a) (ib : I64 b) (iu : I64 u) (iw : I64 w) (H : ∀ h', Ext h h' → R (.returned (.bool true)) h') :
    Ent Tryz.prog B 3 #[.int .i64 a, .int .i64 b, .int .i64 u, .int .i64 w] R h := by
  refine F1005_ok _ _ _ _ (K1017 ht ia fun lo hi neg p n c e err h1 f1 D U hfin hinf => ⟨_, _, _, _, _, _, _, _, rfl, spnmK fun r1 rx h2 f2 O1 X1 => ⟨by decide, by decide, ?_⟩⟩)
  have E2 := Ext.trans f1 f2
  refine K1017 (ht.ext E2) ib fun lo2 hi2 neg2 p2 n2 c2 e2 err2 h3 f3 D2 U2 hfin2 hinf2 => ⟨_, _, _, _, _, _, _, _, rfl, spnmK fun r2 ry h4 f4 O2 X2 => ?_⟩
  have g4 := Ext.trans f3 f4
  have E4 := Ext.trans E2 g4
  refine K1011 (ht.ext E4) fun h5 f5 => ⟨_, rfl, fun e => (by cases e), fun _ => ?_⟩
  have E5 := Ext.trans E4 f5
  have yes : F1005_j4 B R (some ⟨r1, 0, none⟩) (some ⟨rx, 0, none⟩) (some ⟨r2, 0, none⟩) (some ⟨ry, 0, none⟩) true h5 :=
    ⟨fun _ => K1011 (ht.ext E5) fun h6 f6 => ⟨_, rfl, H h6 (Ext.trans E5 f6)⟩, fun e => (by cases e)⟩
  cases fa : isFin a
  · rw [hinf fa]
    exact ⟨fun _ => yes, fun e => absurd e (by decide)⟩
  cases fb : isFin b
  · rw [hinf2 fb]
    exact ⟨fun _ => yes, fun _ => yes⟩
  obtain ⟨he, N1⟩ := hfin fa
  obtain ⟨he2, N2⟩ := hfin2 fb
  rw [he, he2]
  refine ⟨fun e => absurd e (by decide), fun _ => ?_⟩
  exact less_j4 (ht.ext E5) (hk.ext E5) (hN.ext E5) ia ib fa fb (EncS.of ia fa D U) (EncS.of ib fb D2 U2) (O1.ext (Ext.trans g4 f5)) (X1.ext (Ext.trans g4 f5)) ((N1.ext f2).ext (Ext.trans g4 f5)) (O2.ext f5) (X2.ext f5) (N2.ext (Ext.trans f4 f5)) fun h' f => H h' (Ext.trans E5 f)
end Go.Proofs
