import Derived.Test.YtobkdplpkgikhaaGreatFmtA09
import Derived.Test.YtobkdplpkgikhaaGreatFmtA34
import Derived.Test.YtobkdplpkgikhaaGreatFmtA47
import Derived.Test.YtobkdplpkgikhaaGreatFmtA48
/- Here stand lemmas and contracts, in the order in which they are used. -/
set_option linter.unusedVariables false
namespace Go.Proofs
open Go Go.Eng
/-- plumb/plumblaw7.ExpansionParts -/
def F1394_j27 (B : World) (R : Po) (a0 : Bool) (b0 : Heap) : Prop :=
 R (.returned (.bool a0)) b0
def F1394_j18 (B : World) (R : Po) (c0 : OA) (d0 : Bool) (e0 : Heap) : Prop :=
(d0 = true →
 Ec B 6 #[.pointer c0] (retE (fun f0 g0 => ∃ i0, f0 = .bool i0 ∧
 F1394_j27 B R i0 g0)
(pk R)) e0) ∧
(d0 = false →
 F1394_j27 B R false e0)
def F1394 (B : World) (R : Po) (j0 : Bool) (k0 : OA) (l0 m0 : Nat) (n0 : Int) (h : Heap) : Prop :=
 alW h (.cells #[.bool j0, .slice k0 l0 m0, .int .i64 n0] 24) fun o0 p0 =>
 alW p0 (.cells #[.slice none 0 0, .slice none 0 0] 28) fun q0 r0 =>
 Ec B 4 #[] (retE (fun s0 t0 => ∃ u0, s0 = .bool u0 ∧
(u0 = true →
 iP o0 0 fun v0 w0 =>
 isP (some ⟨v0, w0 + 1, none⟩) fun x0 y0 => ∃ z0 a1 b1, cS t0 x0 y0 z0 a1 b1 ∧
((decide ((300 : Int) < (a1 : Int))) = true →
 F1394_j18 B R (some ⟨q0, 0, none⟩) true t0) ∧
((decide ((300 : Int) < (a1 : Int))) = false →
 iP o0 0 fun c1 d1 =>
∃ e1, cell? t0 ⟨c1, d1, none⟩ = some (.bool e1) ∧
∃ f1 g1 i1, cell? t0 ⟨c1, d1 + 1, none⟩ = some (.slice f1 g1 i1) ∧
∃ j1, cell? t0 ⟨c1, d1 + 1 + 1, none⟩ = some (.int .i64 j1) ∧
 Ec B 5 #[.pointer (some ⟨q0, 0, none⟩), .agg #[.bool e1, .slice f1 g1 i1, .int .i64 j1]] (retE (fun k1 l1 => ∃ m1, k1 = .bool m1 ∧
 F1394_j18 B R (some ⟨q0, 0, none⟩) m1 l1)
(pk R)) t0)) ∧
(u0 = false →
 F1394_j18 B R (some ⟨q0, 0, none⟩) false t0))
(pk R)) r0
def F1394_L : Nat → List (Nat × TypeDesc) := fun _ => []
theorem F1394_ok {B : World} {R : Ending → Heap → Prop} (j0 : Bool) (k0 : OA) (l0 m0 : Nat) (n0 : Int) {h : Heap} (H : F1394 B R j0 k0 l0 m0 n0 h) : Ec B 3 #[.agg #[.bool j0, .slice k0 l0 m0, .int .i64 n0]] R h :=
 Ek Tryz.func3 (by kernel_rfl) (by kernel_rfl) (by kernel_rfl) F1394_L [] (by kernel_rfl) H

/-- plumb/plumblaw7.parted -/
def F1396_j3 (B : World) (R : Po) (a0 b0 c0 : OA) (d0 e0 : Nat) (f0 : OA) (g0 i0 : Nat) (j0 : Int) (k0 : Heap) : Prop :=
 isP b0 fun l0 m0 =>
 isP (some ⟨l0, m0 + 1, none⟩) fun n0 o0 => ∃ p0 q0 r0, cS k0 n0 o0 p0 q0 r0 ∧
 Ec B 13 #[.slice c0 d0 e0, .slice p0 q0 r0] (retE (fun s0 t0 => ∃ u0, s0 = .bool u0 ∧
((!u0) = true →
 R (.returned (.bool false)) t0) ∧
((!u0) = false →
 isP b0 fun v0 w0 =>
∃ x0, cell? t0 ⟨v0, w0, none⟩ = some (.bool x0) ∧
∃ y0 z0 a1, cell? t0 ⟨v0, w0 + 1, none⟩ = some (.slice y0 z0 a1) ∧
∃ b1, cell? t0 ⟨v0, w0 + 1 + 1, none⟩ = some (.int .i64 b1) ∧
 Ec B 14 #[.agg #[.bool x0, .slice y0 z0 a1, .int .i64 b1]] (retE (fun c1 d1 => ∃ e1, c1 = .bool e1 ∧
((!e1) = true →
 Ec B 15 #[.pointer a0, .slice f0 g0 i0, .int .i64 j0, .int .i64 (11 : Int), .slice none 0 0, .int .i64 (0 : Int)] (retE (fun f1 g1 => ∃ i1, f1 = .bool i1 ∧
 R (.returned (.bool i1)) g1)
(pk R)) d1) ∧
((!e1) = false →
 isP b0 fun j1 k1 =>
∃ l1, cell? d1 ⟨j1, k1, none⟩ = some (.bool l1) ∧
∃ m1 n1 o1, cell? d1 ⟨j1, k1 + 1, none⟩ = some (.slice m1 n1 o1) ∧
∃ p1, cell? d1 ⟨j1, k1 + 1 + 1, none⟩ = some (.int .i64 p1) ∧
 Ec B 16 #[.agg #[.bool l1, .slice m1 n1 o1, .int .i64 p1]] (retE (fun q1 r1 => ∃ s1 t1 u1 v1, q1 = .tuple #[.slice s1 t1 u1, .int .i64 v1] ∧
 Ec B 15 #[.pointer a0, .slice f0 g0 i0, .int .i64 j0, .int .i64 (0 : Int), .slice s1 t1 u1, .int .i64 v1] (retE (fun w1 x1 => ∃ y1, w1 = .bool y1 ∧
 R (.returned (.bool y1)) x1)
(pk R)) r1)
(pk R)) d1))
(pk R)) t0))
(pk R)) k0
def F1396 (B : World) (R : Po) (z1 : OA) (a2 : Bool) (b2 : OA) (c2 d2 : Nat) (e2 : Int) (h : Heap) : Prop :=
 alW h (.cells #[.bool a2, .slice b2 c2 d2, .int .i64 e2] 24) fun f2 g2 =>
 iP f2 0 fun i2 j2 =>
 isP (some ⟨i2, j2 + 1, none⟩) fun k2 l2 => ∃ m2 n2 o2, cS g2 k2 l2 m2 n2 o2 ∧
 Ec B 11 #[.slice m2 n2 o2] (retE (fun p2 q2 => ∃ r2 s2 t2, p2 = .slice r2 s2 t2 ∧
 iP f2 0 fun u2 v2 =>
 iP u2 v2 fun w2 x2 => ∃ y2, cell? q2 ⟨w2, x2, none⟩ = some (.bool y2) ∧
 iP f2 0 fun z2 a3 =>
 isP (some ⟨z2, a3 + 1, none⟩) fun b3 c3 => ∃ d3 e3 f3, cS q2 b3 c3 d3 e3 f3 ∧
 slW s2 t2 none (some (.int .i64 (e3 : Int))) none fun g3 i3 j3 =>
 iP f2 0 fun k3 l3 =>
 isP (some ⟨k3, l3 + 2, none⟩) fun m3 n3 => ∃ o3, cI q2 m3 n3 .i64 o3 ∧
 Ec B 12 #[.agg #[.bool y2, .slice (slP r2 g3 j3 1) (i3 - g3) (j3 - g3), .int .i64 o3]] (retE (fun p3 q3 => ∃ r3 s3 t3 u3, p3 = .tuple #[.slice r3 s3 t3, .int .i64 u3] ∧
 F1396_j3 B R z1 (some ⟨f2, 0, none⟩) r2 s2 t2 r3 s3 t3 u3 q3)
(fun _ _ => False)) q2)
(pk R)) g2
def F1396_L : Nat → List (Nat × TypeDesc) := fun _ => []
def F1396_J (B : World) (R : Po) : Nat → Option JT := fun i => match i with
  | 3 => some ⟨[(0, .pointer 0), (3, .pointer 0), (5, .slice 0), (6, .slice 0), (7, .int .i64)], fun s v h => match s, v with
    | [], [.pointer a0, .pointer b0, .slice c0 d0 e0, .slice f0 g0 i0, .int _ j0] => F1396_j3 B R a0 b0 c0 d0 e0 f0 g0 i0 j0 h
    | _, _ => False⟩
  | _ => none
theorem F1396_ok {B : World} {R : Ending → Heap → Prop} (z1 : OA) (a2 : Bool) (b2 : OA) (c2 d2 : Nat) (e2 : Int) {h : Heap} (H : F1396 B R z1 a2 b2 c2 d2 e2 h) : Ec B 5 #[.pointer z1, .agg #[.bool a2, .slice b2 c2 d2, .int .i64 e2]] R h :=
 Ej Tryz.func5 (by kernel_rfl) (by kernel_rfl) (by kernel_rfl) F1396_L (F1396_J B R) [] (by kernel_rfl) (by kernel_rfl) H

/-- plumb/plumbref7.Parts -/
def F1397_j5 (B : World) (R : Po) (a0 : Lp) (b0 : Nat) (c0 d0 : OA) (e0 f0 : Nat) (g0 : Int) (i0 : Bool) (j0 : Heap) : Prop :=
(i0 = true →
 R (.returned (.tuple #[.slice none 0 0, .int .i64 (14 : Int)])) j0) ∧
(i0 = false →
 alW j0 (.cells #[.int .i64 g0] 3) fun k0 l0 =>
 apW l0 (some ⟨k0, 0, none⟩) 1 1 d0 e0 1 8 3 #[.int .i64 0] fun m0 n0 o0 p0 =>
 isP c0 fun q0 r0 =>
∃ s0, cell? p0 ⟨q0, r0, none⟩ = some (.bool s0) ∧
∃ t0 u0 v0, cell? p0 ⟨q0, r0 + 1, none⟩ = some (.slice t0 u0 v0) ∧
∃ w0, cell? p0 ⟨q0, r0 + 1 + 1, none⟩ = some (.int .i64 w0) ∧
 Ec B 37 #[.int .i64 g0] (retE (fun x0 y0 => ∃ z0 a1 b1 c1 d1, x0 = .agg #[.bool z0, .slice a1 b1 c1, .int .i64 d1] ∧
 sameCells p0 y0 q0 r0 3 ∧ Ec B 36 #[.agg #[.bool s0, .slice t0 u0 v0, .int .i64 w0], .agg #[.bool z0, .slice a1 b1 c1, .int .i64 d1]] (retE (fun e1 f1 => ∃ g1 i1 j1 k1 l1, e1 = .agg #[.bool g1, .slice i1 j1 k1, .int .i64 l1] ∧
 isP c0 fun m1 n1 => stC f1 m1 n1 (.bool g1) fun o1 =>
 stC o1 m1 (n1 + 1) (.slice i1 j1 k1) fun p1 =>
 stC p1 m1 (n1 + 1 + 1) (.int .i64 l1) fun q1 =>
∃ r1, r1 < b0 ∧ a0 r1 [.pointer c0, .slice m0 n0 o0] q1)
(fun _ _ => False)) y0)
(fun _ _ => False)) p0)
def F1397 (B : World) (R : Po) (s1 : Bool) (t1 : OA) (u1 v1 : Nat) (w1 : Int) (h : Heap) : Prop :=
 alW h (.cells #[.bool s1, .slice t1 u1 v1, .int .i64 w1] 24) fun x1 y1 =>
∃ a0 : Lp, ∃ z1, a0 z1 [.pointer (some ⟨x1, 0, none⟩), .slice none 0 0] y1 ∧
∀ (b0 : Nat) (a2 : Heap) (b2 c2 : OA) (d2 e2 : Nat), a0 b0 [.pointer b2, .slice c2 d2 e2] a2 → ∀ _r : Nat → Value,
 isP b2 fun f2 g2 =>
 isP (some ⟨f2, g2 + 1, none⟩) fun i2 j2 => ∃ k2 l2 m2, cS a2 i2 j2 k2 l2 m2 ∧
((decide ((0 : Int) < (l2 : Int))) = true →
 isP b2 fun n2 o2 =>
∃ p2, cell? a2 ⟨n2, o2, none⟩ = some (.bool p2) ∧
∃ q2 r2 s2, cell? a2 ⟨n2, o2 + 1, none⟩ = some (.slice q2 r2 s2) ∧
∃ t2, cell? a2 ⟨n2, o2 + 1 + 1, none⟩ = some (.int .i64 t2) ∧
 Ec B 34 #[.agg #[.bool p2, .slice q2 r2 s2, .int .i64 t2]] (retE (fun u2 v2 => ∃ w2, u2 = .int .i64 w2 ∧
 Ec B 35 #[.int .i64 w2] (retE (fun x2 y2 => ∃ z2, x2 = .int .i64 z2 ∧
((decide (z2 = (0 : Int))) = true →
 F1397_j5 B R a0 b0 b2 c2 d2 e2 w2 true y2) ∧
((decide (z2 = (0 : Int))) = false →
 Ec B 35 #[.int .i64 w2] (retE (fun a3 b3 => ∃ c3, a3 = .int .i64 c3 ∧
 F1397_j5 B R a0 b0 b2 c2 d2 e2 w2 (decide (c3 = (3 : Int))) b3)
(pk R)) y2))
(pk R)) v2)
(pk R)) a2) ∧
((decide ((0 : Int) < (l2 : Int))) = false →
 R (.returned (.tuple #[.slice c2 d2 e2, .int .i64 (0 : Int)])) a2)
def F1397_L : Nat → List (Nat × TypeDesc) := fun i => match i with
  | 2 => [(1, .pointer 0), (4, .slice 0)]
  | _ => []
def F1397_J (B : World) (R : Po) : Nat → Option JT := fun i => match i with
  | 5 => some ⟨[(1, .pointer 0), (4, .slice 0), (5, .int .i64), (19, .bool)], fun s v h => match s, v with
    | [(a0, b0)], [.pointer c0, .slice d0 e0 f0, .int _ g0, .bool i0] => F1397_j5 B R a0 b0 c0 d0 e0 f0 g0 i0 h
    | _, _ => False⟩
  | _ => none
theorem F1397_ok {B : World} {R : Ending → Heap → Prop} (s1 : Bool) (t1 : OA) (u1 v1 : Nat) (w1 : Int) {h : Heap} (H : F1397 B R s1 t1 u1 v1 w1 h) : Ec B 16 #[.agg #[.bool s1, .slice t1 u1 v1, .int .i64 w1]] R h :=
 Ej Tryz.func16 (by kernel_rfl) (by kernel_rfl) (by kernel_rfl) F1397_L (F1397_J B R) [] (by kernel_rfl) (by kernel_rfl) H

/-- plumb/plumbref4.Nearest -/
def F1398_j2 (B : World) (R : Po) (a0 : Int) (b0 : Heap) : Prop :=
 R (.returned (.int .i64 a0)) b0
def F1398 (B : World) (R : Po) (c0 : Bool) (d0 : OA) (e0 f0 : Nat) (g0 : Int) (h : Heap) : Prop :=
 alW h (.cells #[.bool c0, .slice d0 e0 f0, .int .i64 g0] 24) fun i0 j0 =>
 iP i0 0 fun k0 l0 =>
∃ m0, cell? j0 ⟨k0, l0, none⟩ = some (.bool m0) ∧
∃ n0 o0 p0, cell? j0 ⟨k0, l0 + 1, none⟩ = some (.slice n0 o0 p0) ∧
∃ q0, cell? j0 ⟨k0, l0 + 1 + 1, none⟩ = some (.int .i64 q0) ∧
 Ec B 58 #[] (retE (fun r0 s0 => ∃ t0 u0 v0 w0 x0, r0 = .agg #[.int .i64 t0, .int .i64 u0, .int .i64 v0, .int .i64 w0, .int .i64 x0] ∧
 sameCells j0 s0 k0 l0 3 ∧ Ec B 59 #[.agg #[.int .i64 t0, .int .i64 u0, .int .i64 v0, .int .i64 w0, .int .i64 x0], .agg #[.bool m0, .slice n0 o0 p0, .int .i64 q0], .int .i64 (0 : Int)] (retE (fun y0 z0 => ∃ a1 b1, y0 = .tuple #[.int .i64 a1, .bool b1] ∧
 F1398_j2 B R a1 z0)
(fun _ _ => False)) s0)
(fun _ _ => False)) j0
def F1398_L : Nat → List (Nat × TypeDesc) := fun _ => []
def F1398_J (B : World) (R : Po) : Nat → Option JT := fun i => match i with
  | 2 => some ⟨[(3, .int .i64)], fun s v h => match s, v with
    | [], [.int _ a0] => F1398_j2 B R a0 h
    | _, _ => False⟩
  | _ => none
theorem F1398_ok {B : World} {R : Ending → Heap → Prop} (c0 : Bool) (d0 : OA) (e0 f0 : Nat) (g0 : Int) {h : Heap} (H : F1398 B R c0 d0 e0 f0 g0 h) : Ec B 34 #[.agg #[.bool c0, .slice d0 e0 f0, .int .i64 g0]] R h :=
 Ej Tryz.func34 (by kernel_rfl) (by kernel_rfl) (by kernel_rfl) F1398_L (F1398_J B R) [] (by kernel_rfl) (by kernel_rfl) H
end Go.Proofs
set_option linter.unusedVariables false
/-! ExpansionParts. -/
namespace Go.Proofs
open Go Go.Eng
variable {B : World} {R : Ending → Heap → Prop} {h : Heap}
theorem lj_one {g : Heap} {b : Nat} {x : Int} (O : Own h b #[.int .i64 x]) (hb : g.size ≤ b) (ix : I64 x) : Lj g h (some ⟨b, 0, none⟩) 1 1 [x] := by
  refine ⟨.inr ⟨b, 0, _, rfl, O, fun i hi => ?_⟩, rfl, .inr ⟨b, 0, _, rfl, O, by simp, hb⟩, by decide, .inr ⟨b, 0, rfl⟩, fun b' o' e' => by cases e'; exact hb, fun y hy => by rw [List.mem_singleton.1 hy]; exact ix⟩
  have : i = 0 := by simp at hi; omega
  subst this; rfl
/-- expansion.Parts, of what is no number. -/
theorem K1341i {ng : Bool} {p : Option Addr} {n c : Nat} {e : Int} {xs : List Int} (I : IntsH h p xs) (hn : xs.length = n) (hl : n ≤ 100000) (hok : numOk ng xs e = false)
    (H : ∀ h', Ext h h' → R (.returned (.tuple #[.slice none 0 0, .int .i64 (11 : Int)])) h') :
    Ent Tryz.prog B 12 #[.agg #[.bool ng, .slice p n c, .int .i64 e]] R h := by
  refine F1341_ok _ _ _ _ _ (alK fun rx h1 e1 f1 o1 z1 => alK fun rl h2 e2 f2 o2 z2 => alK fun re g e3 f3 o3 z3 => ?_)
  have F := Ext.trans (Ext.trans f1 f2) f3
  have Ox := (o1.ext f2).ext f3
  have Ol := o2.ext f3
  have s1 := f1.size
  have s2 := f2.size
  refine ⟨rx, 0, rfl, _, Ox.cell _, _, _, _, Ox.cell _, _, Ox.cell _, K129x (I.ext F) hn hl fun h4 f4 => ⟨_, rfl, fun _ => ?_, fun e => ?_⟩⟩
  · exact expEnd (Ol.ext f4) (o3.ext f4) (by omega) fun h' f => H h' (Fr.trans (Ext.trans F f4) f fun x hx k => by omega)
  · rw [hok] at e; cases e
/-- plumbref3.Sub, with what holds of each pointer. -/
theorem K1102P {P : Option Addr → Prop} {K : Nat} {neg neg2 : Bool} {p p2 : Option Addr} {n n2 c c2 : Nat} {e e2 v w : Int} (N1 : NumS K h neg p n e v) (N2 : NumS K h neg2 p2 n2 e2 w) (hK : K ≤ 1048576) (hv : bl v.natAbs ≤ 50000) (hw : bl w.natAbs ≤ 50000)
    (hP : ∀ q, Fresh h q → P q) (g1 : P p) (g2 : P p2)
    (H : ∀ neg' p' n' c' e' h', Ext h h' → P p' → NumS K h' neg' p' n' e' (v - w) → R (.returned (.agg #[.bool neg', .slice p' n' c', .int .i64 e'])) h') :
    Ent Tryz.prog B 36 #[.agg #[.bool neg, .slice p n c, .int .i64 e], .agg #[.bool neg2, .slice p2 n2 c2, .int .i64 e2]] R h := by
  refine F1102_ok _ _ _ _ _ _ _ _ _ _ (alK fun r1 h1 e1 f1 o1 z1 => alK fun r2 h2 e2 f2 o2 z2 => alK fun r3 h3 e3 f3 o3 z3 => ?_)
  have O1 := (o1.ext f2).ext f3
  have O2 := o2.ext f3
  have F := Ext.trans (Ext.trans f1 f2) f3
  refine ⟨r1, 0, rfl, _, O1.cell _, _, _, _, O1.cell _, _, O1.cell _, r2, 0, rfl, _, O2.cell _, _, _, _, O2.cell _, _, O2.cell _, ?_⟩
  refine K213 (N2.ext F) fun neg' h4 f4 N2' => ⟨_, _, _, _, _, rfl, sameN O1 f4 id 3, ?_⟩
  refine K133P (P := P) ((N1.ext F).ext f4) N2' hK hv (by rw [Int.natAbs_neg]; exact hw) (fun q fq => hP q (fq.mono (Ext.trans F f4).size)) g1 g2 fun neg'' p' n' c' e' h5 f5 fp N => ⟨_, _, _, _, _, rfl, ?_⟩
  have O3 := (o3.ext f4).ext f5
  rw [← Int.sub_eq_add_neg] at N
  refine ret3 O3 fun h6 f6 => ?_
  exact H neg'' p' n' c' e' h6 (Fr.trans (Ext.trans (Ext.trans F f4) f5) f6 fun x hx e => by have := f1.size; have := f2.size; omega) fp (N.off O3 zero3 f6)
/-- plumbref4.Nearest. -/
theorem K1398 {K : Nat} {neg : Bool} {p : Option Addr} {n c : Nat} {e v : Int} (N : NumS K h neg p n e v) (H : ∀ h', Ext h h' → R (.returned (.int .i64 (toR 0 v K))) h') :
    Ent Tryz.prog B 34 #[.agg #[.bool neg, .slice p n c, .int .i64 e]] R h := by
  refine F1398_ok _ _ _ _ _ (alK fun r h1 e1 f1 o1 z1 => ⟨r, 0, rfl, _, o1.cell _, _, _, _, o1.cell _, _, o1.cell _, K186 fun h2 f2 => ⟨_, _, _, _, _, rfl, sameN o1 f2 id 3, ?_⟩⟩)
  exact K1103 (w := 0) (by decide) ((N.ext f1).ext f2) fun h3 f3 => ⟨_, _, rfl, H h3 (Ext.trans (Ext.trans f1 f2) f3)⟩
/-- What stands at the head of the reference's loop. -/
def PrI (K : Nat) (h g : Heap) (x : Int) (rx : Nat) (m0 : Nat) (vs : List Value) (h' : Heap) : Prop := match vs with
  | [.pointer a, .slice q m mc] => a = some (⟨rx, 0, none⟩ : Addr) ∧ ∃ ng p n cc e r ws, m0 = r.natAbs ∧ Ext h h' ∧ g.size ≤ h'.size ∧ Own h' rx #[.bool ng, .slice p n cc, .int .i64 e] ∧ NumS K h' ng p n e r ∧ Lj g h' q m mc ws ∧
      prt K x = (prt K r).map (ws.reverse ++ ·) ∧ r.natAbs ≤ x.natAbs ∧ (r ≠ 0 → ¬ (cls (toR 0 r K) = 0 ∨ cls (toR 0 r K) = 3) → ws = [] ∨ ws.length + bl r.natAbs ≤ 50000) ∧ (r ≠ 0 → ∀ b o, p = some (⟨b, o, none⟩ : Addr) → b ≠ rx)
  | _ => False
/-- plumbref7.Parts. -/
theorem K1397 {K : Nat} {ng : Bool} {p : Option Addr} {n c : Nat} {e x : Int} (hK1 : 1074 ≤ K) (hK2 : K ≤ 1048576) (N : NumS K h ng p n e x) (hxb : K = 1074 ∨ bl x.natAbs ≤ 40000)
    (H : ∀ q m c' h', Ext h h' → Lj h h' q m c' (prtA K x).1 → R (.returned (.tuple #[.slice q m c', .int .i64 (prtA K x).2])) h') :
    Ent Tryz.prog B 16 #[.agg #[.bool ng, .slice p n c, .int .i64 e]] R h := by
  refine F1397_ok _ _ _ _ _ (alK fun rx g e1 f1 o1 z1 => ?_)
  have s1 := f1.size
  refine ⟨PrI K h g x rx, x.natAbs, ⟨rfl, ng, p, n, c, e, x, [], rfl, f1, Nat.le_refl _, o1, N.ext f1, Lj.nil, by simp, Nat.le_refl _, fun _ _ => .inl rfl, fun h0 b o ep => by have := num_lt N h0 b o ep; omega⟩, ?_⟩
  rintro m0 k1 _ q m mc ⟨rfl, ng, p, n, cc, e, r, ws, rfl, E, hgs, Ox, Nr, L, hpar, hr, hlen, hdis⟩ _
  have hwl := L.len
  refine ⟨rx, 0, rfl, rx, 0 + 1, rfl, _, _, _, Ox.cell _, fun hpos => ?_, fun hz => ?_⟩
  · have hn : n ≠ 0 := by have := of_decide_eq_true hpos; omega
    have hr0 : r ≠ 0 := fun k => hn ((num_nz Nr).2 k)
    have hwf := toR_wf 0 r K
    refine ⟨rx, 0, rfl, _, Ox.cell _, _, _, _, Ox.cell _, _, Ox.cell _, K1398 Nr fun k2 fk2 => ⟨_, rfl, K84 hwf.1 ⟨_, rfl, ?_⟩⟩⟩
    by_cases hc : cls (toR 0 r K) = 0 ∨ cls (toR 0 r K) = 3
    · have hnone : prt K x = none := by rw [hpar, prt_fail hr0 hc]; rfl
      have hA : prtA K x = ([], 14) := by unfold prtA; rw [hnone]
      rw [hA] at H
      have die := H none 0 0 k2 (Ext.trans E fk2) Lj.nil
      refine ⟨fun _ => ⟨fun _ => die, fun e => (by cases e)⟩, fun e => K84 hwf.1 ⟨_, rfl, ?_⟩⟩
      rw [decide_eq_true (hc.resolve_left (of_decide_eq_false e))]
      exact ⟨fun _ => die, fun e => (by cases e)⟩
    obtain ⟨fb, g2, g3, g4, g5, g6, g7⟩ := part_one hK1 hr0 (fun e => hc (.inl e)) (fun e => hc (.inr e))
    have c0 : ¬ cls (toR 0 r K) = 0 := fun e => hc (.inl e)
    have c3 : ¬ cls (toR 0 r K) = 3 := fun e => hc (.inr e)
    have hbr : bl r.natAbs ≤ 40000 := by
      rcases hxb with q | q
      · omega
      · exact Nat.le_trans (bl_mono hr) q
    refine ⟨fun e => absurd (of_decide_eq_true e) c0, fun _ => K84 hwf.1 ⟨_, rfl, ?_⟩⟩
    rw [decide_eq_false c3]
    refine ⟨fun e => (by cases e), fun _ => alK fun rb k3 e5 f5 o5 z5 => ?_⟩
    have s2 := fk2.size
    have s5 := f5.size
    have hm : m ≤ 50000 := by
      rcases hlen hr0 hc with q | q
      · rw [q] at hwl; have : m = 0 := hwl.symm; omega
      · omega
    refine apJN (h0 := k2) (T := fun _ => False) (lj_one (g := k2) o5 (by omega) hwf.1) f5 (by omega) ((L.ext fk2).ext f5).ints hwl L.pt fun q' c' k4 L4 f6 _ => ?_
    have E4 : Ext h k4 := Ext.trans (Ext.trans E fk2) f6
    have Ox4 := (Ox.ext fk2).ext f6
    have N4 := (Nr.ext fk2).ext f6
    refine ⟨rx, 0, rfl, _, Ox4.cell _, _, _, _, Ox4.cell _, _, Ox4.cell _, K114 hwf.1 fb fun n1 p1 m1 d1 x1 k5 f7 fr1 N1' => ⟨_, _, _, _, _, rfl, sameN Ox4 f7 id 3, ?_⟩⟩
    have N1 := N1'.upK (K := K) (d := K - 1074) (by omega)
    have b1 : bl r.natAbs ≤ 50000 := by omega
    have b2 : bl (fV (toR 0 r K) * ((2 ^ (K - 1074) : Nat) : Int)).natAbs ≤ 50000 := by
      have h1 : r.natAbs < 2 ^ bl r.natAbs := bl_le_iff.1 (Nat.le_refl _)
      have : bl (fV (toR 0 r K) * ((2 ^ (K - 1074) : Nat) : Int)).natAbs ≤ bl r.natAbs + 1 := bl_le_iff.2 (by rw [Nat.pow_succ]; omega)
      omega
    have s6 := f6.size
    have s7 := f7.size
    have lx := Ox.lt
    refine K1102P (P := fun q => ∀ b o, q = some (⟨b, o, none⟩ : Addr) → b ≠ rx) (N4.ext f7) N1 hK2 b1 b2 (fun q fq b o ep => by have := fq b o ep; omega) (hdis hr0) (fun b o ep => by have := fr1 b o ep; omega) fun ng' p' n' c'' e' k6 f8 hp' N8 => ⟨_, _, _, _, _, rfl, ?_⟩
    have Ox8 := (Ox4.ext f7).ext f8
    refine ⟨rx, 0, rfl, Ox8.stC (by simp) rfl fun oa fa => oa.stC (by simp) rfl fun ob fb' => ob.stC (by simp) rfl fun oc fc => ⟨(r - fV (toR 0 r K) * ((2 ^ (K - 1074) : Nat) : Int)).natAbs, g2, ?_⟩⟩
    have fabc := Fr.trans (S := fun x => x = rx) (Fr.trans (S := fun x => x = rx) fa fb' fun _ _ e => e) fc fun _ _ e => e
    generalize setCell (setCell (setCell k6 _ _) _ _) _ _ = k9 at *
    have s8 := f8.size
    have s10 := fabc.size
    have E8 : Ext h k6 := Ext.trans (Ext.trans E4 f7) f8
    have L8 := ((L4.base (h0 := g) (by omega)).ext f7).ext f8
    refine ⟨rfl, ng', p', n', c'', e', _, toR 0 r K :: ws, rfl, Fr.trans E8 fabc fun y hy k => by omega, by omega, oc, N8.fr fabc fun b o ep k => hp' b o ep k, ?_, ?_, by omega, ?_, fun _ => hp'⟩
    · exact ⟨L8.sl.fr fabc fun b o ep _ k => by have := L4.fresh b o ep; omega, L8.len, L8.room.fr fabc fun b k1 k2 => by omega, L8.le, L8.pt, L8.fresh, L8.all⟩
    · rw [hpar, prt_step hK1 hr0 hc, Option.map_map]
      congr 1
      funext l
      simp
    · intro hz2 hc2
      right
      have := (part_one hK1 hz2 (fun e => hc2 (.inl e)) (fun e => hc2 (.inr e))).2.2.2.2.2.1
      have hhalf := bl_half (g7.resolve_right (by omega)) (by omega)
      rw [List.length_cons]
      rcases hlen hr0 hc with q | q
      · rw [q, List.length_nil]; omega
      · omega
  · have hn : n = 0 := by have := of_decide_eq_false hz; omega
    have hr0 : r = 0 := (num_nz Nr).1 hn
    rw [hr0, prt_zero] at hpar
    have hsome : prt K x = some ws.reverse := by rw [hpar]; simp
    have hA : prtA K x = (ws, 0) := by
      unfold prtA; rw [hsome]
      show (ws.reverse.reverse, (0 : Int)) = _
      rw [List.reverse_reverse]
    rw [hA] at H
    exact H q m mc k1 E (L.base s1)
/-- The unit of a number in its one form. -/
theorem num_unit {ng : Bool} {p : Option Addr} {n : Nat} {e : Int} {xs : List Int} (I : IntsH h p xs) (hn : xs.length = n) (hp : Pt p) (h3 : n ≤ 300) (hok : numOk ng xs e = true) :
    ∃ K x, 1074 ≤ K ∧ K ≤ 1048576 ∧ (K = 1074 ∨ bl x.natAbs ≤ 40000) ∧ ∀ (p' : Option Addr) (h' : Heap), IntsH h' p' xs → Pt p' → NumS K h' ng p' n e x := by
  have N := numI_of I hn hp hok
  have hv : digs B30 (val B30 (xs.map Int.toNat)) = xs.map Int.toNat := digs_of (by decide) N.d.dig N.d.trim
  have hb : bl (val B30 (xs.map Int.toNat)) ≤ 9000 := Nat.le_trans (bl_dig (k := 30) rfl N.d.dig) (by rw [List.length_map, hn]; omega)
  have he : -1048576 ≤ e := by
    rcases Nat.eq_zero_or_pos n with z | z
    · have := (N.zero z).2; omega
    · exact (N.pos z).2.1
  by_cases h1 : -1074 ≤ e
  · exact ⟨1074, Ieee.signed ng (val B30 (xs.map Int.toNat)) (e + ((1074 : Nat) : Int)).toNat, Nat.le_refl _, by decide, .inl rfl, fun p' h' I' hp' => ⟨_, by rw [hv]; exact numI_of I' hn hp' hok, by omega, rfl⟩⟩
  · refine ⟨(-e).toNat, Ieee.signed ng (val B30 (xs.map Int.toNat)) (e + (((-e).toNat : Nat) : Int)).toNat, by omega, by omega, .inr ?_, fun p' h' I' hp' => ⟨_, by rw [hv]; exact numI_of I' hn hp' hok, by omega, rfl⟩⟩
    rw [show (e + (((-e).toNat : Nat) : Int)).toNat = 0 by omega]
    have : (Ieee.signed ng (val B30 (xs.map Int.toNat)) 0).natAbs = val B30 (xs.map Int.toNat) := by
      unfold Ieee.signed
      rw [Nat.shiftLeft_zero]
      cases ng <;> simp
    rw [this]
    omega
/-- plumblaw7.parted. -/
theorem K1396 {r cL cW n c : Nat} {pL pW p : Option Addr} {es : List En} {xs : List Int} {ng : Bool} {e : Int} (ht : TabH h) (I : IntsH h p xs) (hn : xs.length = n) (hlim : n ≤ 300) (hpt : PtB h p)
    (K : Kept h r pL cL pW cW es) (hl : es.length ≤ 390) (H : KeepK R h r pL pW es 1) :
    Ent Tryz.prog B 5 #[.pointer (some ⟨r, 0, none⟩), .agg #[.bool ng, .slice p n c, .int .i64 e]] R h := by
  refine F1396_ok _ _ _ _ _ _ (alK fun rx h1 e1 f1 o1 z1 => ⟨rx, 0, rfl, rx, 0 + 1, rfl, _, _, _, o1.cell _, ?_⟩)
  refine K77 (I.ext f1) hn hpt.pt (by omega) fun qc mc cc h2 f2 Lc => ⟨_, _, _, rfl, ?_⟩
  have hmc : mc = n + 3 := by have := Lc.len; simp [hn] at this; omega
  subst hmc
  have lc := Lc.le
  have o2 := o1.ext f2
  have s1 := f1.size
  have s2 := f2.size
  have lx := o1.lt
  refine ⟨rx, 0, rfl, rx, 0, rfl, _, (o2.cell _).trans rfl, rx, 0, rfl, rx, 0 + 1, rfl, _, _, _, o2.cell _, by omega, by omega, ?_⟩
  rw [Int.toNat_natCast]
  refine ⟨rx, 0, rfl, rx, 0 + 2, rfl, _, (o2.cell _).trans rfl, ?_⟩
  have hcb : ∀ x, Blk qc x → h1.size ≤ x := fun x ⟨o, e⟩ => Lc.fresh x o e
  have hcl : ∀ x, Blk qc x → x < h2.size := fun x hx => by
    have := Lc.room.ptB (by omega)
    exact this.lt hx
  have Ic : IntsH h2 (slP qc 0 cc 1) xs := lent_ints Lc
  have F2 := Ext.trans f1 f2
  have ps : Pt (slP qc 0 cc 1) := Lc.pt.slP _ _
  cases hok : numOk ng xs e
  · refine K1341i Ic hn (by omega) hok fun h3 f3 => ⟨_, _, _, _, rfl, ?_⟩
    have o3 := o2.ext f3
    refine ⟨rx, 0, rfl, rx, 0 + 1, rfl, _, _, _, o3.cell _, K81 (Lc.ext f3) ((I.ext F2).ext f3) hn (by omega) fun h4 f4 => ⟨_, rfl, fun e => (by cases e), fun _ => ?_⟩⟩
    have o4 := o3.fr f4 (fun k => by have := hcb _ k; omega)
    have F4 : Ext h h4 := Fr.trans (S := fun _ => False) (Ext.trans F2 f3) f4 fun x hx k => by have := hcb x k; omega
    refine ⟨rx, 0, rfl, _, o4.cell _, _, _, _, o4.cell _, _, o4.cell _, K1049 (I.ext F4) hn (by omega) fun h5 f5 => ⟨_, rfl, ?_⟩⟩
    rw [hok]
    have F5 := Ext.trans F4 f5
    refine ⟨fun _ => K85a (by decide) ⟨_, rfl, H pL cL pW cW [] h5 (by rw [List.append_nil]; exact K.ext F5) (Nat.zero_le _) F5.to (fun b _ k => k) fun b k => .inl (by rwa [List.append_nil] at k)⟩, fun e => (by cases e)⟩
  · obtain ⟨K0, x, k1, k2, kb, kN⟩ := num_unit I hn hpt.pt hlim hok
    have hlen : (prtA K0 x).1.length ≤ 2099 := by
      unfold prtA
      cases hp : prt K0 x with
      | none => exact Nat.zero_le _
      | some l => show l.reverse.length ≤ 2099; rw [List.length_reverse]; exact prt_short k1 hp
    refine K1341g (ht.ext F2) k1 k2 (kN _ h2 Ic ps) kb fun q m c' h3 f3 Ll => ⟨_, _, _, _, rfl, ?_⟩
    have o3 := o2.ext f3
    refine ⟨rx, 0, rfl, rx, 0 + 1, rfl, _, _, _, o3.cell _, K81 (Lc.ext f3) ((I.ext F2).ext f3) hn (by omega) fun h4 f4 => ⟨_, rfl, fun e => (by cases e), fun _ => ?_⟩⟩
    have o4 := o3.fr f4 (fun k => by have := hcb _ k; omega)
    have F4 : Ext h h4 := Fr.trans (S := fun _ => False) (Ext.trans F2 f3) f4 fun x hx k => by have := hcb x k; omega
    refine ⟨rx, 0, rfl, _, o4.cell _, _, _, _, o4.cell _, _, o4.cell _, K1049 (I.ext F4) hn (by omega) fun h5 f5 => ⟨_, rfl, ?_⟩⟩
    rw [hok]
    have F5 := Ext.trans F4 f5
    have o5 := o4.ext f5
    have s3 := f3.size
    have s4 := f4.size
    have s5 := f5.size
    refine ⟨fun e => (by cases e), fun _ => ⟨rx, 0, rfl, _, o5.cell _, _, _, _, o5.cell _, _, o5.cell _, K1397 k1 k2 (kN p h5 (I.ext F5) hpt.pt) kb fun qp np cp h6 f6 Lp => ⟨_, _, _, _, rfl, ?_⟩⟩⟩
    have F6 := Ext.trans F5 f6
    have s6 := f6.size
    have low : ∀ y, KT r pL pW es y → y < h.size := fun y k => K.lt k
    have Ll6 : Out h6 (Off h2.size h3.size) q m c' (prtA K0 x).1 := (((Ll.off).off f4 fun y b1 b2 k => by have := hcl y k; omega).ext f5).ext f6
    have Rp : Rd h6 (KB r pL pW) qp (prtA K0 x).1 := (Lp.out (T := KB r pL pW) fun y b1 b2 k => by have := low y (.inl k); omega).rd
    have n1 := Ll6.len
    refine K85b (K.ext F6) (by omega) Ll6 (fun b b1 b2 k => by have := low b k; omega) Rp Lp.len Lp.pt (by omega) fun pL' cL' pW' cW' en h7 Kz F7 B7 Z7 => ⟨_, rfl, ?_⟩
    refine H pL' cL' pW' cW' [en] h7 Kz (Nat.le_refl _) (Fr.trans F6.to F7 fun _ _ k => k) (fun b hb k => B7 b (by omega) k) fun b k => ?_
    rcases Z7 b k with k | k | k
    · exact .inl k
    · exact .inr (by omega)
    · exact .inr (by omega)
/-- plumblaw7.ExpansionParts. -/
theorem K1394 {p : Option Addr} {n c : Nat} {ng : Bool} {e : Int} (ht : TabH h) (hs : SlH h p n c) (H : ∀ h', Ext h h' → R (.returned (.bool true)) h') :
    Ent Tryz.prog B 3 #[.agg #[.bool ng, .slice p n c, .int .i64 e]] R h := by
  obtain ⟨xs, I, hn, hpt, hc⟩ := hs
  refine F1394_ok _ _ _ _ _ (alK fun rx h1 e1 f1 o1 z1 => alK fun r h4 e4 f4 o4 z4 => K29 (ht.ext (Ext.trans f1 f4)) fun h6 f6 => ⟨_, rfl, fun _ => ?_, fun e => (by cases e)⟩)
  have F6 := Ext.trans (Ext.trans f1 f4) f6
  have K0 : Kept h6 r none 0 none 0 [] := (Kept.new o4).ext f6
  have Ox := (o1.ext f4).ext f6
  have s1 := f1.size
  have s4 := f4.size
  have s6 := f6.size
  refine ⟨rx, 0, rfl, rx, 0 + 1, rfl, _, _, _, Ox.cell _, fun e => ⟨fun _ => ?_, fun e => (by cases e)⟩, fun e => ?_⟩
  · refine K31 K0 (by decide) fun h' F' => ⟨_, rfl, H h' (Fr.trans (S := fun _ => False) F6 F' fun x hx k => by have := KT0 k; omega)⟩
  · have hn5 : n ≤ 300 := by have := of_decide_eq_false e; omega
    refine ⟨rx, 0, rfl, _, Ox.cell _, _, _, _, Ox.cell _, _, Ox.cell _, ?_⟩
    refine K1396 (ht.ext F6) (I.ext F6) hn hn5 (hpt.mono F6.size) K0 (by decide) fun pL cL pW cW es h7 Kz l7 F7 B7 Z7 => ⟨_, rfl, fun _ => ?_, fun e => (by cases e)⟩
    refine K31 Kz (by rw [List.nil_append]; omega) fun h8 F8 => ⟨_, rfl, H h8 ?_⟩
    have G7 : Ext h h7 := Fr.trans (S := fun _ => False) F6 F7 fun x hx k => by have := KB0 k; omega
    refine Fr.trans (S := fun _ => False) G7 F8 fun x hx k => ?_
    rcases Z7 x k with k | k
    · have := KT0 k; omega
    · omega
end Go.Proofs
