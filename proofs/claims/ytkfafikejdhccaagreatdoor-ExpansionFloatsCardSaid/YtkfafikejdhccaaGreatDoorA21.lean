import Derived.Test.YtkfafikejdhccaaGreatDoorA20
/- Here stand lemmas: what further functions come to (written by program). -/
set_option linter.unusedVariables false
namespace Go.Proofs
open Go Go.Eng
/-- plumb/plumblaw6.EftHonest -/
def F4_j39 (B : World) (R : Po) (a0 : Bool) (b0 : Heap) : Prop :=
 R (.returned (.bool a0)) b0
def F4_j134 (B : World) (R : Po) (c0 d0 : Int) (e0 f0 : OA) (g0 : Bool) (i0 : Heap) : Prop :=
(g0 = true →
 R (.returned (.bool false)) i0) ∧
(g0 = false →
 Ec B 20 #[.int .i64 c0, .int .i64 d0] (retE (fun j0 k0 => ∃ l0 m0 n0, j0 = .tuple #[.int .i64 l0, .int .i64 m0, .bool n0] ∧
 isP e0 fun o0 p0 =>
∃ q0, cell? k0 ⟨o0, p0, none⟩ = some (.bool q0) ∧
∃ r0 s0 t0, cell? k0 ⟨o0, p0 + 1, none⟩ = some (.slice r0 s0 t0) ∧
∃ u0, cell? k0 ⟨o0, p0 + 1 + 1, none⟩ = some (.int .i64 u0) ∧
 Ec B 24 #[.int .i64 l0, .int .i64 m0, .agg #[.bool q0, .slice r0 s0 t0, .int .i64 u0]] (retE (fun v0 w0 => ∃ x0, v0 = .bool x0 ∧
((!(n0 == x0)) = true →
 R (.returned (.bool false)) w0) ∧
((!(n0 == x0)) = false →
 Ec B 19 #[.int .i64 c0, .int .i64 d0] (retE (fun y0 z0 => ∃ a1 b1 c1, y0 = .tuple #[.int .i64 a1, .int .i64 b1, .bool c1] ∧
 isP f0 fun d1 e1 =>
∃ f1, cell? z0 ⟨d1, e1, none⟩ = some (.bool f1) ∧
∃ g1 i1 j1, cell? z0 ⟨d1, e1 + 1, none⟩ = some (.slice g1 i1 j1) ∧
∃ k1, cell? z0 ⟨d1, e1 + 1 + 1, none⟩ = some (.int .i64 k1) ∧
 Ec B 24 #[.int .i64 a1, .int .i64 b1, .agg #[.bool f1, .slice g1 i1 j1, .int .i64 k1]] (retE (fun l1 m1 => ∃ n1, l1 = .bool n1 ∧
 R (.returned (.bool (c1 == n1))) m1)
(pk R)) z0)
(pk R)) w0))
(pk R)) k0)
(pk R)) i0)
def F4_j8 (B : World) (R : Po) (o1 p1 : Int) (q1 : Bool) (r1 : Heap) : Prop :=
(q1 = true →
 Ec B 18 #[.int .i64 o1, .int .i64 p1] (retE (fun s1 t1 => ∃ u1 v1 w1, s1 = .tuple #[.int .i64 u1, .int .i64 v1, .bool w1] ∧
 Ec B 19 #[.int .i64 o1, .int .i64 p1] (retE (fun x1 y1 => ∃ z1 a2 b2, x1 = .tuple #[.int .i64 z1, .int .i64 a2, .bool b2] ∧
 Ec B 20 #[.int .i64 o1, .int .i64 p1] (retE (fun c2 d2 => ∃ e2 f2 g2, c2 = .tuple #[.int .i64 e2, .int .i64 f2, .bool g2] ∧
 Ec B 15 #[] (retE (fun i2 j2 => ∃ k2, i2 = .bool k2 ∧
(k2 = true →
((!w1) = true →
((!b2) = true →
 F4_j39 B R (!g2) j2) ∧
((!b2) = false →
 F4_j39 B R false j2)) ∧
((!w1) = false →
(false = true →
 F4_j39 B R (!g2) j2) ∧
(false = false →
 F4_j39 B R false j2))) ∧
(k2 = false →
(false = true →
((!b2) = true →
 F4_j39 B R (!g2) j2) ∧
((!b2) = false →
 F4_j39 B R false j2)) ∧
(false = false →
(false = true →
 F4_j39 B R (!g2) j2) ∧
(false = false →
 F4_j39 B R false j2))))
(pk R)) d2)
(pk R)) y1)
(pk R)) t1)
(pk R)) r1) ∧
(q1 = false →
 Ec B 21 #[.int .i64 o1] (retE (fun l2 m2 => ∃ n2 o2 p2 q2 r2 s2, l2 = .tuple #[.agg #[.bool n2, .slice o2 p2 q2, .int .i64 r2], .int .i64 s2] ∧
 alW m2 (.cells #[.bool false, .slice none 0 0, .int .i64 0] 29) fun t2 u2 =>
 iP t2 0 fun v2 w2 => stC u2 v2 w2 (.bool n2) fun x2 =>
 stC x2 v2 (w2 + 1) (.slice o2 p2 q2) fun y2 =>
 stC y2 v2 (w2 + 1 + 1) (.int .i64 r2) fun z2 =>
 Ec B 21 #[.int .i64 p1] (retE (fun a3 b3 => ∃ c3 d3 e3 f3 g3 i3, a3 = .tuple #[.agg #[.bool c3, .slice d3 e3 f3, .int .i64 g3], .int .i64 i3] ∧
 alW b3 (.cells #[.bool false, .slice none 0 0, .int .i64 0] 29) fun j3 k3 =>
 iP j3 0 fun l3 m3 => stC k3 l3 m3 (.bool c3) fun n3 =>
 stC n3 l3 (m3 + 1) (.slice d3 e3 f3) fun o3 =>
 stC o3 l3 (m3 + 1 + 1) (.int .i64 g3) fun p3 =>
 iP t2 0 fun q3 r3 =>
∃ s3, cell? p3 ⟨q3, r3, none⟩ = some (.bool s3) ∧
∃ t3 u3 v3, cell? p3 ⟨q3, r3 + 1, none⟩ = some (.slice t3 u3 v3) ∧
∃ w3, cell? p3 ⟨q3, r3 + 1 + 1, none⟩ = some (.int .i64 w3) ∧
 iP j3 0 fun x3 y3 =>
∃ z3, cell? p3 ⟨x3, y3, none⟩ = some (.bool z3) ∧
∃ a4 b4 c4, cell? p3 ⟨x3, y3 + 1, none⟩ = some (.slice a4 b4 c4) ∧
∃ d4, cell? p3 ⟨x3, y3 + 1 + 1, none⟩ = some (.int .i64 d4) ∧
 Ec B 22 #[.agg #[.bool s3, .slice t3 u3 v3, .int .i64 w3], .agg #[.bool z3, .slice a4 b4 c4, .int .i64 d4]] (retE (fun e4 f4 => ∃ g4 i4 j4 k4 l4 m4, e4 = .tuple #[.agg #[.bool g4, .slice i4 j4 k4, .int .i64 l4], .int .i64 m4] ∧
 alW f4 (.cells #[.bool false, .slice none 0 0, .int .i64 0] 29) fun n4 o4 =>
 iP n4 0 fun p4 q4 => stC o4 p4 q4 (.bool g4) fun r4 =>
 stC r4 p4 (q4 + 1) (.slice i4 j4 k4) fun s4 =>
 stC s4 p4 (q4 + 1 + 1) (.int .i64 l4) fun t4 =>
 iP t2 0 fun u4 v4 =>
∃ w4, cell? t4 ⟨u4, v4, none⟩ = some (.bool w4) ∧
∃ x4 y4 z4, cell? t4 ⟨u4, v4 + 1, none⟩ = some (.slice x4 y4 z4) ∧
∃ a5, cell? t4 ⟨u4, v4 + 1 + 1, none⟩ = some (.int .i64 a5) ∧
 iP j3 0 fun b5 c5 =>
∃ d5, cell? t4 ⟨b5, c5, none⟩ = some (.bool d5) ∧
∃ e5 f5 g5, cell? t4 ⟨b5, c5 + 1, none⟩ = some (.slice e5 f5 g5) ∧
∃ i5, cell? t4 ⟨b5, c5 + 1 + 1, none⟩ = some (.int .i64 i5) ∧
 Ec B 23 #[.agg #[.bool w4, .slice x4 y4 z4, .int .i64 a5], .agg #[.bool d5, .slice e5 f5 g5, .int .i64 i5]] (retE (fun j5 k5 => ∃ l5 m5 n5 o5 p5 q5, j5 = .tuple #[.agg #[.bool l5, .slice m5 n5 o5, .int .i64 p5], .int .i64 q5] ∧
 alW k5 (.cells #[.bool false, .slice none 0 0, .int .i64 0] 29) fun r5 s5 =>
 iP r5 0 fun t5 u5 => stC s5 t5 u5 (.bool l5) fun v5 =>
 stC v5 t5 (u5 + 1) (.slice m5 n5 o5) fun w5 =>
 stC w5 t5 (u5 + 1 + 1) (.int .i64 p5) fun x5 =>
 Ec B 18 #[.int .i64 o1, .int .i64 p1] (retE (fun y5 z5 => ∃ a6 b6 c6, y5 = .tuple #[.int .i64 a6, .int .i64 b6, .bool c6] ∧
 Ec B 15 #[] (retE (fun d6 e6 => ∃ f6, d6 = .bool f6 ∧
((!f6) = true →
 F4_j134 B R o1 p1 (some ⟨n4, 0, none⟩) (some ⟨r5, 0, none⟩) true e6) ∧
((!f6) = false →
 iP n4 0 fun g6 i6 =>
∃ j6, cell? e6 ⟨g6, i6, none⟩ = some (.bool j6) ∧
∃ k6 l6 m6, cell? e6 ⟨g6, i6 + 1, none⟩ = some (.slice k6 l6 m6) ∧
∃ n6, cell? e6 ⟨g6, i6 + 1 + 1, none⟩ = some (.int .i64 n6) ∧
 Ec B 24 #[.int .i64 a6, .int .i64 b6, .agg #[.bool j6, .slice k6 l6 m6, .int .i64 n6]] (retE (fun o6 p6 => ∃ q6, o6 = .bool q6 ∧
 F4_j134 B R o1 p1 (some ⟨n4, 0, none⟩) (some ⟨r5, 0, none⟩) (!(c6 == q6)) p6)
(pk R)) e6))
(pk R)) z5)
(pk R)) x5)
(pk R)) t4)
(pk R)) p3)
(pk R)) z2)
(pk R)) r1)
def F4 (B : World) (R : Po) (r6 s6 : Int) (h : Heap) : Prop :=
 Ec B 17 #[.int .i64 r6] (retE (fun t6 u6 => ∃ v6, t6 = .int .i64 v6 ∧
((decide ((2 : Int) < v6)) = true →
 F4_j8 B R r6 s6 true u6) ∧
((decide ((2 : Int) < v6)) = false →
 Ec B 17 #[.int .i64 s6] (retE (fun w6 x6 => ∃ y6, w6 = .int .i64 y6 ∧
 F4_j8 B R r6 s6 (decide ((2 : Int) < y6)) x6)
(pk R)) u6))
(pk R)) h
/-- plumb/plumblaw6.EftSums -/
def F5_j18 (B : World) (R : Po) (a0 : Bool) (b0 : Heap) : Prop :=
 R (.returned (.bool a0)) b0
def F5 (B : World) (R : Po) (c0 d0 : Int) (h : Heap) : Prop :=
 Ec B 15 #[] (retE (fun e0 f0 => ∃ g0, e0 = .bool g0 ∧
(g0 = true →
 Ec B 25 #[.int .i64 c0, .int .i64 d0] (retE (fun i0 j0 => ∃ k0, i0 = .bool k0 ∧
(k0 = true →
 Ec B 25 #[.int .i64 d0, .int .i64 c0] (retE (fun l0 m0 => ∃ n0, l0 = .bool n0 ∧
 F5_j18 B R n0 m0)
(pk R)) j0) ∧
(k0 = false →
 F5_j18 B R false j0))
(pk R)) f0) ∧
(g0 = false →
(false = true →
 Ec B 25 #[.int .i64 d0, .int .i64 c0] (retE (fun o0 p0 => ∃ q0, o0 = .bool q0 ∧
 F5_j18 B R q0 p0)
(pk R)) f0) ∧
(false = false →
 F5_j18 B R false f0)))
(pk R)) h
/-- plumb/plumblaw6.EftAll -/
def F6_j32 (B : World) (R : Po) (a0 : Lp) (b0 : Nat) (c0 : OA) (d0 e0 : Nat) (f0 : Int) (g0 : Bool) (i0 : Heap) : Prop :=
(g0 = true →
 R (.returned (.bool false)) i0) ∧
(g0 = false →
 ∃ j0, j0 < b0 ∧ a0 j0 [.slice c0 d0 e0, .int .i64 (IntKind.i64.wrap (f0 + (1 : Int)))] i0)
def F6_j8 (B : World) (R : Po) (a0 : Lp) (b0 : Nat) (k0 : OA) (l0 m0 : Nat) (n0 : Int) (o0 : Bool) (p0 : Heap) : Prop :=
(o0 = true →
 ixW k0 l0 n0 2 fun q0 r0 =>
 iP q0 r0 fun s0 t0 =>
 iP s0 t0 fun u0 v0 => ∃ w0, cI p0 u0 v0 .i64 w0 ∧
 ixW k0 l0 n0 2 fun x0 y0 =>
 iP x0 y0 fun z0 a1 =>
 isP (some ⟨z0, a1 + 1, none⟩) fun b1 c1 => ∃ d1, cI p0 b1 c1 .i64 d1 ∧
 Ec B 25 #[.int .i64 w0, .int .i64 d1] (retE (fun e1 f1 => ∃ g1, e1 = .bool g1 ∧
((!g1) = true →
 F6_j32 B R a0 b0 k0 l0 m0 n0 true f1) ∧
((!g1) = false →
 ixW k0 l0 n0 2 fun i1 j1 =>
 iP i1 j1 fun k1 l1 =>
 isP (some ⟨k1, l1 + 1, none⟩) fun m1 n1 => ∃ o1, cI f1 m1 n1 .i64 o1 ∧
 ixW k0 l0 n0 2 fun p1 q1 =>
 iP p1 q1 fun r1 s1 =>
 iP r1 s1 fun t1 u1 => ∃ v1, cI f1 t1 u1 .i64 v1 ∧
 Ec B 16 #[.int .i64 o1, .int .i64 v1] (retE (fun w1 x1 => ∃ y1, w1 = .bool y1 ∧
 F6_j32 B R a0 b0 k0 l0 m0 n0 (!y1) x1)
(fun _ _ => False)) f1))
(fun _ _ => False)) p0) ∧
(o0 = false →
 Ec B 15 #[] (retE (fun z1 a2 => ∃ b2, z1 = .bool b2 ∧
 R (.returned (.bool b2)) a2)
(pk R)) p0)
def F6 (B : World) (R : Po) (c2 : OA) (d2 e2 : Nat) (h : Heap) : Prop :=
 ∃ a0 : Lp, ∃ f2, a0 f2 [.slice c2 d2 e2, .int .i64 (0 : Int)] h ∧
∀ (b0 : Nat) (g2 : Heap) (i2 : OA) (j2 k2 : Nat) (l2 : Int), a0 b0 [.slice i2 j2 k2, .int .i64 l2] g2 → ∀ _r : Nat → Value,
((decide (l2 < (j2 : Int))) = true →
 F6_j8 B R a0 b0 i2 j2 k2 l2 (decide (l2 < (60 : Int))) g2) ∧
((decide (l2 < (j2 : Int))) = false →
 F6_j8 B R a0 b0 i2 j2 k2 l2 false g2)
def F6_L : Nat → List (Nat × TypeDesc) := fun i => match i with
  | 2 => [(0, .slice 0), (3, .int .i64)]
  | _ => []
theorem F6_ok {B : World} {R : Ending → Heap → Prop} (c2 : OA) (d2 e2 : Nat) {h : Heap} (H : F6 B R c2 d2 e2 h) : Ec B 6 #[.slice c2 d2 e2] R h :=
 Ek Tryz.func6 (by kernel_rfl) (by kernel_rfl) (by kernel_rfl) F6_L [] (by kernel_rfl) H

/-- plumb/eft.FastTwoSum -/
def F20 (B : World) (R : Po) (a0 b0 : Int) (h : Heap) : Prop :=
 Ec B 54 #[.int .i64 a0] (retE (fun c0 d0 => ∃ e0, c0 = .float .f64 e0 ∧
 Ec B 54 #[.int .i64 b0] (retE (fun f0 g0 => ∃ i0, f0 = .float .f64 i0 ∧
 flW .f64 (FloatKind.f64.format.add e0 i0) e0 i0 fun j0 =>
 flW .f64 (FloatKind.f64.format.sub j0 e0) j0 e0 fun k0 =>
 flW .f64 (FloatKind.f64.format.sub i0 k0) i0 k0 fun l0 =>
 Ec B 56 #[.float .f64 j0] (retE (fun m0 n0 => ∃ o0, m0 = .int .i64 o0 ∧
 Ec B 56 #[.float .f64 l0] (retE (fun p0 q0 => ∃ r0, p0 = .int .i64 r0 ∧
 Ec B 57 #[.float .f64 j0, .float .f64 l0, .float .f64 e0, .float .f64 i0] (retE (fun s0 t0 => ∃ u0, s0 = .bool u0 ∧
 R (.returned (.tuple #[.int .i64 o0, .int .i64 r0, .bool u0])) t0)
(pk R)) q0)
(pk R)) n0)
(pk R)) g0)
(pk R)) d0)
(pk R)) h
def F20_L : Nat → List (Nat × TypeDesc) := fun _ => []
theorem F20_ok {B : World} {R : Ending → Heap → Prop} (a0 b0 : Int) {h : Heap} (H : F20 B R a0 b0 h) : Ec B 20 #[.int .i64 a0, .int .i64 b0] R h :=
 Ek Tryz.func20 (by kernel_rfl) (by kernel_rfl) (by kernel_rfl) F20_L [] (by kernel_rfl) H

/-- plumb/plumblaw6.summed -/
def F25_j55 (B : World) (R : Po) (a0 : Bool) (b0 : Heap) : Prop :=
 R (.returned (.bool a0)) b0
def F25_j36 (B : World) (R : Po) (c0 d0 : Int) (e0 : Bool) (f0 : Heap) : Prop :=
(e0 = true →
 R (.returned (.bool false)) f0) ∧
(e0 = false →
 Ec B 20 #[.int .i64 c0, .int .i64 d0] (retE (fun g0 i0 => ∃ j0 k0 l0, g0 = .tuple #[.int .i64 j0, .int .i64 k0, .bool l0] ∧
 Ec B 72 #[.int .i64 c0, .int .i64 d0] (retE (fun m0 n0 => ∃ o0 p0 q0, m0 = .tuple #[.int .i64 o0, .int .i64 p0, .bool q0] ∧
((decide (j0 = o0)) = true →
((decide (k0 = p0)) = true →
 F25_j55 B R (l0 == q0) n0) ∧
((decide (k0 = p0)) = false →
 F25_j55 B R false n0)) ∧
((decide (j0 = o0)) = false →
(false = true →
 F25_j55 B R (l0 == q0) n0) ∧
(false = false →
 F25_j55 B R false n0)))
(pk R)) i0)
(pk R)) f0)
def F25_j17 (B : World) (R : Po) (r0 s0 : Int) (t0 : Bool) (u0 : Heap) : Prop :=
(t0 = true →
 R (.returned (.bool false)) u0) ∧
(t0 = false →
 Ec B 70 #[.int .i64 r0, .int .i64 s0] (retE (fun v0 w0 => ∃ x0 y0 z0, v0 = .tuple #[.int .i64 x0, .int .i64 y0, .bool z0] ∧
 Ec B 71 #[.int .i64 r0, .int .i64 s0] (retE (fun a1 b1 => ∃ c1 d1 e1, a1 = .tuple #[.int .i64 c1, .int .i64 d1, .bool e1] ∧
((!decide (x0 = c1)) = true →
(true = true →
 F25_j36 B R r0 s0 true b1) ∧
(true = false →
 F25_j36 B R r0 s0 (!(z0 == e1)) b1)) ∧
((!decide (x0 = c1)) = false →
((!decide (y0 = d1)) = true →
 F25_j36 B R r0 s0 true b1) ∧
((!decide (y0 = d1)) = false →
 F25_j36 B R r0 s0 (!(z0 == e1)) b1)))
(pk R)) w0)
(pk R)) u0)
def F25 (B : World) (R : Po) (f1 g1 : Int) (h : Heap) : Prop :=
 Ec B 18 #[.int .i64 f1, .int .i64 g1] (retE (fun i1 j1 => ∃ k1 l1 m1, i1 = .tuple #[.int .i64 k1, .int .i64 l1, .bool m1] ∧
 Ec B 69 #[.int .i64 f1, .int .i64 g1] (retE (fun n1 o1 => ∃ p1 q1 r1, n1 = .tuple #[.int .i64 p1, .int .i64 q1, .bool r1] ∧
((!decide (k1 = p1)) = true →
(true = true →
 F25_j17 B R f1 g1 true o1) ∧
(true = false →
 F25_j17 B R f1 g1 (!(m1 == r1)) o1)) ∧
((!decide (k1 = p1)) = false →
((!decide (l1 = q1)) = true →
 F25_j17 B R f1 g1 true o1) ∧
((!decide (l1 = q1)) = false →
 F25_j17 B R f1 g1 (!(m1 == r1)) o1)))
(pk R)) j1)
(pk R)) h
def F25_L : Nat → List (Nat × TypeDesc) := fun _ => []
theorem F25_ok {B : World} {R : Ending → Heap → Prop} (f1 g1 : Int) {h : Heap} (H : F25 B R f1 g1 h) : Ec B 25 #[.int .i64 f1, .int .i64 g1] R h :=
 Ek Tryz.func25 (by kernel_rfl) (by kernel_rfl) (by kernel_rfl) F25_L [] (by kernel_rfl) H

/-- plumb/eft.TwoDiff -/
def F70 (B : World) (R : Po) (a0 b0 : Int) (h : Heap) : Prop :=
 Ec B 99 #[.int .i64 b0] (retE (fun c0 d0 => ∃ e0, c0 = .int .i64 e0 ∧
 Ec B 18 #[.int .i64 a0, .int .i64 e0] (retE (fun f0 g0 => ∃ i0 j0 k0, f0 = .tuple #[.int .i64 i0, .int .i64 j0, .bool k0] ∧
 R (.returned (.tuple #[.int .i64 i0, .int .i64 j0, .bool k0])) g0)
(pk R)) d0)
(pk R)) h
def F70_L : Nat → List (Nat × TypeDesc) := fun _ => []
theorem F70_ok {B : World} {R : Ending → Heap → Prop} (a0 b0 : Int) {h : Heap} (H : F70 B R a0 b0 h) : Ec B 70 #[.int .i64 a0, .int .i64 b0] R h :=
 Ek Tryz.func70 (by kernel_rfl) (by kernel_rfl) (by kernel_rfl) F70_L [] (by kernel_rfl) H

/-- plumb/plumbref6.TwoDiff -/
def F71 (B : World) (R : Po) (a0 b0 : Int) (h : Heap) : Prop :=
 Ec B 134 #[.int .i64 b0] (retE (fun c0 d0 => ∃ e0, c0 = .int .i64 e0 ∧
 Ec B 69 #[.int .i64 a0, .int .i64 e0] (retE (fun f0 g0 => ∃ i0 j0 k0, f0 = .tuple #[.int .i64 i0, .int .i64 j0, .bool k0] ∧
 R (.returned (.tuple #[.int .i64 i0, .int .i64 j0, .bool k0])) g0)
(pk R)) d0)
(pk R)) h
def F71_L : Nat → List (Nat × TypeDesc) := fun _ => []
theorem F71_ok {B : World} {R : Ending → Heap → Prop} (a0 b0 : Int) {h : Heap} (H : F71 B R a0 b0 h) : Ec B 71 #[.int .i64 a0, .int .i64 b0] R h :=
 Ek Tryz.func71 (by kernel_rfl) (by kernel_rfl) (by kernel_rfl) F71_L [] (by kernel_rfl) H

/-- plumb/plumbref6.FastTwoSum -/
def F72_j49 (B : World) (R : Po) (a0 b0 : Int) (c0 : Bool) (d0 : Heap) : Prop :=
 R (.returned (.tuple #[.int .i64 a0, .int .i64 b0, .bool c0])) d0
def F72 (B : World) (R : Po) (e0 f0 : Int) (h : Heap) : Prop :=
 Ec B 132 #[.int .i64 e0, .int .i64 f0] (retE (fun g0 i0 => ∃ j0, g0 = .int .i64 j0 ∧
 Ec B 110 #[.int .i64 j0, .int .i64 e0] (retE (fun k0 l0 => ∃ m0, k0 = .int .i64 m0 ∧
 Ec B 110 #[.int .i64 f0, .int .i64 m0] (retE (fun n0 o0 => ∃ p0, n0 = .int .i64 p0 ∧
 Ec B 111 #[.int .i64 e0, .int .i64 f0] (retE (fun q0 r0 => ∃ s0, q0 = .bool s0 ∧
(s0 = true →
 Ec B 114 #[.int .i64 e0] (retE (fun t0 u0 => ∃ v0 w0 x0 y0 z0, t0 = .agg #[.bool v0, .slice w0 x0 y0, .int .i64 z0] ∧
 Ec B 114 #[.int .i64 f0] (retE (fun a1 b1 => ∃ c1 d1 e1 f1 g1, a1 = .agg #[.bool c1, .slice d1 e1 f1, .int .i64 g1] ∧
 Ec B 133 #[.agg #[.bool v0, .slice w0 x0 y0, .int .i64 z0], .agg #[.bool c1, .slice d1 e1 f1, .int .i64 g1]] (retE (fun i1 j1 => ∃ k1 l1 m1 n1 o1, i1 = .agg #[.bool k1, .slice l1 m1 n1, .int .i64 o1] ∧
 Ec B 112 #[.int .i64 j0, .int .i64 p0, .agg #[.bool k1, .slice l1 m1 n1, .int .i64 o1]] (retE (fun p1 q1 => ∃ r1, p1 = .bool r1 ∧
 F72_j49 B R j0 p0 r1 q1)
(pk R)) j1)
(pk R)) b1)
(pk R)) u0)
(pk R)) r0) ∧
(s0 = false →
 F72_j49 B R j0 p0 false r0))
(pk R)) o0)
(pk R)) l0)
(pk R)) i0)
(pk R)) h
def F72_L : Nat → List (Nat × TypeDesc) := fun _ => []
theorem F72_ok {B : World} {R : Ending → Heap → Prop} (e0 f0 : Int) {h : Heap} (H : F72 B R e0 f0 h) : Ec B 72 #[.int .i64 e0, .int .i64 f0] R h :=
 Ek Tryz.func72 (by kernel_rfl) (by kernel_rfl) (by kernel_rfl) F72_L [] (by kernel_rfl) H
end Go.Proofs
