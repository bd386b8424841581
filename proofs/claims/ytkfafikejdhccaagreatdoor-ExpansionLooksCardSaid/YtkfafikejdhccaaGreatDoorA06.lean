import Derived.Test.YtkfafikejdhccaaGreatDoorA20
/- Here stand lemmas: what the functions of this file come to, fourth part (written by program). -/
set_option linter.unusedVariables false
namespace Go.Proofs
open Go Go.Eng
/-- (plumb/plumbref4.Kind).Cut -/
def F237_j169 (B : World) (R : Po) (a0 : Lp) (b0 : Nat) (c0 : OA) (d0 : Int) (e0 : Bool) (f0 : Heap) : Prop :=
(e0 = true →
 isP c0 fun g0 i0 =>
 isP (some ⟨g0, i0 + 3, none⟩) fun j0 k0 => ∃ l0, cI f0 j0 k0 .i64 l0 ∧
 R (.returned (.tuple #[.int .i64 (IntKind.i64.wrap (d0 + l0)), .bool true])) f0) ∧
(e0 = false →
 False)
def F237_j159 (B : World) (R : Po) (a0 : Lp) (b0 : Nat) (m0 : Bool) (n0 : Int) (o0 : OA) (p0 q0 : Int) (r0 : Bool) (s0 : Int) (t0 : Bool) (u0 : Heap) : Prop :=
(t0 = true →
((decide (n0 = (0 : Int))) = true →
(true = true →
 F237_j169 B R a0 b0 o0 p0 true u0) ∧
(true = false →
((decide (n0 = (1 : Int))) = true →
 F237_j169 B R a0 b0 o0 p0 m0 u0) ∧
((decide (n0 = (1 : Int))) = false →
 F237_j169 B R a0 b0 o0 p0 false u0))) ∧
((decide (n0 = (0 : Int))) = false →
((decide (n0 = (2 : Int))) = true →
((!m0) = true →
 F237_j169 B R a0 b0 o0 p0 true u0) ∧
((!m0) = false →
((decide (n0 = (1 : Int))) = true →
 F237_j169 B R a0 b0 o0 p0 m0 u0) ∧
((decide (n0 = (1 : Int))) = false →
 F237_j169 B R a0 b0 o0 p0 false u0))) ∧
((decide (n0 = (2 : Int))) = false →
(false = true →
 F237_j169 B R a0 b0 o0 p0 true u0) ∧
(false = false →
((decide (n0 = (1 : Int))) = true →
 F237_j169 B R a0 b0 o0 p0 m0 u0) ∧
((decide (n0 = (1 : Int))) = false →
 F237_j169 B R a0 b0 o0 p0 false u0))))) ∧
(t0 = false →
 isP o0 fun v0 w0 =>
∃ x0, cI u0 v0 w0 .i64 x0 ∧
∃ y0, cell? u0 ⟨v0, w0 + 1, none⟩ = some (.int .i64 y0) ∧
∃ z0, cell? u0 ⟨v0, w0 + 1 + 1, none⟩ = some (.int .i64 z0) ∧
∃ a1, cell? u0 ⟨v0, w0 + 1 + 1 + 1, none⟩ = some (.int .i64 a1) ∧
∃ b1, cell? u0 ⟨v0, w0 + 1 + 1 + 1 + 1, none⟩ = some (.int .i64 b1) ∧
 Ec B 256 #[.agg #[.int .i64 x0, .int .i64 y0, .int .i64 z0, .int .i64 a1, .int .i64 b1], .int .i64 q0, .int .i64 s0] (retE (fun c1 d1 => ∃ e1, c1 = .int .i64 e1 ∧
 R (.returned (.tuple #[.int .i64 (IntKind.i64.wrap (p0 + e1)), .bool r0])) d1)
(pk R)) u0)
def F237_j134 (B : World) (R : Po) (a0 : Lp) (b0 : Nat) (f1 : Bool) (g1 i1 : Int) (j1 : OA) (k1 l1 m1 : Int) (n1 : Bool) (o1 : Heap) : Prop :=
((decide ((0 : Int) < m1)) = true →
 isP j1 fun p1 q1 =>
 iP p1 q1 fun r1 s1 => ∃ t1, cI o1 r1 s1 .i64 t1 ∧
0 ≤ (IntKind.i64.wrap (t1 - (1 : Int))) ∧
((decide ((IntKind.i64.wrap ((1 : Int) * 2 ^ min (Int.toNat (IntKind.i64.wrap (t1 - (1 : Int)))) IntKind.i64.bits)) ≤ m1)) = true →
 isP j1 fun u1 v1 =>
 isP (some ⟨u1, v1 + 2, none⟩) fun w1 x1 => ∃ y1, cI o1 w1 x1 .i64 y1 ∧
 Ec B 255 #[.int .i64 m1] (retE (fun z1 a2 => ∃ b2, z1 = .int .i64 b2 ∧
 sameCells o1 a2 w1 x1 1 ∧ F237_j159 B R a0 b0 f1 i1 j1 k1 m1 n1 (IntKind.i64.wrap (l1 + g1)) (decide (y1 < (IntKind.i64.wrap (b2 + (IntKind.i64.wrap (l1 + g1)))))) a2)
(fun _ _ => False)) o1) ∧
((decide ((IntKind.i64.wrap ((1 : Int) * 2 ^ min (Int.toNat (IntKind.i64.wrap (t1 - (1 : Int)))) IntKind.i64.bits)) ≤ m1)) = false →
 F237_j159 B R a0 b0 f1 i1 j1 k1 m1 n1 (IntKind.i64.wrap (l1 + g1)) false o1)) ∧
((decide ((0 : Int) < m1)) = false →
(false = true →
 isP j1 fun c2 d2 =>
 isP (some ⟨c2, d2 + 2, none⟩) fun e2 f2 => ∃ g2, cI o1 e2 f2 .i64 g2 ∧
 Ec B 255 #[.int .i64 m1] (retE (fun i2 j2 => ∃ k2, i2 = .int .i64 k2 ∧
 sameCells o1 j2 e2 f2 1 ∧ F237_j159 B R a0 b0 f1 i1 j1 k1 m1 n1 (IntKind.i64.wrap (l1 + g1)) (decide (g2 < (IntKind.i64.wrap (k2 + (IntKind.i64.wrap (l1 + g1)))))) j2)
(fun _ _ => False)) o1) ∧
(false = false →
 F237_j159 B R a0 b0 f1 i1 j1 k1 m1 n1 (IntKind.i64.wrap (l1 + g1)) false o1))
def F237_j123 (B : World) (R : Po) (a0 : Lp) (b0 : Nat) (l2 : Bool) (m2 n2 : Int) (o2 : OA) (p2 q2 r2 : Int) (s2 t2 : Bool) (u2 : Heap) : Prop :=
(t2 = true →
 F237_j134 B R a0 b0 l2 m2 n2 o2 p2 q2 (IntKind.i64.wrap (r2 + (1 : Int))) s2 u2) ∧
(t2 = false →
 F237_j134 B R a0 b0 l2 m2 n2 o2 p2 q2 r2 s2 u2)
def F237_j111 (B : World) (R : Po) (a0 : Lp) (b0 : Nat) (v2 : Bool) (w2 x2 : Int) (y2 : OA) (z2 a3 : Int) (b3 c3 : Bool) (d3 : Int) (e3 : Bool) (f3 : Heap) : Prop :=
((decide (x2 = (0 : Int))) = true →
(b3 = true →
(c3 = true →
 F237_j123 B R a0 b0 v2 w2 x2 y2 z2 a3 d3 e3 true f3) ∧
(c3 = false →
(2 : Int) ≠ 0 ∧
 F237_j123 B R a0 b0 v2 w2 x2 y2 z2 a3 d3 e3 (decide ((Int.tmod d3 (2 : Int)) = (1 : Int))) f3)) ∧
(b3 = false →
 F237_j123 B R a0 b0 v2 w2 x2 y2 z2 a3 d3 e3 false f3)) ∧
((decide (x2 = (0 : Int))) = false →
 False)
def F237_j79 (B : World) (R : Po) (g3 : Bool) (i3 j3 : Int) (k3 : OA) (l3 m3 : Int) (n3 : OA) (o3 p3 : Nat) (q3 r3 : Bool) (s3 : Heap) : Prop :=
 ∃ a0 : Lp, ∃ t3, a0 t3 [.bool g3, .int .i64 i3, .int .i64 j3, .pointer k3, .int .i64 l3, .int .i64 m3, .slice n3 o3 p3, .bool q3, .bool r3, .int .i64 (0 : Int), .int .i64 (IntKind.i64.wrap ((o3 : Int) - (1 : Int)))] s3 ∧
∀ (b0 : Nat) (u3 : Heap) (v3 : Bool) (w3 x3 : Int) (y3 : OA) (z3 a4 : Int) (b4 : OA) (c4 d4 : Nat) (e4 f4 : Bool) (g4 i4 : Int), a0 b0 [.bool v3, .int .i64 w3, .int .i64 x3, .pointer y3, .int .i64 z3, .int .i64 a4, .slice b4 c4 d4, .bool e4, .bool f4, .int .i64 g4, .int .i64 i4] u3 → ∀ _r : Nat → Value,
((decide ((0 : Int) ≤ i4)) = true →
 0 ≤ (30 : Int) ∧
 ixW b4 c4 i4 1 fun j4 k4 =>
 iP j4 k4 fun l4 m4 => ∃ n4, cI u3 l4 m4 .i64 n4 ∧
∃ o4, o4 < b0 ∧ a0 o4 [.bool v3, .int .i64 w3, .int .i64 x3, .pointer y3, .int .i64 z3, .int .i64 a4, .slice b4 c4 d4, .bool e4, .bool f4, .int .i64 (IntKind.i64.wrap ((IntKind.i64.wrap (g4 * 2 ^ min (Int.toNat (30 : Int)) IntKind.i64.bits)) + n4)), .int .i64 (IntKind.i64.wrap (i4 - (1 : Int)))] u3) ∧
((decide ((0 : Int) ≤ i4)) = false →
(e4 = true →
 F237_j111 B R a0 b0 v3 w3 x3 y3 z3 a4 e4 f4 g4 true u3) ∧
(e4 = false →
 F237_j111 B R a0 b0 v3 w3 x3 y3 z3 a4 e4 f4 g4 f4 u3))
def F237_j63 (B : World) (R : Po) (p4 : Bool) (q4 : OA) (r4 s4 : Nat) (t4 : Int) (u4 : Bool) (v4 : Int) (w4 : OA) (x4 y4 : Int) (z4 : OA) (a5 b5 : Nat) (c5 : Heap) : Prop :=
 Ec B 254 #[.slice q4 r4 s4, .int .i64 (IntKind.i64.wrap (y4 - (1 : Int)))] (retE (fun d5 e5 => ∃ f5, d5 = .bool f5 ∧
(u4 = true →
 F237_j79 B R p4 t4 v4 w4 x4 y4 z4 a5 b5 f5 true e5) ∧
(u4 = false →
((decide ((0 : Int) < (IntKind.i64.wrap (y4 - (1 : Int))))) = true →
 Ec B 190 #[.slice q4 r4 s4] (retE (fun g5 i5 => ∃ j5, g5 = .int .i64 j5 ∧
((decide ((0 : Int) ≤ j5)) = true →
 Ec B 190 #[.slice q4 r4 s4] (retE (fun k5 l5 => ∃ m5, k5 = .int .i64 m5 ∧
 F237_j79 B R p4 t4 v4 w4 x4 y4 z4 a5 b5 f5 (decide (m5 < (IntKind.i64.wrap (y4 - (1 : Int))))) l5)
(pk R)) i5) ∧
((decide ((0 : Int) ≤ j5)) = false →
 F237_j79 B R p4 t4 v4 w4 x4 y4 z4 a5 b5 f5 false i5))
(pk R)) e5) ∧
((decide ((0 : Int) < (IntKind.i64.wrap (y4 - (1 : Int))))) = false →
(false = true →
 Ec B 190 #[.slice q4 r4 s4] (retE (fun n5 o5 => ∃ p5, n5 = .int .i64 p5 ∧
 F237_j79 B R p4 t4 v4 w4 x4 y4 z4 a5 b5 f5 (decide (p5 < (IntKind.i64.wrap (y4 - (1 : Int))))) o5)
(pk R)) e5) ∧
(false = false →
 F237_j79 B R p4 t4 v4 w4 x4 y4 z4 a5 b5 f5 false e5))))
(pk R)) c5
def F237_j32 (B : World) (R : Po) (q5 : Bool) (r5 : OA) (s5 t5 : Nat) (u5 : Int) (v5 : Bool) (w5 : Int) (x5 : OA) (y5 z5 : Int) (a6 : Bool) (b6 : Heap) : Prop :=
(a6 = true →
 R (.returned (.tuple #[.int .i64 y5, .bool false])) b6) ∧
(a6 = false →
 isP x5 fun c6 d6 =>
 iP c6 d6 fun e6 f6 => ∃ g6, cI b6 e6 f6 .i64 g6 ∧
 isP x5 fun i6 j6 =>
 isP (some ⟨i6, j6 + 1, none⟩) fun k6 l6 => ∃ m6, cI b6 k6 l6 .i64 m6 ∧
 Ec B 191 #[.slice r5 s5 t5, .int .i64 (if (0 : Int) > (IntKind.i64.wrap ((if m6 > (IntKind.i64.wrap ((IntKind.i64.wrap (z5 + u5)) - g6)) then m6 else (IntKind.i64.wrap ((IntKind.i64.wrap (z5 + u5)) - g6))) - u5)) then (0 : Int) else (IntKind.i64.wrap ((if m6 > (IntKind.i64.wrap ((IntKind.i64.wrap (z5 + u5)) - g6)) then m6 else (IntKind.i64.wrap ((IntKind.i64.wrap (z5 + u5)) - g6))) - u5)))] (retE (fun n6 o6 => ∃ p6 q6 r6, n6 = .slice p6 q6 r6 ∧
((decide ((IntKind.i64.wrap ((if m6 > (IntKind.i64.wrap ((IntKind.i64.wrap (z5 + u5)) - g6)) then m6 else (IntKind.i64.wrap ((IntKind.i64.wrap (z5 + u5)) - g6))) - u5)) < (0 : Int))) = true →
 Ec B 177 #[.slice r5 s5 t5, .int .i64 (IntKind.i64.wrap (0 - (IntKind.i64.wrap ((if m6 > (IntKind.i64.wrap ((IntKind.i64.wrap (z5 + u5)) - g6)) then m6 else (IntKind.i64.wrap ((IntKind.i64.wrap (z5 + u5)) - g6))) - u5))))] (retE (fun s6 t6 => ∃ u6 v6 w6, s6 = .slice u6 v6 w6 ∧
 F237_j63 B R q5 r5 s5 t5 u5 v5 w5 x5 y5 (IntKind.i64.wrap ((if m6 > (IntKind.i64.wrap ((IntKind.i64.wrap (z5 + u5)) - g6)) then m6 else (IntKind.i64.wrap ((IntKind.i64.wrap (z5 + u5)) - g6))) - u5)) u6 v6 w6 t6)
(pk R)) o6) ∧
((decide ((IntKind.i64.wrap ((if m6 > (IntKind.i64.wrap ((IntKind.i64.wrap (z5 + u5)) - g6)) then m6 else (IntKind.i64.wrap ((IntKind.i64.wrap (z5 + u5)) - g6))) - u5)) < (0 : Int))) = false →
 F237_j63 B R q5 r5 s5 t5 u5 v5 w5 x5 y5 (IntKind.i64.wrap ((if m6 > (IntKind.i64.wrap ((IntKind.i64.wrap (z5 + u5)) - g6)) then m6 else (IntKind.i64.wrap ((IntKind.i64.wrap (z5 + u5)) - g6))) - u5)) p6 q6 r6 o6))
(pk R)) b6)
def F237_j18 (B : World) (R : Po) (x6 : Bool) (y6 : OA) (z6 a7 : Nat) (b7 : Int) (c7 : Bool) (d7 : Int) (e7 : OA) (f7 : Int) (g7 : Heap) : Prop :=
 Ec B 253 #[.slice y6 z6 a7] (retE (fun i7 j7 => ∃ k7, i7 = .int .i64 k7 ∧
((decide (k7 = (0 : Int))) = true →
 F237_j32 B R x6 y6 z6 a7 b7 c7 d7 e7 f7 k7 (!c7) j7) ∧
((decide (k7 = (0 : Int))) = false →
 F237_j32 B R x6 y6 z6 a7 b7 c7 d7 e7 f7 k7 false j7))
(pk R)) g7
def F237 (B : World) (R : Po) (l7 m7 n7 o7 p7 : Int) (q7 : Bool) (r7 : OA) (s7 t7 : Nat) (u7 : Int) (v7 : Bool) (w7 : Int) (h : Heap) : Prop :=
 alW h (.cells #[.int .i64 l7, .int .i64 m7, .int .i64 n7, .int .i64 o7, .int .i64 p7] 166) fun x7 y7 =>
(q7 = true →
 iP x7 0 fun z7 a8 =>
 isP (some ⟨z7, a8 + 4, none⟩) fun b8 c8 => ∃ d8, cI y7 b8 c8 .i64 d8 ∧
 F237_j18 B R q7 r7 s7 t7 u7 v7 w7 (some ⟨x7, 0, none⟩) d8 y7) ∧
(q7 = false →
 F237_j18 B R q7 r7 s7 t7 u7 v7 w7 (some ⟨x7, 0, none⟩) (0 : Int) y7)
def F237_L : Nat → List (Nat × TypeDesc) := fun i => match i with
  | 15 => [(1, .bool), (3, .int .i64), (5, .int .i64), (6, .pointer 0), (14, .int .i64), (16, .int .i64), (17, .slice 0), (18, .bool), (19, .bool), (20, .int .i64), (21, .int .i64)]
  | _ => []
theorem F237_ok {B : World} {R : Ending → Heap → Prop} (l7 m7 n7 o7 p7 : Int) (q7 : Bool) (r7 : OA) (s7 t7 : Nat) (u7 : Int) (v7 : Bool) (w7 : Int) {h : Heap} (H : F237 B R l7 m7 n7 o7 p7 q7 r7 s7 t7 u7 v7 w7 h) : Ec B 237 #[.agg #[.int .i64 l7, .int .i64 m7, .int .i64 n7, .int .i64 o7, .int .i64 p7], .bool q7, .slice r7 s7 t7, .int .i64 u7, .bool v7, .int .i64 w7] R h :=
 Ek Tryz.func237 (by kernel_rfl) (by kernel_rfl) (by kernel_rfl) F237_L [23, 24, 25, 26, 33] (by kernel_rfl) H
end Go.Proofs
