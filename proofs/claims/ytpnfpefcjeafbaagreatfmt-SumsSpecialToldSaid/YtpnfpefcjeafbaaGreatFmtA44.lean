import Derived.Test.YtpnfpefcjeafbaaGreatFmtA09
/- Here stand lemmas and contracts, in the order in which they are used. -/
set_option linter.unusedVariables false
namespace Go.Proofs
open Go Go.Eng
/-- plumb/plumblaw5.SumsSpecial -/
def F1380_j229 (B : World) (R : Po) (a0 : Bool) (b0 : Heap) : Prop :=
 R (.returned (.bool a0)) b0
def F1380_j225 (B : World) (R : Po) (c0 : Int) (d0 : Bool) (e0 : Heap) : Prop :=
(d0 = true →
 F1380_j229 B R (decide (c0 = (1 : Int))) e0) ∧
(d0 = false →
 F1380_j229 B R false e0)
def F1380_j220 (B : World) (R : Po) (f0 g0 : Int) (i0 : Bool) (j0 : Heap) : Prop :=
(i0 = true →
 F1380_j225 B R g0 (decide (f0 = (0 : Int))) j0) ∧
(i0 = false →
 F1380_j225 B R g0 false j0)
def F1380_j214 (B : World) (R : Po) (k0 l0 m0 : Int) (n0 : Bool) (o0 : Heap) : Prop :=
(n0 = true →
 F1380_j220 B R l0 m0 (decide (k0 = (0 : Int))) o0) ∧
(n0 = false →
 F1380_j220 B R l0 m0 false o0)
def F1380_j206 (B : World) (R : Po) (p0 q0 r0 s0 t0 : Int) (u0 : Bool) (v0 : Heap) : Prop :=
(u0 = true →
 F1380_j214 B R r0 s0 t0 (decide (q0 = p0)) v0) ∧
(u0 = false →
 F1380_j214 B R r0 s0 t0 false v0)
def F1380_j197 (B : World) (R : Po) (w0 x0 y0 z0 a1 b1 : Int) (c1 : Bool) (d1 : Heap) : Prop :=
(c1 = true →
 F1380_j206 B R w0 y0 z0 a1 b1 (decide (x0 = w0)) d1) ∧
(c1 = false →
 F1380_j206 B R w0 y0 z0 a1 b1 false d1)
def F1380_j186 (B : World) (R : Po) (e1 f1 g1 i1 j1 k1 l1 m1 : Int) (n1 : Bool) (o1 : Heap) : Prop :=
(n1 = true →
 F1380_j197 B R f1 i1 j1 k1 l1 m1 (decide (g1 = e1)) o1) ∧
(n1 = false →
 F1380_j197 B R f1 i1 j1 k1 l1 m1 false o1)
def F1380_j174 (B : World) (R : Po) (p1 q1 r1 s1 t1 u1 v1 w1 x1 : Int) (y1 : Bool) (z1 : Heap) : Prop :=
(y1 = true →
 F1380_j186 B R p1 q1 s1 t1 u1 v1 w1 x1 (decide (r1 = q1)) z1) ∧
(y1 = false →
 F1380_j186 B R p1 q1 s1 t1 u1 v1 w1 x1 false z1)
def F1380_j161 (B : World) (R : Po) (a2 b2 c2 d2 e2 f2 g2 i2 j2 k2 : Int) (l2 : Bool) (m2 : Heap) : Prop :=
(l2 = true →
 F1380_j174 B R a2 b2 d2 e2 f2 g2 i2 j2 k2 (decide (c2 = b2)) m2) ∧
(l2 = false →
 F1380_j174 B R a2 b2 d2 e2 f2 g2 i2 j2 k2 false m2)
def F1380_j146 (B : World) (R : Po) (n2 o2 p2 q2 r2 s2 t2 u2 v2 w2 x2 y2 : Int) (z2 : Bool) (a3 : Heap) : Prop :=
(z2 = true →
 F1380_j161 B R n2 p2 r2 s2 t2 u2 v2 w2 x2 y2 (decide (q2 = o2)) a3) ∧
(z2 = false →
 F1380_j161 B R n2 p2 r2 s2 t2 u2 v2 w2 x2 y2 false a3)
def F1380_j130 (B : World) (R : Po) (b3 c3 d3 e3 f3 g3 i3 j3 k3 l3 m3 n3 o3 : Int) (p3 : Bool) (q3 : Heap) : Prop :=
(p3 = true →
 F1380_j146 B R b3 c3 d3 f3 g3 i3 j3 k3 l3 m3 n3 o3 (decide (e3 = b3)) q3) ∧
(p3 = false →
 F1380_j146 B R b3 c3 d3 f3 g3 i3 j3 k3 l3 m3 n3 o3 false q3)
def F1380_j8 (B : World) (R : Po) (r3 : Int) (s3 : OA) (t3 u3 : Nat) (v3 w3 x3 y3 : Int) (z3 : Heap) : Prop :=
 alW z3 (.cells #[.int .i64 v3] 3) fun a4 b4 =>
 Ec B 16 #[.slice s3 t3 u3, .int .i64 y3, .slice (some ⟨a4, 0, none⟩) 1 1] (retE (fun c4 d4 => ∃ e4 f4 g4, c4 = .slice e4 f4 g4 ∧
 Ec B 7 #[.slice e4 f4 g4, .int .i64 (bitsI .and .i64 r3 (3 : Int))] (retE (fun i4 j4 => ∃ k4 l4, i4 = .tuple #[.int .i64 k4, .int .i64 l4] ∧
 alW j4 (.cells #[.int .i64 w3, .int .i64 w3] 3) fun m4 n4 =>
 Ec B 16 #[.slice s3 t3 u3, .int .i64 y3, .slice (some ⟨m4, 0, none⟩) 2 2] (retE (fun o4 p4 => ∃ q4 r4 s4, o4 = .slice q4 r4 s4 ∧
 Ec B 7 #[.slice q4 r4 s4, .int .i64 (bitsI .and .i64 r3 (3 : Int))] (retE (fun t4 u4 => ∃ v4 w4, t4 = .tuple #[.int .i64 v4, .int .i64 w4] ∧
 alW u4 (.cells #[.int .i64 v3, .int .i64 w3] 3) fun x4 y4 =>
 Ec B 16 #[.slice s3 t3 u3, .int .i64 y3, .slice (some ⟨x4, 0, none⟩) 2 2] (retE (fun z4 a5 => ∃ b5 c5 d5, z4 = .slice b5 c5 d5 ∧
 Ec B 7 #[.slice b5 c5 d5, .int .i64 (bitsI .and .i64 r3 (3 : Int))] (retE (fun e5 f5 => ∃ g5 i5, e5 = .tuple #[.int .i64 g5, .int .i64 i5] ∧
 alW f5 (.cells #[.int .i64 x3, .int .i64 v3] 3) fun j5 k5 =>
 Ec B 16 #[.slice s3 t3 u3, .int .i64 y3, .slice (some ⟨j5, 0, none⟩) 2 2] (retE (fun l5 m5 => ∃ n5 o5 p5, l5 = .slice n5 o5 p5 ∧
 Ec B 7 #[.slice n5 o5 p5, .int .i64 (bitsI .and .i64 r3 (3 : Int))] (retE (fun q5 r5 => ∃ s5 t5, q5 = .tuple #[.int .i64 s5, .int .i64 t5] ∧
 alW r5 (.cells #[.int .i64 x3, .int .i64 w3] 3) fun u5 v5 =>
 Ec B 16 #[.slice s3 t3 u3, .int .i64 y3, .slice (some ⟨u5, 0, none⟩) 2 2] (retE (fun w5 x5 => ∃ y5 z5 a6, w5 = .slice y5 z5 a6 ∧
 Ec B 17 #[.slice y5 z5 a6, .int .i64 (bitsI .and .i64 r3 (3 : Int))] (retE (fun b6 c6 => ∃ d6 e6, b6 = .tuple #[.int .i64 d6, .int .i64 e6] ∧
 alW c6 (.cells #[.int .i64 x3] 3) fun f6 g6 =>
 Ec B 16 #[.slice s3 t3 u3, .int .i64 y3, .slice (some ⟨f6, 0, none⟩) 1 1] (retE (fun i6 j6 => ∃ k6 l6 m6, i6 = .slice k6 l6 m6 ∧
 Ec B 17 #[.slice k6 l6 m6, .int .i64 (bitsI .and .i64 r3 (3 : Int))] (retE (fun n6 o6 => ∃ p6 q6, n6 = .tuple #[.int .i64 p6, .int .i64 q6] ∧
 alW o6 (.cells #[.int .i64 v3] 3) fun r6 s6 =>
 Ec B 16 #[.slice s3 t3 u3, .int .i64 y3, .slice (some ⟨r6, 0, none⟩) 1 1] (retE (fun t6 u6 => ∃ v6 w6 x6, t6 = .slice v6 w6 x6 ∧
 alW u6 (.cells #[.int .i64 (0 : Int)] 3) fun y6 z6 =>
 Ec B 16 #[.slice s3 t3 u3, .int .i64 y3, .slice (some ⟨y6, 0, none⟩) 1 1] (retE (fun a7 b7 => ∃ c7 d7 e7, a7 = .slice c7 d7 e7 ∧
 Ec B 18 #[.slice v6 w6 x6, .slice c7 d7 e7, .int .i64 (bitsI .and .i64 r3 (3 : Int))] (retE (fun f7 g7 => ∃ i7 j7, f7 = .tuple #[.int .i64 i7, .int .i64 j7] ∧
 Ec B 7 #[.slice s3 t3 u3, .int .i64 (IntKind.i64.wrap ((4 : Int) + (bitsI .and .i64 r3 (3 : Int))))] (retE (fun k7 l7 => ∃ m7 n7, k7 = .tuple #[.int .i64 m7, .int .i64 n7] ∧
 Ec B 8 #[] (retE (fun o7 p7 => ∃ q7, o7 = .bool q7 ∧
(q7 = true →
 F1380_j130 B R v3 w3 x3 k4 v4 g5 s5 d6 p6 i7 j7 m7 n7 (decide (l4 = (0 : Int))) p7) ∧
(q7 = false →
 F1380_j130 B R v3 w3 x3 k4 v4 g5 s5 d6 p6 i7 j7 m7 n7 false p7))
(pk R)) l7)
(pk R)) g7)
(pk R)) b7)
(pk R)) z6)
(pk R)) s6)
(pk R)) j6)
(pk R)) g6)
(pk R)) x5)
(pk R)) v5)
(pk R)) m5)
(pk R)) k5)
(pk R)) a5)
(pk R)) y4)
(pk R)) p4)
(pk R)) n4)
(pk R)) d4)
(pk R)) b4
def F1380 (B : World) (R : Po) (r7 : OA) (s7 t7 : Nat) (u7 v7 : Int) (h : Heap) : Prop :=
 Ec B 14 #[.slice r7 s7 t7, .int .i64 (100 : Int)] (retE (fun w7 x7 => ∃ y7 z7 a8, w7 = .slice y7 z7 a8 ∧
 Ec B 15 #[.int .i64 (9218868437227405312 : Int)] (retE (fun b8 c8 => ∃ d8, b8 = .int .i64 d8 ∧
((decide ((0 : Int) < (z7 : Int))) = true →
(IntKind.i64.wrap ((z7 : Int) + (1 : Int))) ≠ 0 ∧
 F1380_j8 B R v7 y7 z7 a8 (9218868437227405312 : Int) d8 (9221120237041090561 : Int) (Int.tmod (bitsI .and .i64 u7 (1073741823 : Int)) (IntKind.i64.wrap ((z7 : Int) + (1 : Int)))) c8) ∧
((decide ((0 : Int) < (z7 : Int))) = false →
 F1380_j8 B R v7 y7 z7 a8 (9218868437227405312 : Int) d8 (9221120237041090561 : Int) (0 : Int) c8))
(pk R)) x7)
(pk R)) h
def F1380_L : Nat → List (Nat × TypeDesc) := fun _ => []
def F1380_J (B : World) (R : Po) : Nat → Option JT := fun i => match i with
  | 8 => some ⟨[(2, .int .i64), (7, .slice 0), (8, .int .i64), (9, .int .i64), (10, .int .i64), (11, .int .i64)], fun s v h => match s, v with
    | [], [.int _ r3, .slice s3 t3 u3, .int _ v3, .int _ w3, .int _ x3, .int _ y3] => F1380_j8 B R r3 s3 t3 u3 v3 w3 x3 y3 h
    | _, _ => False⟩
  | _ => none
theorem F1380_ok {B : World} {R : Ending → Heap → Prop} (r7 : OA) (s7 t7 : Nat) (u7 v7 : Int) {h : Heap} (H : F1380 B R r7 s7 t7 u7 v7 h) : Ec B 4 #[.slice r7 s7 t7, .int .i64 u7, .int .i64 v7] R h :=
 Ej Tryz.func4 (by kernel_rfl) (by kernel_rfl) (by kernel_rfl) F1380_L (F1380_J B R) [] (by kernel_rfl) (by kernel_rfl) H

/-- plumb/plumblaw5.put -/
def F1386 (B : World) (R : Po) (a0 : OA) (b0 c0 : Nat) (d0 : Int) (e0 : OA) (f0 g0 : Nat) (h : Heap) : Prop :=
 slW b0 c0 none (some (.int .i64 d0)) none fun i0 j0 k0 =>
 slW b0 c0 (some (.int .i64 d0)) none none fun l0 m0 n0 =>
 apW h none 0 0 (slP a0 i0 k0 1) (j0 - i0) 1 8 3 #[.int .i64 0] fun o0 p0 q0 r0 =>
 apW r0 o0 p0 q0 e0 f0 1 8 3 #[.int .i64 0] fun s0 t0 u0 v0 =>
 apW v0 s0 t0 u0 (slP a0 l0 n0 1) (m0 - l0) 1 8 3 #[.int .i64 0] fun w0 x0 y0 z0 =>
 R (.returned (.slice w0 x0 y0)) z0
def F1386_L : Nat → List (Nat × TypeDesc) := fun _ => []
theorem F1386_ok {B : World} {R : Ending → Heap → Prop} (a0 : OA) (b0 c0 : Nat) (d0 : Int) (e0 : OA) (f0 g0 : Nat) {h : Heap} (H : F1386 B R a0 b0 c0 d0 e0 f0 g0 h) : Ec B 16 #[.slice a0 b0 c0, .int .i64 d0, .slice e0 f0 g0] R h :=
 Ek Tryz.func16 (by kernel_rfl) (by kernel_rfl) (by kernel_rfl) F1386_L [] (by kernel_rfl) H

/-- plumb/sums.Norm -/
def F1387_j13 (B : World) (R : Po) (a0 : Int) (b0 c0 : OA) (d0 : Bool) (e0 : Heap) : Prop :=
(d0 = true →
 R (.returned (.tuple #[.int .i64 (9218868437227405312 : Int), .int .i64 (0 : Int)])) e0) ∧
(d0 = false →
 isP b0 fun f0 g0 =>
 isP (some ⟨f0, g0 + 2, none⟩) fun i0 j0 => ∃ k0, cell? e0 ⟨i0, j0, none⟩ = some (.bool k0) ∧
(k0 = true →
 R (.returned (.tuple #[.int .i64 (9221120237041090561 : Int), .int .i64 (0 : Int)])) e0) ∧
(k0 = false →
 Ec B 41 #[.pointer c0] (retE (fun l0 m0 => ∃ n0 o0 p0 q0 r0, l0 = .agg #[.bool n0, .slice o0 p0 q0, .int .i64 r0] ∧
 Ec B 40 #[.agg #[.bool n0, .slice o0 p0 q0, .int .i64 r0], .int .i64 a0] (retE (fun s0 t0 => ∃ u0 v0 w0, s0 = .tuple #[.int .i64 u0, .bool v0, .int .i64 w0] ∧
 R (.returned (.tuple #[.int .i64 u0, .int .i64 w0])) t0)
(pk R)) m0)
(pk R)) e0))
def F1387 (B : World) (R : Po) (x0 : OA) (y0 z0 : Nat) (a1 : Int) (h : Heap) : Prop :=
 alW h (.cells #[.slice x0 y0 z0] 22) fun b1 c1 =>
 Ec B 28 #[.int .i64 a1, .slice (some ⟨b1, 0, none⟩) 1 1] (retE (fun d1 e1 => ∃ f1, d1 = .int .i64 f1 ∧
((!decide (f1 = (0 : Int))) = true →
 R (.returned (.tuple #[.int .i64 (0 : Int), .int .i64 f1])) e1) ∧
((!decide (f1 = (0 : Int))) = false →
 alW e1 (.cells #[.bool false, .bool false, .bool false] 57) fun g1 i1 =>
 alW i1 (.cells #[.bool false, .slice none 0 0] 63) fun j1 k1 =>
 Ec B 30 #[.slice x0 y0 z0, .func (.func 31) #[] #[]] (retE (fun l1 m1 => ∃ n1 o1 p1, l1 = .slice n1 o1 p1 ∧
∃ q1 : Lp, ∃ r1, q1 r1 [.int .i64 a1, .pointer (some ⟨g1, 0, none⟩), .pointer (some ⟨j1, 0, none⟩), .slice n1 o1 p1, .int .i64 (o1 : Int), .int .i64 (0 : Int)] m1 ∧
∀ (s1 : Nat) (t1 : Heap) (u1 : Int) (v1 w1 x1 : OA) (y1 z1 : Nat) (a2 b2 : Int), q1 s1 [.int .i64 u1, .pointer v1, .pointer w1, .slice x1 y1 z1, .int .i64 a2, .int .i64 b2] t1 → ∀ _r : Nat → Value,
((decide (b2 < a2)) = true →
 ixW x1 y1 b2 1 fun c2 d2 =>
 iP c2 d2 fun e2 f2 => ∃ g2, cell? t1 ⟨e2, f2, none⟩ = some (.float .f64 g2) ∧
 Ec B 38 #[.pointer v1, .float .f64 g2] (retE (fun i2 j2 => i2 = .tuple #[] ∧
 Ec B 39 #[.pointer w1, .float .f64 g2, .float .f64 g2] (retE (fun k2 l2 => k2 = .tuple #[] ∧
∃ m2, m2 < s1 ∧ q1 m2 [.int .i64 u1, .pointer v1, .pointer w1, .slice x1 y1 z1, .int .i64 a2, .int .i64 (IntKind.i64.wrap (b2 + (1 : Int)))] l2)
(pk R)) j2)
(pk R)) t1) ∧
((decide (b2 < a2)) = false →
 isP v1 fun n2 o2 =>
 iP n2 o2 fun p2 q2 => ∃ r2, cell? t1 ⟨p2, q2, none⟩ = some (.bool r2) ∧
(r2 = true →
 F1387_j13 B R u1 v1 w1 true t1) ∧
(r2 = false →
 isP v1 fun s2 t2 =>
 isP (some ⟨s2, t2 + 1, none⟩) fun u2 v2 => ∃ w2, cell? t1 ⟨u2, v2, none⟩ = some (.bool w2) ∧
 F1387_j13 B R u1 v1 w1 w2 t1)))
(pk R)) k1))
(pk R)) c1
def F1387_L : Nat → List (Nat × TypeDesc) := fun i => match i with
  | 7 => [(1, .int .i64), (7, .pointer 0), (8, .pointer 0), (22, .slice 0), (23, .int .i64), (24, .int .i64)]
  | _ => []
def F1387_J (B : World) (R : Po) : Nat → Option JT := fun i => match i with
  | 13 => some ⟨[(1, .int .i64), (7, .pointer 0), (8, .pointer 0), (39, .bool)], fun s v h => match s, v with
    | [], [.int _ a0, .pointer b0, .pointer c0, .bool d0] => F1387_j13 B R a0 b0 c0 d0 h
    | _, _ => False⟩
  | _ => none
theorem F1387_ok {B : World} {R : Ending → Heap → Prop} (x0 : OA) (y0 z0 : Nat) (a1 : Int) {h : Heap} (H : F1387 B R x0 y0 z0 a1 h) : Ec B 17 #[.slice x0 y0 z0, .int .i64 a1] R h :=
 Ej Tryz.func17 (by kernel_rfl) (by kernel_rfl) (by kernel_rfl) F1387_L (F1387_J B R) [] (by kernel_rfl) (by kernel_rfl) H
end Go.Proofs
