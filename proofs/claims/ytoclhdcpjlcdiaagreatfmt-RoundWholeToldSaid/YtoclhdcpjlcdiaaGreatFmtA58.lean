import Derived.Test.YtoclhdcpjlcdiaaGreatFmtA03
/- Here stand lemmas: chapter 4: what the functions come to (written by program). -/
set_option linter.unusedVariables false
namespace Go.Proofs
open Go Go.Eng
/-- plumb/plumblaw4.alive -/
def F1319_j54 (B : World) (R : Po) (a0 : Bool) (b0 : Heap) : Prop :=
 R (.returned (.bool a0)) b0
def F1319_j50 (B : World) (R : Po) (c0 : Int) (d0 : Bool) (e0 : Heap) : Prop :=
(d0 = true →
 F1319_j54 B R (decide (c0 = (0 : Int))) e0) ∧
(d0 = false →
 F1319_j54 B R false e0)
def F1319_j45 (B : World) (R : Po) (f0 g0 : Int) (i0 : Bool) (j0 : Heap) : Prop :=
(i0 = true →
 F1319_j50 B R g0 (decide (f0 = (1073741824 : Int))) j0) ∧
(i0 = false →
 F1319_j50 B R g0 false j0)
def F1319_j39 (B : World) (R : Po) (k0 l0 m0 : Int) (n0 : Bool) (o0 : Heap) : Prop :=
(n0 = true →
 F1319_j45 B R l0 m0 (decide (k0 = (0 : Int))) o0) ∧
(n0 = false →
 F1319_j45 B R l0 m0 false o0)
def F1319_j32 (B : World) (R : Po) (p0 q0 r0 s0 : Int) (t0 : Bool) (u0 : Heap) : Prop :=
(t0 = true →
 F1319_j39 B R q0 r0 s0 (decide (p0 = (4611686018427387904 : Int))) u0) ∧
(t0 = false →
 F1319_j39 B R q0 r0 s0 false u0)
def F1319_j24 (B : World) (R : Po) (v0 w0 x0 y0 z0 : Int) (a1 : Bool) (b1 : Heap) : Prop :=
(a1 = true →
 F1319_j32 B R w0 x0 y0 z0 (decide (v0 = (0 : Int))) b1) ∧
(a1 = false →
 F1319_j32 B R w0 x0 y0 z0 false b1)
def F1319 (B : World) (R : Po) (h : Heap) : Prop :=
 alW h (.cells #[.int .i64 (1 : Int)] 3) fun c1 d1 =>
 alW d1 (.cells #[.int .i64 (3 : Int)] 3) fun e1 f1 =>
 Ec B 17 #[.agg #[.bool false, .slice (some ⟨c1, 0, none⟩) 1 1, .int .i64 0], .agg #[.bool false, .slice (some ⟨e1, 0, none⟩) 1 1, .int .i64 0], .int .i64 (0 : Int)] (retE (fun g1 i1 => ∃ j1 k1 l1, g1 = .tuple #[.int .i64 j1, .bool k1, .int .i64 l1] ∧
 Ec B 18 #[.int .i64 (4607182418800017408 : Int), .int .i64 (4607182418800017408 : Int), .int .i64 (0 : Int)] (retE (fun m1 n1 => ∃ o1 p1, m1 = .tuple #[.int .i64 o1, .int .i64 p1] ∧
 Ec B 19 #[.int .i64 (1065353216 : Int), .int .i64 (1065353216 : Int), .int .i64 (0 : Int)] (retE (fun q1 r1 => ∃ s1 t1, q1 = .tuple #[.int .i64 s1, .int .i64 t1] ∧
((decide (j1 = (4599676419421066581 : Int))) = true →
 F1319_j24 B R l1 o1 p1 s1 t1 k1 r1) ∧
((decide (j1 = (4599676419421066581 : Int))) = false →
 F1319_j24 B R l1 o1 p1 s1 t1 false r1))
(pk R)) n1)
(pk R)) i1)
(pk R)) f1
def F1319_L : Nat → List (Nat × TypeDesc) := fun _ => []
theorem F1319_ok {B : World} {R : Ending → Heap → Prop} {h : Heap} (H : F1319 B R h) : Ec B 6 #[] R h :=
 Ek Tryz.func6 (by kernel_rfl) (by kernel_rfl) (by kernel_rfl) F1319_L [] (by kernel_rfl) H
end Go.Proofs
namespace Go.Proofs
open Go Go.Eng
/-- plumb/round.Quot -/
def F1322 (B : World) (R : Po) (a0 : Bool) (b0 : OA) (c0 d0 : Nat) (e0 : Int) (f0 : Bool) (g0 : OA) (i0 j0 : Nat) (k0 l0 : Int) (h : Heap) : Prop :=
 alW h (.cells #[.bool a0, .slice b0 c0 d0, .int .i64 e0] 43) fun m0 n0 =>
 alW n0 (.cells #[.bool f0, .slice g0 i0 j0, .int .i64 k0] 43) fun o0 p0 =>
 iP m0 0 fun q0 r0 =>
∃ s0, cell? p0 ⟨q0, r0, none⟩ = some (.bool s0) ∧
∃ t0 u0 v0, cell? p0 ⟨q0, r0 + 1, none⟩ = some (.slice t0 u0 v0) ∧
∃ w0, cell? p0 ⟨q0, r0 + 1 + 1, none⟩ = some (.int .i64 w0) ∧
 iP o0 0 fun x0 y0 =>
∃ z0, cell? p0 ⟨x0, y0, none⟩ = some (.bool z0) ∧
∃ a1 b1 c1, cell? p0 ⟨x0, y0 + 1, none⟩ = some (.slice a1 b1 c1) ∧
∃ d1, cell? p0 ⟨x0, y0 + 1 + 1, none⟩ = some (.int .i64 d1) ∧
 alW p0 (.cells #[.bool s0, .slice t0 u0 v0, .int .i64 w0, .bool z0, .slice a1 b1 c1, .int .i64 d1] 43) fun e1 f1 =>
 Ec B 38 #[.int .i64 l0, .slice (some ⟨e1, 0, none⟩) 2 2, .func (.func 39) #[] #[], .func (.func 24) #[] #[], .int .i64 (-9223372036854775808 : Int)] (retE (fun g1 i1 => ∃ j1 k1 l1, g1 = .tuple #[.int .i64 j1, .bool k1, .int .i64 l1] ∧
 R (.returned (.tuple #[.int .i64 j1, .bool k1, .int .i64 l1])) i1)
(pk R)) f1
def F1322_L : Nat → List (Nat × TypeDesc) := fun _ => []
theorem F1322_ok {B : World} {R : Ending → Heap → Prop} (a0 : Bool) (b0 : OA) (c0 d0 : Nat) (e0 : Int) (f0 : Bool) (g0 : OA) (i0 j0 : Nat) (k0 l0 : Int) {h : Heap} (H : F1322 B R a0 b0 c0 d0 e0 f0 g0 i0 j0 k0 l0 h) : Ec B 17 #[.agg #[.bool a0, .slice b0 c0 d0, .int .i64 e0], .agg #[.bool f0, .slice g0 i0 j0, .int .i64 k0], .int .i64 l0] R h :=
 Ek Tryz.func17 (by kernel_rfl) (by kernel_rfl) (by kernel_rfl) F1322_L [] (by kernel_rfl) H

/-- (*math/big.Int).QuoRem -/
def F1276_j3 (B : World) (R : Po) (a0 b0 : OA) (c0 : Heap) : Prop :=
 R (.returned (.tuple #[.pointer a0, .pointer b0])) c0
def F1276_j93 (B : World) (R : Po) (d0 e0 f0 g0 : OA) (i0 j0 : Bool) (k0 : Heap) : Prop :=
 isP f0 fun l0 m0 =>
 iP l0 m0 fun n0 o0 =>
 iP n0 o0 fun p0 q0 => stC k0 p0 q0 (.bool i0) fun r0 =>
 isP g0 fun s0 t0 =>
 iP s0 t0 fun u0 v0 =>
 iP u0 v0 fun w0 x0 => stC r0 w0 x0 (.bool j0) fun y0 =>
 F1276_j3 B R d0 e0 y0
def F1276_j125 (B : World) (R : Po) (z0 a1 b1 c1 d1 : OA) (e1 f1 : Bool) (g1 : Heap) : Prop :=
(f1 = true →
 isP a1 fun i1 j1 =>
 iP i1 j1 fun k1 l1 =>
 iP k1 l1 fun m1 n1 => ∃ o1, cell? g1 ⟨m1, n1, none⟩ = some (.bool o1) ∧
 F1276_j93 B R z0 b1 c1 d1 e1 o1 g1) ∧
(f1 = false →
 F1276_j93 B R z0 b1 c1 d1 e1 false g1)
def F1276_j2 (B : World) (R : Po) (p1 q1 r1 s1 : OA) (t1 : Heap) : Prop :=
 isP p1 fun u1 v1 =>
 iP u1 v1 fun w1 x1 =>
 isP (some ⟨w1, x1 + 1, none⟩) fun y1 z1 => ∃ a2 b2 c2, cS t1 y1 z1 a2 b2 c2 ∧
((decide ((0 : Int) < (b2 : Int))) = true →
 isP q1 fun d2 e2 =>
 iP d2 e2 fun f2 g2 =>
 iP f2 g2 fun i2 j2 => ∃ k2, cell? t1 ⟨i2, j2, none⟩ = some (.bool k2) ∧
 isP r1 fun l2 m2 =>
 iP l2 m2 fun n2 o2 =>
 iP n2 o2 fun p2 q2 => ∃ r2, cell? t1 ⟨p2, q2, none⟩ = some (.bool r2) ∧
 isP s1 fun s2 t2 =>
 iP s2 t2 fun u2 v2 =>
 isP (some ⟨u2, v2 + 1, none⟩) fun w2 x2 => ∃ y2 z2 a3, cS t1 w2 x2 y2 z2 a3 ∧
((decide ((0 : Int) < (z2 : Int))) = true →
 isP q1 fun b3 c3 =>
 iP b3 c3 fun d3 e3 =>
 iP d3 e3 fun f3 g3 => ∃ i3, cell? t1 ⟨f3, g3, none⟩ = some (.bool i3) ∧
 F1276_j93 B R p1 s1 p1 s1 (!(k2 == r2)) i3 t1) ∧
((decide ((0 : Int) < (z2 : Int))) = false →
 F1276_j93 B R p1 s1 p1 s1 (!(k2 == r2)) false t1)) ∧
((decide ((0 : Int) < (b2 : Int))) = false →
 isP s1 fun j3 k3 =>
 iP j3 k3 fun l3 m3 =>
 isP (some ⟨l3, m3 + 1, none⟩) fun n3 o3 => ∃ p3 q3 r3, cS t1 n3 o3 p3 q3 r3 ∧
 F1276_j125 B R p1 q1 s1 p1 s1 false (decide ((0 : Int) < (q3 : Int))) t1)
def F1276 (B : World) (R : Po) (s3 t3 u3 v3 : OA) (h : Heap) : Prop :=
 isP s3 fun w3 x3 =>
 iP w3 x3 fun y3 z3 =>
 isP (some ⟨y3, z3 + 1, none⟩) fun a4 b4 => ∃ c4 d4 e4, cS h a4 b4 c4 d4 e4 ∧
 isP v3 fun f4 g4 =>
 iP f4 g4 fun i4 j4 =>
 isP (some ⟨i4, j4 + 1, none⟩) fun k4 l4 => ∃ m4 n4 o4, cS h k4 l4 m4 n4 o4 ∧
 isP t3 fun p4 q4 =>
 iP p4 q4 fun r4 s4 =>
 isP (some ⟨r4, s4 + 1, none⟩) fun t4 u4 => ∃ v4 w4 x4, cS h t4 u4 v4 w4 x4 ∧
 isP u3 fun y4 z4 =>
 iP y4 z4 fun a5 b5 =>
 isP (some ⟨a5, b5 + 1, none⟩) fun c5 d5 => ∃ e5 f5 g5, cS h c5 d5 e5 f5 g5 ∧
 Ec B 93 #[.slice c4 d4 e4, .pointer none, .slice m4 n4 o4, .slice v4 w4 x4, .slice e5 f5 g5] (retE (fun i5 j5 => ∃ k5 l5 m5 n5 o5 p5, i5 = .tuple #[.slice k5 l5 m5, .slice n5 o5 p5] ∧
 isP s3 fun q5 r5 =>
 iP q5 r5 fun s5 t5 =>
 isP (some ⟨s5, t5 + 1, none⟩) fun u5 v5 => stC j5 u5 v5 (.slice k5 l5 m5) fun w5 =>
 isP v3 fun x5 y5 =>
 iP x5 y5 fun z5 a6 =>
 isP (some ⟨z5, a6 + 1, none⟩) fun b6 c6 => stC w5 b6 c6 (.slice n5 o5 p5) fun d6 =>
 F1276_j2 B R s3 t3 u3 v3 d6)
(fun _ _ => False)) h
def F1276_L : Nat → List (Nat × TypeDesc) := fun _ => []
def F1276_J (B : World) (R : Po) : Nat → Option JT := fun i => match i with
  | 2 => some ⟨[(0, .pointer 0), (1, .pointer 0), (2, .pointer 0), (3, .pointer 0)], fun s v h => match s, v with
    | [], [.pointer p1, .pointer q1, .pointer r1, .pointer s1] => F1276_j2 B R p1 q1 r1 s1 h
    | _, _ => False⟩
  | 3 => some ⟨[(0, .pointer 0), (3, .pointer 0)], fun s v h => match s, v with
    | [], [.pointer a0, .pointer b0] => F1276_j3 B R a0 b0 h
    | _, _ => False⟩
  | _ => none
theorem F1276_ok {B : World} {R : Ending → Heap → Prop} (s3 t3 u3 v3 : OA) {h : Heap} (H : F1276 B R s3 t3 u3 v3 h) : Ec B 65 #[.pointer s3, .pointer t3, .pointer u3, .pointer v3] R h :=
 Ej Tryz.func65 (by kernel_rfl) (by kernel_rfl) (by kernel_rfl) F1276_L (F1276_J B R) [] (by kernel_rfl) (by kernel_rfl) H

/-- (math/big.nat).div -/
def F1221_j65 (B : World) (R : Po) (a0 : OA) (b0 c0 : Nat) (d0 e0 : OA) (f0 g0 : Nat) (i0 : OA) (j0 k0 : Nat) (l0 : OA) (m0 n0 : Nat) (o0 : OA) (p0 q0 : Nat) (r0 : OA) (s0 t0 : Nat) (u0 : OA) (v0 : Heap) : Prop :=
 Ec B 121 #[.slice a0 b0 c0, .pointer d0, .slice e0 f0 g0, .slice i0 j0 k0, .slice l0 m0 n0] (retE (fun w0 x0 => ∃ y0 z0 a1 b1 c1 d1, w0 = .tuple #[.slice y0 z0 a1, .slice b1 c1 d1] ∧
 Enters Tryz.prog 120 ∧ FnD Tryz.prog B 120 #[.pointer u0] .returning (dfE fun e1 f1 => lvW (fun g1 => R (.returned (.tuple #[.slice y0 z0 a1, .slice b1 c1 d1])) g1) (pk R) e1 f1) x0)
(fun i1 j1 => Enters Tryz.prog 120 ∧ FnD Tryz.prog B 120 #[.pointer u0] (.panicking i1) (dfE fun k1 l1 => lvW (fun m1 => R (.returned (.tuple #[.slice o0 p0 q0, .slice r0 s0 t0])) m1) (pk R) k1 l1) j1)) v0
def F1221_j91 (B : World) (R : Po) (n1 : OA) (o1 p1 : Nat) (q1 r1 : OA) (s1 t1 : Nat) (u1 : OA) (v1 w1 : Nat) (x1 : OA) (y1 z1 : Nat) (a2 : OA) (b2 c2 : Nat) (d2 : OA) (e2 f2 : Nat) (g2 : Heap) : Prop :=
 Ec B 121 #[.slice n1 o1 p1, .pointer q1, .slice r1 s1 t1, .slice u1 v1 w1, .slice x1 y1 z1] (retE (fun i2 j2 => ∃ k2 l2 m2 n2 o2 p2, i2 = .tuple #[.slice k2 l2 m2, .slice n2 o2 p2] ∧
 R (.returned (.tuple #[.slice k2 l2 m2, .slice n2 o2 p2])) j2)
(pk R)) g2
def F1221 (B : World) (R : Po) (q2 : OA) (r2 s2 : Nat) (t2 u2 : OA) (v2 w2 : Nat) (x2 : OA) (y2 z2 : Nat) (a3 : OA) (b3 c3 : Nat) (h : Heap) : Prop :=
((decide ((b3 : Int) = (0 : Int))) = true →
 R (.panicked ([{ v := .iface 9 (.string ⟨#[100, 105, 118, 105, 115, 105, 111, 110, 32, 98, 121, 32, 122, 101, 114, 111]⟩), recovered := false }])) h) ∧
((decide ((b3 : Int) = (0 : Int))) = false →
((decide ((b3 : Int) = (1 : Int))) = true →
 ixW a3 b3 (0 : Int) 1 fun d3 e3 =>
 iP d3 e3 fun f3 g3 => ∃ i3, cI h f3 g3 .u64 i3 ∧
 Ec B 117 #[.slice q2 r2 s2, .slice x2 y2 z2, .int .u64 i3] (retE (fun j3 k3 => ∃ l3 m3 n3 o3, j3 = .tuple #[.slice l3 m3 n3, .int .u64 o3] ∧
 Ec B 118 #[.slice u2 v2 w2, .int .u64 o3] (retE (fun p3 q3 => ∃ r3 s3 t3, p3 = .slice r3 s3 t3 ∧
 R (.returned (.tuple #[.slice l3 m3 n3, .slice r3 s3 t3])) q3)
(pk R)) k3)
(pk R)) h) ∧
((decide ((b3 : Int) = (1 : Int))) = false →
 Ec B 96 #[.slice x2 y2 z2, .slice a3 b3 c3] (retE (fun u3 v3 => ∃ w3, u3 = .int .i64 w3 ∧
((decide (w3 < (0 : Int))) = true →
 slW r2 s2 none (some (.int .i64 (0 : Int))) none fun x3 y3 z3 =>
 Ec B 81 #[.slice u2 v2 w2, .slice x2 y2 z2] (retE (fun a4 b4 => ∃ c4 d4 e4, a4 = .slice c4 d4 e4 ∧
 R (.returned (.tuple #[.slice (slP q2 x3 z3 1) (y3 - x3) (z3 - x3), .slice c4 d4 e4])) b4)
(pk R)) v3) ∧
((decide (w3 < (0 : Int))) = false →
 pEq v3 t2 none fun f4 =>
(f4 = true →
 Ec B 119 #[] (retE (fun g4 i4 => ∃ j4, g4 = .pointer j4 ∧
 F1221_j65 B R q2 r2 s2 j4 u2 v2 w2 x2 y2 z2 a3 b3 c3 none 0 0 none 0 0 j4 i4)
(pk R)) v3) ∧
(f4 = false →
 F1221_j91 B R q2 r2 s2 t2 u2 v2 w2 x2 y2 z2 a3 b3 c3 none 0 0 none 0 0 v3)))
(pk R)) h))
def F1221_L : Nat → List (Nat × TypeDesc) := fun _ => []
theorem F1221_ok {B : World} {R : Ending → Heap → Prop} (q2 : OA) (r2 s2 : Nat) (t2 u2 : OA) (v2 w2 : Nat) (x2 : OA) (y2 z2 : Nat) (a3 : OA) (b3 c3 : Nat) {h : Heap} (H : F1221 B R q2 r2 s2 t2 u2 v2 w2 x2 y2 z2 a3 b3 c3 h) : Ec B 93 #[.slice q2 r2 s2, .pointer t2, .slice u2 v2 w2, .slice x2 y2 z2, .slice a3 b3 c3] R h :=
 Ed Tryz.func93 (by kernel_rfl) (by kernel_rfl) (by kernel_rfl) F1221_L [] (by kernel_rfl) H

/-- (math/big.nat).divW -/
def F1222 (B : World) (R : Po) (a0 : OA) (b0 c0 : Nat) (d0 : OA) (e0 f0 : Nat) (g0 : Int) (h : Heap) : Prop :=
((decide (g0 = (0 : Int))) = true →
 R (.panicked [{ v := .iface 9 (.string ⟨#[100, 105, 118, 105, 115, 105, 111, 110, 32, 98, 121, 32, 122, 101, 114, 111]⟩), recovered := false }]) h) ∧
((decide (g0 = (0 : Int))) = false →
((decide (g0 = (1 : Int))) = true →
 Ec B 81 #[.slice a0 b0 c0, .slice d0 e0 f0] (retE (fun i0 j0 => ∃ k0 l0 m0, i0 = .slice k0 l0 m0 ∧
 R (.returned (.tuple #[.slice k0 l0 m0, .int .u64 (0 : Int)])) j0)
(pk R)) h) ∧
((decide (g0 = (1 : Int))) = false →
((decide ((e0 : Int) = (0 : Int))) = true →
 slW b0 c0 none (some (.int .i64 (0 : Int))) none fun n0 o0 p0 =>
 R (.returned (.tuple #[.slice (slP a0 n0 p0 1) (o0 - n0) (p0 - n0), .int .u64 (0 : Int)])) h) ∧
((decide ((e0 : Int) = (0 : Int))) = false →
 Ec B 109 #[.slice a0 b0 c0, .int .i64 (e0 : Int)] (retE (fun q0 r0 => ∃ s0 t0 u0, q0 = .slice s0 t0 u0 ∧
 Ec B 141 #[.slice s0 t0 u0, .int .u64 (0 : Int), .slice d0 e0 f0, .int .u64 g0] (retE (fun v0 w0 => ∃ x0, v0 = .int .u64 x0 ∧
 Ec B 124 #[.slice s0 t0 u0] (retE (fun y0 z0 => ∃ a1 b1 c1, y0 = .slice a1 b1 c1 ∧
 R (.returned (.tuple #[.slice a1 b1 c1, .int .u64 x0])) z0)
(pk R)) w0)
(pk R)) r0)
(pk R)) h)))
def F1222_L : Nat → List (Nat × TypeDesc) := fun _ => []
theorem F1222_ok {B : World} {R : Ending → Heap → Prop} (a0 : OA) (b0 c0 : Nat) (d0 : OA) (e0 f0 : Nat) (g0 : Int) {h : Heap} (H : F1222 B R a0 b0 c0 d0 e0 f0 g0 h) : Ec B 117 #[.slice a0 b0 c0, .slice d0 e0 f0, .int .u64 g0] R h :=
 Ek Tryz.func117 (by kernel_rfl) (by kernel_rfl) (by kernel_rfl) F1222_L [] (by kernel_rfl) H

/-- math/big.divWVW -/
def F1237 (B : World) (R : Po) (a0 : OA) (b0 c0 : Nat) (d0 : Int) (e0 : OA) (f0 g0 : Nat) (i0 : Int) (h : Heap) : Prop :=
((decide ((f0 : Int) = (1 : Int))) = true →
 ixW e0 f0 (0 : Int) 1 fun j0 k0 =>
 iP j0 k0 fun l0 m0 => ∃ n0, cI h l0 m0 .u64 n0 ∧
 Ec B 157 #[.int .u64 d0, .int .u64 n0, .int .u64 i0] (retE (fun o0 p0 => ∃ q0 r0, o0 = .tuple #[.int .u64 q0, .int .u64 r0] ∧
 ixW a0 b0 (0 : Int) 1 fun s0 t0 =>
 iP s0 t0 fun u0 v0 => stC p0 u0 v0 (.int .u64 q0) fun w0 =>
 R (.returned (.int .u64 r0)) w0)
(pk R)) h) ∧
((decide ((f0 : Int) = (1 : Int))) = false →
 Ec B 158 #[.int .u64 i0] (retE (fun x0 y0 => ∃ z0, x0 = .int .u64 z0 ∧
∃ a1 : Lp, ∃ b1, a1 b1 [.slice a0 b0 c0, .slice e0 f0 g0, .int .u64 i0, .int .u64 d0, .int .u64 z0, .int .i64 (IntKind.i64.wrap ((b0 : Int) - (1 : Int)))] y0 ∧
∀ (c1 : Nat) (d1 : Heap) (e1 : OA) (f1 g1 : Nat) (i1 : OA) (j1 k1 : Nat) (l1 m1 n1 o1 : Int), a1 c1 [.slice e1 f1 g1, .slice i1 j1 k1, .int .u64 l1, .int .u64 m1, .int .u64 n1, .int .i64 o1] d1 → ∀ _r : Nat → Value,
((decide ((0 : Int) ≤ o1)) = true →
 ixW i1 j1 o1 1 fun p1 q1 =>
 iP p1 q1 fun r1 s1 => ∃ t1, cI d1 r1 s1 .u64 t1 ∧
 Ec B 159 #[.int .u64 m1, .int .u64 t1, .int .u64 l1, .int .u64 n1] (retE (fun u1 v1 => ∃ w1 x1, u1 = .tuple #[.int .u64 w1, .int .u64 x1] ∧
 ixW e1 f1 o1 1 fun y1 z1 =>
 iP y1 z1 fun a2 b2 => stC v1 a2 b2 (.int .u64 w1) fun c2 =>
∃ d2, d2 < c1 ∧ a1 d2 [.slice e1 f1 g1, .slice i1 j1 k1, .int .u64 l1, .int .u64 x1, .int .u64 n1, .int .i64 (IntKind.i64.wrap (o1 - (1 : Int)))] c2)
(pk R)) d1) ∧
((decide ((0 : Int) ≤ o1)) = false →
 R (.returned (.int .u64 m1)) d1))
(pk R)) h)
def F1237_L : Nat → List (Nat × TypeDesc) := fun i => match i with
  | 8 => [(0, .slice 0), (2, .slice 0), (3, .int .u64), (8, .int .u64), (11, .int .u64), (12, .int .i64)]
  | _ => []
theorem F1237_ok {B : World} {R : Ending → Heap → Prop} (a0 : OA) (b0 c0 : Nat) (d0 : Int) (e0 : OA) (f0 g0 : Nat) (i0 : Int) {h : Heap} (H : F1237 B R a0 b0 c0 d0 e0 f0 g0 i0 h) : Ec B 141 #[.slice a0 b0 c0, .int .u64 d0, .slice e0 f0 g0, .int .u64 i0] R h :=
 Ek Tryz.func141 (by kernel_rfl) (by kernel_rfl) (by kernel_rfl) F1237_L [] (by kernel_rfl) H
end Go.Proofs
namespace Go.Proofs
open Go Go.Eng
/-- plumb/round.both -/
def F1325 (B : World) (R : Po) (a0 b0 : Int) (h : Heap) : Prop :=
 Ec B 69 #[.int .i64 a0] (retE (fun c0 d0 => ∃ e0, c0 = .int .i64 e0 ∧
 Ec B 69 #[.int .i64 b0] (retE (fun f0 g0 => ∃ i0, f0 = .int .i64 i0 ∧
 Ec B 69 #[.int .i64 a0] (retE (fun j0 k0 => ∃ l0, j0 = .int .i64 l0 ∧
 Ec B 69 #[.int .i64 b0] (retE (fun m0 n0 => ∃ o0, m0 = .int .i64 o0 ∧
 alW n0 (.cells #[.int .i64 l0, .int .i64 o0] 3) fun p0 q0 =>
 Ec B 40 #[.slice (some ⟨p0, 0, none⟩) 2 2] (retE (fun r0 s0 => ∃ t0, r0 = .bool t0 ∧
 R (.returned (.tuple #[.int .i64 e0, .int .i64 i0, .bool t0])) s0)
(pk R)) q0)
(pk R)) k0)
(pk R)) g0)
(pk R)) d0)
(pk R)) h
def F1325_L : Nat → List (Nat × TypeDesc) := fun _ => []
theorem F1325_ok {B : World} {R : Ending → Heap → Prop} (a0 b0 : Int) {h : Heap} (H : F1325 B R a0 b0 h) : Ec B 45 #[.int .i64 a0, .int .i64 b0] R h :=
 Ek Tryz.func45 (by kernel_rfl) (by kernel_rfl) (by kernel_rfl) F1325_L [] (by kernel_rfl) H

/-- plumb/bits.Float32 -/
def F1326_j3 (B : World) (R : Po) (a0 : Int) (b0 : Heap) : Prop :=
 Ec B 71 #[.int .u32 (IntKind.u32.wrap a0)] (retE (fun c0 d0 => ∃ e0, c0 = .float .f32 e0 ∧
 R (.returned (.float .f32 e0)) d0)
(pk R)) b0
def F1326 (B : World) (R : Po) (f0 : Int) (h : Heap) : Prop :=
 Ec B 70 #[.int .i64 f0] (retE (fun g0 i0 => ∃ j0, g0 = .bool j0 ∧
((!j0) = true →
 F1326_j3 B R (2143289345 : Int) i0) ∧
((!j0) = false →
 F1326_j3 B R f0 i0))
(pk R)) h
def F1326_L : Nat → List (Nat × TypeDesc) := fun _ => []
def F1326_J (B : World) (R : Po) : Nat → Option JT := fun i => match i with
  | 3 => some ⟨[(0, .int .i64)], fun s v h => match s, v with
    | [], [.int _ a0] => F1326_j3 B R a0 h
    | _, _ => False⟩
  | _ => none
theorem F1326_ok {B : World} {R : Ending → Heap → Prop} (f0 : Int) {h : Heap} (H : F1326 B R f0 h) : Ec B 46 #[.int .i64 f0] R h :=
 Ej Tryz.func46 (by kernel_rfl) (by kernel_rfl) (by kernel_rfl) F1326_L (F1326_J B R) [] (by kernel_rfl) (by kernel_rfl) H

/-- plumb/round.single -/
def F1327_j5 (B : World) (R : Po) (a0 : Nat) (b0 : Value) (c0 : OA) (d0 : Bool) (e0 : Heap) : Prop :=
(d0 = true →
 Ec B 72 #[.float .f32 a0] (retE (fun f0 g0 => ∃ i0, f0 = .int .i64 i0 ∧
 R (.returned (.tuple #[.int .i64 i0, .int .i64 (0 : Int)])) g0)
(pk R)) e0) ∧
(d0 = false →
 Ev B b0 #[] (retE (fun j0 k0 => ∃ l0 m0 n0, j0 = .agg #[.pointer l0, .int .i64 m0, .bool n0] ∧
 alW k0 (.cells #[.pointer none, .int .i64 0, .bool false] 36) fun o0 p0 =>
 iP o0 0 fun q0 r0 => stC p0 q0 r0 (.pointer l0) fun s0 =>
 stC s0 q0 (r0 + 1) (.int .i64 m0) fun t0 =>
 stC t0 q0 (r0 + 1 + 1) (.bool n0) fun u0 =>
 iP o0 0 fun v0 w0 =>
 iP v0 w0 fun x0 y0 => ∃ z0, cell? u0 ⟨x0, y0, none⟩ = some (.pointer z0) ∧
 Ec B 23 #[.pointer z0] (retE (fun a1 b1 => ∃ c1, a1 = .int .i64 c1 ∧
((decide (c1 = (0 : Int))) = true →
 Ec B 72 #[.float .f32 a0] (retE (fun d1 e1 => ∃ f1, d1 = .int .i64 f1 ∧
 R (.returned (.tuple #[.int .i64 f1, .int .i64 (0 : Int)])) e1)
(pk R)) b1) ∧
((decide (c1 = (0 : Int))) = false →
 iP o0 0 fun g1 i1 =>
∃ j1, cell? b1 ⟨g1, i1, none⟩ = some (.pointer j1) ∧
∃ k1, cell? b1 ⟨g1, i1 + 1, none⟩ = some (.int .i64 k1) ∧
∃ l1, cell? b1 ⟨g1, i1 + 1 + 1, none⟩ = some (.bool l1) ∧
 isP c0 fun m1 n1 =>
∃ o1, cell? b1 ⟨m1, n1, none⟩ = some o1 ∧
 Ec B 73 #[.agg #[.pointer j1, .int .i64 k1, .bool l1], .agg #[o1]] (retE (fun p1 q1 => ∃ r1 s1, p1 = .tuple #[.int .i64 r1, .bool s1] ∧
 R (.returned (.tuple #[.int .i64 r1, .int .i64 (0 : Int)])) q1)
(pk R)) b1))
(pk R)) u0)
(pk R)) e0)
def F1327 (B : World) (R : Po) (t1 : Int) (u1 : Nat) (v1 : Bool) (w1 : Value) (h : Heap) : Prop :=
 Ec B 22 #[.int .i64 t1] (retE (fun x1 y1 => ∃ z1 a2, x1 = .tuple #[.agg #[z1], .bool a2] ∧
 alW y1 (.cells #[Value.nilFunc] 51) fun b2 c2 =>
 iP b2 0 fun d2 e2 => stC c2 d2 e2 z1 fun f2 =>
((!a2) = true →
 R (.returned (.tuple #[.int .i64 (0 : Int), .int .i64 (1 : Int)])) f2) ∧
((!a2) = false →
((decide (t1 = (0 : Int))) = true →
 F1327_j5 B R u1 w1 (some ⟨b2, 0, none⟩) true f2) ∧
((decide (t1 = (0 : Int))) = false →
 F1327_j5 B R u1 w1 (some ⟨b2, 0, none⟩) (!v1) f2)))
(pk R)) h
def F1327_L : Nat → List (Nat × TypeDesc) := fun _ => []
def F1327_J (B : World) (R : Po) : Nat → Option JT := fun i => match i with
  | 5 => some ⟨[(1, .float .f32), (3, .invalid), (10, .pointer 0), (27, .bool)], fun s v h => match s, v with
    | [], [.float _ a0, b0, .pointer c0, .bool d0] => F1327_j5 B R a0 b0 c0 d0 h
    | _, _ => False⟩
  | _ => none
theorem F1327_ok {B : World} {R : Ending → Heap → Prop} (t1 : Int) (u1 : Nat) (v1 : Bool) (w1 : Value) {h : Heap} (H : F1327 B R t1 u1 v1 w1 h) : Ec B 47 #[.int .i64 t1, .float .f32 u1, .bool v1, w1] R h :=
 Ej Tryz.func47 (by kernel_rfl) (by kernel_rfl) (by kernel_rfl) F1327_L (F1327_J B R) [] (by kernel_rfl) (by kernel_rfl) H

/-- plumb/round.Widen -/
def F1329 (B : World) (R : Po) (a0 : Int) (h : Heap) : Prop :=
 Ec B 46 #[.int .i64 a0] (retE (fun b0 c0 => ∃ d0, b0 = .float .f32 d0 ∧
 cvW .f32 d0 .f64 fun e0 =>
 Ec B 10 #[.float .f64 e0] (retE (fun f0 g0 => ∃ i0, f0 = .int .i64 i0 ∧
 R (.returned (.int .i64 i0)) g0)
(pk R)) c0)
(pk R)) h
def F1329_L : Nat → List (Nat × TypeDesc) := fun _ => []
theorem F1329_ok {B : World} {R : Ending → Heap → Prop} (a0 : Int) {h : Heap} (H : F1329 B R a0 h) : Ec B 69 #[.int .i64 a0] R h :=
 Ek Tryz.func69 (by kernel_rfl) (by kernel_rfl) (by kernel_rfl) F1329_L [] (by kernel_rfl) H

/-- plumb/bits.pattern -/
def F1330 (B : World) (R : Po) (a0 : Int) (h : Heap) : Prop :=
 R (.returned (.bool (decide (a0 = (IntKind.i64.wrap (IntKind.u32.wrap a0)))))) h
def F1330_L : Nat → List (Nat × TypeDesc) := fun _ => []
theorem F1330_ok {B : World} {R : Ending → Heap → Prop} (a0 : Int) {h : Heap} (H : F1330 B R a0 h) : Ec B 70 #[.int .i64 a0] R h :=
 Ek Tryz.func70 (by kernel_rfl) (by kernel_rfl) (by kernel_rfl) F1330_L [] (by kernel_rfl) H

/-- plumb/bits.Of32 -/
def F1332 (B : World) (R : Po) (a0 : Nat) (h : Heap) : Prop :=
((FloatKind.f32.format.order a0 a0 != some .eq) = true →
 R (.returned (.int .i64 (2143289345 : Int))) h) ∧
((FloatKind.f32.format.order a0 a0 != some .eq) = false →
 Ec B 101 #[.float .f32 a0] (retE (fun b0 c0 => ∃ d0, b0 = .int .u32 d0 ∧
 R (.returned (.int .i64 (IntKind.i64.wrap d0))) c0)
(pk R)) h)
def F1332_L : Nat → List (Nat × TypeDesc) := fun _ => []
theorem F1332_ok {B : World} {R : Ending → Heap → Prop} (a0 : Nat) {h : Heap} (H : F1332 B R a0 h) : Ec B 72 #[.float .f32 a0] R h :=
 Ek Tryz.func72 (by kernel_rfl) (by kernel_rfl) (by kernel_rfl) F1332_L [] (by kernel_rfl) H
end Go.Proofs
namespace Go.Proofs
open Go Go.Eng
/-- math/big.divWW -/
def F1262_j20 (B : World) (R : Po) (a0 b0 c0 : Int) (d0 : Heap) : Prop :=
  0 ≤ a0 ∧
 R (.returned (.tuple #[.int .u64 b0, .int .u64 (Int.fdiv c0 (2 ^ min (Int.toNat a0) IntKind.u64.bits))])) d0
def F1262_j17 (B : World) (R : Po) (e0 f0 g0 i0 : Int) (j0 : Heap) : Prop :=
((decide (f0 ≤ i0)) = true →
 F1262_j20 B R e0 (IntKind.u64.wrap (g0 + (1 : Int))) (IntKind.u64.wrap (i0 - f0)) j0) ∧
((decide (f0 ≤ i0)) = false →
 F1262_j20 B R e0 g0 i0 j0)
def F1262_j6 (B : World) (R : Po) (k0 l0 m0 n0 o0 : Int) (p0 : Heap) : Prop :=
 Ec B 184 #[.int .u64 n0, .int .u64 k0] (retE (fun q0 r0 => ∃ s0 t0, q0 = .tuple #[.int .u64 s0, .int .u64 t0] ∧
 Ec B 127 #[.int .u64 t0, .int .u64 l0, .int .u64 (0 : Int)] (retE (fun u0 v0 => ∃ w0 x0, u0 = .tuple #[.int .u64 w0, .int .u64 x0] ∧
 Ec B 127 #[.int .u64 s0, .int .u64 k0, .int .u64 x0] (retE (fun y0 z0 => ∃ a1 b1, y0 = .tuple #[.int .u64 a1, .int .u64 b1] ∧
 Ec B 184 #[.int .u64 m0, .int .u64 a1] (retE (fun c1 d1 => ∃ e1 f1, c1 = .tuple #[.int .u64 e1, .int .u64 f1] ∧
 Ec B 130 #[.int .u64 l0, .int .u64 f1, .int .u64 (0 : Int)] (retE (fun g1 i1 => ∃ j1 k1, g1 = .tuple #[.int .u64 j1, .int .u64 k1] ∧
 Ec B 130 #[.int .u64 k0, .int .u64 e1, .int .u64 k1] (retE (fun l1 m1 => ∃ n1 o1, l1 = .tuple #[.int .u64 n1, .int .u64 o1] ∧
((!decide (n1 = (0 : Int))) = true →
 F1262_j17 B R o0 m0 (IntKind.u64.wrap (a1 + (1 : Int))) (IntKind.u64.wrap (j1 - m0)) m1) ∧
((!decide (n1 = (0 : Int))) = false →
 F1262_j17 B R o0 m0 a1 j1 m1))
(pk R)) i1)
(pk R)) d1)
(pk R)) z0)
(pk R)) v0)
(pk R)) r0)
(pk R)) p0
def F1262 (B : World) (R : Po) (p1 q1 r1 s1 : Int) (h : Heap) : Prop :=
 Ec B 110 #[.int .u64 r1] (retE (fun t1 u1 => ∃ v1, t1 = .int .u64 v1 ∧
((!decide (v1 = (0 : Int))) = true →
 0 ≤ v1 ∧
0 ≤ (IntKind.u64.wrap ((64 : Int) - v1)) ∧
0 ≤ v1 ∧
0 ≤ v1 ∧
 F1262_j6 B R (bitsI .or .u64 (IntKind.u64.wrap (p1 * 2 ^ min (Int.toNat v1) IntKind.u64.bits)) (Int.fdiv q1 (2 ^ min (Int.toNat (IntKind.u64.wrap ((64 : Int) - v1))) IntKind.u64.bits))) (IntKind.u64.wrap (q1 * 2 ^ min (Int.toNat v1) IntKind.u64.bits)) (IntKind.u64.wrap (r1 * 2 ^ min (Int.toNat v1) IntKind.u64.bits)) s1 v1 u1) ∧
((!decide (v1 = (0 : Int))) = false →
 F1262_j6 B R p1 q1 r1 s1 v1 u1))
(pk R)) h
def F1262_L : Nat → List (Nat × TypeDesc) := fun _ => []
def F1262_J (B : World) (R : Po) : Nat → Option JT := fun i => match i with
  | 6 => some ⟨[(0, .int .u64), (1, .int .u64), (2, .int .u64), (3, .int .u64), (10, .int .u64)], fun s v h => match s, v with
    | [], [.int _ k0, .int _ l0, .int _ m0, .int _ n0, .int _ o0] => F1262_j6 B R k0 l0 m0 n0 o0 h
    | _, _ => False⟩
  | 17 => some ⟨[(10, .int .u64), (11, .int .u64), (16, .int .u64), (19, .int .u64)], fun s v h => match s, v with
    | [], [.int _ e0, .int _ f0, .int _ g0, .int _ i0] => F1262_j17 B R e0 f0 g0 i0 h
    | _, _ => False⟩
  | 20 => some ⟨[(10, .int .u64), (16, .int .u64), (19, .int .u64)], fun s v h => match s, v with
    | [], [.int _ a0, .int _ b0, .int _ c0] => F1262_j20 B R a0 b0 c0 h
    | _, _ => False⟩
  | _ => none
theorem F1262_ok {B : World} {R : Ending → Heap → Prop} (p1 q1 r1 s1 : Int) {h : Heap} (H : F1262 B R p1 q1 r1 s1 h) : Ec B 159 #[.int .u64 p1, .int .u64 q1, .int .u64 r1, .int .u64 s1] R h :=
 Ej Tryz.func159 (by kernel_rfl) (by kernel_rfl) (by kernel_rfl) F1262_L (F1262_J B R) [] (by kernel_rfl) (by kernel_rfl) H

/-- math/big.reciprocalWord -/
def F1261 (B : World) (R : Po) (a0 : Int) (h : Heap) : Prop :=
 Ec B 110 #[.int .u64 a0] (retE (fun b0 c0 => ∃ d0, b0 = .int .u64 d0 ∧
0 ≤ d0 ∧
 Ec B 157 #[.int .u64 (bitsI .xor .u64 IntKind.u64.max (IntKind.u64.wrap (a0 * 2 ^ min (Int.toNat d0) IntKind.u64.bits))), .int .u64 (18446744073709551615 : Int), .int .u64 (IntKind.u64.wrap (a0 * 2 ^ min (Int.toNat d0) IntKind.u64.bits))] (retE (fun e0 f0 => ∃ g0 i0, e0 = .tuple #[.int .u64 g0, .int .u64 i0] ∧
 R (.returned (.int .u64 g0)) f0)
(pk R)) c0)
(pk R)) h
def F1261_L : Nat → List (Nat × TypeDesc) := fun _ => []
theorem F1261_ok {B : World} {R : Ending → Heap → Prop} (a0 : Int) {h : Heap} (H : F1261 B R a0 h) : Ec B 158 #[.int .u64 a0] R h :=
 Ek Tryz.func158 (by kernel_rfl) (by kernel_rfl) (by kernel_rfl) F1261_L [] (by kernel_rfl) H

/-- math/bits.Div -/
def F1260 (B : World) (R : Po) (a0 b0 c0 : Int) (h : Heap) : Prop :=
(false = true →
 Ec B 182 #[.int .u32 (IntKind.u32.wrap a0), .int .u32 (IntKind.u32.wrap b0), .int .u32 (IntKind.u32.wrap c0)] (retE (fun d0 e0 => ∃ f0 g0, d0 = .tuple #[.int .u32 f0, .int .u32 g0] ∧
 R (.returned (.tuple #[.int .u64 (IntKind.u64.wrap f0), .int .u64 (IntKind.u64.wrap g0)])) e0)
(pk R)) h) ∧
(false = false →
 Ec B 183 #[.int .u64 a0, .int .u64 b0, .int .u64 c0] (retE (fun i0 j0 => ∃ k0 l0, i0 = .tuple #[.int .u64 k0, .int .u64 l0] ∧
 R (.returned (.tuple #[.int .u64 k0, .int .u64 l0])) j0)
(pk R)) h)
def F1260_L : Nat → List (Nat × TypeDesc) := fun _ => []
theorem F1260_ok {B : World} {R : Ending → Heap → Prop} (a0 b0 c0 : Int) {h : Heap} (H : F1260 B R a0 b0 c0 h) : Ec B 157 #[.int .u64 a0, .int .u64 b0, .int .u64 c0] R h :=
 Ek Tryz.func157 (by kernel_rfl) (by kernel_rfl) (by kernel_rfl) F1260_L [] (by kernel_rfl) H

/-- math/bits.Div64 -/
def F1270_j28 (B : World) (R : Po) (a0 b0 c0 d0 e0 f0 : Int) (g0 : Heap) : Prop :=
  0 ≤ b0 ∧
 R (.returned (.tuple #[.int .u64 (IntKind.u64.wrap ((IntKind.u64.wrap (d0 * (4294967296 : Int))) + f0)), .int .u64 (Int.fdiv (IntKind.u64.wrap ((IntKind.u64.wrap ((IntKind.u64.wrap (e0 * (4294967296 : Int))) + c0)) - (IntKind.u64.wrap (f0 * a0)))) (2 ^ min (Int.toNat b0) IntKind.u64.bits))])) g0
def F1270_j25 (B : World) (R : Po) (i0 : Lp) (j0 : Nat) (k0 l0 m0 n0 o0 p0 q0 r0 s0 : Int) (t0 : Heap) : Prop :=
((decide ((4294967296 : Int) ≤ (IntKind.u64.wrap (q0 + m0)))) = true →
 F1270_j28 B R k0 l0 o0 p0 r0 (IntKind.u64.wrap (s0 - (1 : Int))) t0) ∧
((decide ((4294967296 : Int) ≤ (IntKind.u64.wrap (q0 + m0)))) = false →
 ∃ u0, u0 < j0 ∧ i0 u0 [.int .u64 k0, .int .u64 l0, .int .u64 m0, .int .u64 n0, .int .u64 o0, .int .u64 p0, .int .u64 (IntKind.u64.wrap (q0 + m0)), .int .u64 r0, .int .u64 (IntKind.u64.wrap (s0 - (1 : Int)))] t0)
def F1270_j21 (B : World) (R : Po) (v0 w0 x0 y0 z0 a1 b1 c1 : Int) (d1 : Heap) : Prop :=
 x0 ≠ 0 ∧
∃ i0 : Lp, ∃ e1, i0 e1 [.int .u64 v0, .int .u64 w0, .int .u64 x0, .int .u64 y0, .int .u64 b1, .int .u64 c1, .int .u64 (IntKind.u64.wrap ((IntKind.u64.wrap ((IntKind.u64.wrap ((IntKind.u64.wrap (z0 * (4294967296 : Int))) + a1)) - (IntKind.u64.wrap (c1 * v0)))) - (IntKind.u64.wrap ((IntKind.u64.wrap (Int.tdiv (IntKind.u64.wrap ((IntKind.u64.wrap ((IntKind.u64.wrap (z0 * (4294967296 : Int))) + a1)) - (IntKind.u64.wrap (c1 * v0)))) x0)) * x0)))), .int .u64 (IntKind.u64.wrap ((IntKind.u64.wrap ((IntKind.u64.wrap (z0 * (4294967296 : Int))) + a1)) - (IntKind.u64.wrap (c1 * v0)))), .int .u64 (IntKind.u64.wrap (Int.tdiv (IntKind.u64.wrap ((IntKind.u64.wrap ((IntKind.u64.wrap (z0 * (4294967296 : Int))) + a1)) - (IntKind.u64.wrap (c1 * v0)))) x0))] d1 ∧
∀ (j0 : Nat) (f1 : Heap) (g1 i1 j1 k1 l1 m1 n1 o1 p1 : Int), i0 j0 [.int .u64 g1, .int .u64 i1, .int .u64 j1, .int .u64 k1, .int .u64 l1, .int .u64 m1, .int .u64 n1, .int .u64 o1, .int .u64 p1] f1 → ∀ _r : Nat → Value,
((decide ((4294967296 : Int) ≤ p1)) = true →
(true = true →
 F1270_j25 B R i0 j0 g1 i1 j1 k1 l1 m1 n1 o1 p1 f1) ∧
(true = false →
 F1270_j28 B R g1 i1 l1 m1 o1 p1 f1)) ∧
((decide ((4294967296 : Int) ≤ p1)) = false →
((decide ((IntKind.u64.wrap ((IntKind.u64.wrap ((4294967296 : Int) * n1)) + l1)) < (IntKind.u64.wrap (p1 * k1)))) = true →
 F1270_j25 B R i0 j0 g1 i1 j1 k1 l1 m1 n1 o1 p1 f1) ∧
((decide ((IntKind.u64.wrap ((IntKind.u64.wrap ((4294967296 : Int) * n1)) + l1)) < (IntKind.u64.wrap (p1 * k1)))) = false →
 F1270_j28 B R g1 i1 l1 m1 o1 p1 f1))
def F1270_j18 (B : World) (R : Po) (q1 : Lp) (r1 : Nat) (s1 t1 u1 v1 w1 x1 y1 z1 a2 : Int) (b2 : Heap) : Prop :=
((decide ((4294967296 : Int) ≤ (IntKind.u64.wrap (a2 + u1)))) = true →
 F1270_j21 B R s1 t1 u1 v1 w1 x1 y1 (IntKind.u64.wrap (z1 - (1 : Int))) b2) ∧
((decide ((4294967296 : Int) ≤ (IntKind.u64.wrap (a2 + u1)))) = false →
 ∃ c2, c2 < r1 ∧ q1 c2 [.int .u64 s1, .int .u64 t1, .int .u64 u1, .int .u64 v1, .int .u64 w1, .int .u64 x1, .int .u64 y1, .int .u64 (IntKind.u64.wrap (z1 - (1 : Int))), .int .u64 (IntKind.u64.wrap (a2 + u1))] b2)
def F1270 (B : World) (R : Po) (d2 e2 f2 : Int) (h : Heap) : Prop :=
((decide (f2 = (0 : Int))) = true →
 iP 5 0 fun g2 i2 => ∃ j2, cell? h ⟨g2, i2, none⟩ = some j2 ∧
 pnR j2 fun k2 l2 => R (.panicked [{ v := .iface k2 l2, recovered := false }]) h) ∧
((decide (f2 = (0 : Int))) = false →
((decide (f2 ≤ d2)) = true →
 iP 4 0 fun m2 n2 => ∃ o2, cell? h ⟨m2, n2, none⟩ = some o2 ∧
 pnR o2 fun p2 q2 => R (.panicked [{ v := .iface p2 q2, recovered := false }]) h) ∧
((decide (f2 ≤ d2)) = false →
((decide (d2 = (0 : Int))) = true →
 f2 ≠ 0 ∧
 f2 ≠ 0 ∧
 R (.returned (.tuple #[.int .u64 (IntKind.u64.wrap (Int.tdiv e2 f2)), .int .u64 (Int.tmod e2 f2)])) h) ∧
((decide (d2 = (0 : Int))) = false →
 Ec B 212 #[.int .u64 f2] (retE (fun r2 s2 => ∃ t2, r2 = .int .i64 t2 ∧
0 ≤ (IntKind.u64.wrap t2) ∧
0 ≤ (32 : Int) ∧
0 ≤ (IntKind.u64.wrap t2) ∧
0 ≤ (IntKind.u64.wrap ((64 : Int) - (IntKind.u64.wrap t2))) ∧
0 ≤ (IntKind.u64.wrap t2) ∧
0 ≤ (32 : Int) ∧
(Int.fdiv (IntKind.u64.wrap (f2 * 2 ^ min (Int.toNat (IntKind.u64.wrap t2)) IntKind.u64.bits)) (2 ^ min (Int.toNat (32 : Int)) IntKind.u64.bits)) ≠ 0 ∧
∃ q1 : Lp, ∃ u2, q1 u2 [.int .u64 (IntKind.u64.wrap (f2 * 2 ^ min (Int.toNat (IntKind.u64.wrap t2)) IntKind.u64.bits)), .int .u64 (IntKind.u64.wrap t2), .int .u64 (Int.fdiv (IntKind.u64.wrap (f2 * 2 ^ min (Int.toNat (IntKind.u64.wrap t2)) IntKind.u64.bits)) (2 ^ min (Int.toNat (32 : Int)) IntKind.u64.bits)), .int .u64 (bitsI .and .u64 (IntKind.u64.wrap (f2 * 2 ^ min (Int.toNat (IntKind.u64.wrap t2)) IntKind.u64.bits)) (4294967295 : Int)), .int .u64 (bitsI .or .u64 (IntKind.u64.wrap (d2 * 2 ^ min (Int.toNat (IntKind.u64.wrap t2)) IntKind.u64.bits)) (Int.fdiv e2 (2 ^ min (Int.toNat (IntKind.u64.wrap ((64 : Int) - (IntKind.u64.wrap t2)))) IntKind.u64.bits))), .int .u64 (Int.fdiv (IntKind.u64.wrap (e2 * 2 ^ min (Int.toNat (IntKind.u64.wrap t2)) IntKind.u64.bits)) (2 ^ min (Int.toNat (32 : Int)) IntKind.u64.bits)), .int .u64 (bitsI .and .u64 (IntKind.u64.wrap (e2 * 2 ^ min (Int.toNat (IntKind.u64.wrap t2)) IntKind.u64.bits)) (4294967295 : Int)), .int .u64 (IntKind.u64.wrap (Int.tdiv (bitsI .or .u64 (IntKind.u64.wrap (d2 * 2 ^ min (Int.toNat (IntKind.u64.wrap t2)) IntKind.u64.bits)) (Int.fdiv e2 (2 ^ min (Int.toNat (IntKind.u64.wrap ((64 : Int) - (IntKind.u64.wrap t2)))) IntKind.u64.bits))) (Int.fdiv (IntKind.u64.wrap (f2 * 2 ^ min (Int.toNat (IntKind.u64.wrap t2)) IntKind.u64.bits)) (2 ^ min (Int.toNat (32 : Int)) IntKind.u64.bits)))), .int .u64 (IntKind.u64.wrap ((bitsI .or .u64 (IntKind.u64.wrap (d2 * 2 ^ min (Int.toNat (IntKind.u64.wrap t2)) IntKind.u64.bits)) (Int.fdiv e2 (2 ^ min (Int.toNat (IntKind.u64.wrap ((64 : Int) - (IntKind.u64.wrap t2)))) IntKind.u64.bits))) - (IntKind.u64.wrap ((IntKind.u64.wrap (Int.tdiv (bitsI .or .u64 (IntKind.u64.wrap (d2 * 2 ^ min (Int.toNat (IntKind.u64.wrap t2)) IntKind.u64.bits)) (Int.fdiv e2 (2 ^ min (Int.toNat (IntKind.u64.wrap ((64 : Int) - (IntKind.u64.wrap t2)))) IntKind.u64.bits))) (Int.fdiv (IntKind.u64.wrap (f2 * 2 ^ min (Int.toNat (IntKind.u64.wrap t2)) IntKind.u64.bits)) (2 ^ min (Int.toNat (32 : Int)) IntKind.u64.bits)))) * (Int.fdiv (IntKind.u64.wrap (f2 * 2 ^ min (Int.toNat (IntKind.u64.wrap t2)) IntKind.u64.bits)) (2 ^ min (Int.toNat (32 : Int)) IntKind.u64.bits))))))] s2 ∧
∀ (r1 : Nat) (v2 : Heap) (w2 x2 y2 z2 a3 b3 c3 d3 e3 : Int), q1 r1 [.int .u64 w2, .int .u64 x2, .int .u64 y2, .int .u64 z2, .int .u64 a3, .int .u64 b3, .int .u64 c3, .int .u64 d3, .int .u64 e3] v2 → ∀ _r : Nat → Value,
((decide ((4294967296 : Int) ≤ d3)) = true →
(true = true →
 F1270_j18 B R q1 r1 w2 x2 y2 z2 a3 b3 c3 d3 e3 v2) ∧
(true = false →
 F1270_j21 B R w2 x2 y2 z2 a3 b3 c3 d3 v2)) ∧
((decide ((4294967296 : Int) ≤ d3)) = false →
((decide ((IntKind.u64.wrap ((IntKind.u64.wrap ((4294967296 : Int) * e3)) + b3)) < (IntKind.u64.wrap (d3 * z2)))) = true →
 F1270_j18 B R q1 r1 w2 x2 y2 z2 a3 b3 c3 d3 e3 v2) ∧
((decide ((IntKind.u64.wrap ((IntKind.u64.wrap ((4294967296 : Int) * e3)) + b3)) < (IntKind.u64.wrap (d3 * z2)))) = false →
 F1270_j21 B R w2 x2 y2 z2 a3 b3 c3 d3 v2)))
(pk R)) h)))
def F1270_L : Nat → List (Nat × TypeDesc) := fun i => match i with
  | 17 => [(2, .int .u64), (8, .int .u64), (9, .int .u64), (10, .int .u64), (11, .int .u64), (13, .int .u64), (14, .int .u64), (15, .int .u64), (16, .int .u64)]
  | 24 => [(2, .int .u64), (8, .int .u64), (9, .int .u64), (10, .int .u64), (14, .int .u64), (15, .int .u64), (16, .int .u64), (17, .int .u64), (18, .int .u64)]
  | _ => []
def F1270_J (B : World) (R : Po) : Nat → Option JT := fun i => match i with
  | 18 => some ⟨[(2, .int .u64), (8, .int .u64), (9, .int .u64), (10, .int .u64), (11, .int .u64), (13, .int .u64), (14, .int .u64), (15, .int .u64), (16, .int .u64)], fun s v h => match s, v with
    | [(q1, r1)], [.int _ s1, .int _ t1, .int _ u1, .int _ v1, .int _ w1, .int _ x1, .int _ y1, .int _ z1, .int _ a2] => F1270_j18 B R q1 r1 s1 t1 u1 v1 w1 x1 y1 z1 a2 h
    | _, _ => False⟩
  | 21 => some ⟨[(2, .int .u64), (8, .int .u64), (9, .int .u64), (10, .int .u64), (11, .int .u64), (13, .int .u64), (14, .int .u64), (15, .int .u64)], fun s v h => match s, v with
    | [], [.int _ v0, .int _ w0, .int _ x0, .int _ y0, .int _ z0, .int _ a1, .int _ b1, .int _ c1] => F1270_j21 B R v0 w0 x0 y0 z0 a1 b1 c1 h
    | _, _ => False⟩
  | 25 => some ⟨[(2, .int .u64), (8, .int .u64), (9, .int .u64), (10, .int .u64), (14, .int .u64), (15, .int .u64), (16, .int .u64), (17, .int .u64), (18, .int .u64)], fun s v h => match s, v with
    | [(i0, j0)], [.int _ k0, .int _ l0, .int _ m0, .int _ n0, .int _ o0, .int _ p0, .int _ q0, .int _ r0, .int _ s0] => F1270_j25 B R i0 j0 k0 l0 m0 n0 o0 p0 q0 r0 s0 h
    | _, _ => False⟩
  | 28 => some ⟨[(2, .int .u64), (8, .int .u64), (14, .int .u64), (15, .int .u64), (17, .int .u64), (18, .int .u64)], fun s v h => match s, v with
    | [], [.int _ a0, .int _ b0, .int _ c0, .int _ d0, .int _ e0, .int _ f0] => F1270_j28 B R a0 b0 c0 d0 e0 f0 h
    | _, _ => False⟩
  | _ => none
theorem F1270_ok {B : World} {R : Ending → Heap → Prop} (d2 e2 f2 : Int) {h : Heap} (H : F1270 B R d2 e2 f2 h) : Ec B 183 #[.int .u64 d2, .int .u64 e2, .int .u64 f2] R h :=
 Ej Tryz.func183 (by kernel_rfl) (by kernel_rfl) (by kernel_rfl) F1270_L (F1270_J B R) [] (by kernel_rfl) (by kernel_rfl) H
end Go.Proofs
namespace Go.Proofs
open Go Go.Eng
/-- plumb/round.quotient -/
def F1324_j6 (B : World) (R : Po) (a0 b0 c0 : OA) (d0 : Int) (e0 f0 : OA) (g0 : Heap) : Prop :=
 isP b0 fun i0 j0 =>
 isP (some ⟨i0, j0 + 1, none⟩) fun k0 l0 => ∃ m0, cI g0 k0 l0 .i64 m0 ∧
 isP c0 fun n0 o0 =>
 isP (some ⟨n0, o0 + 1, none⟩) fun p0 q0 => ∃ r0, cI g0 p0 q0 .i64 r0 ∧
 Ec B 23 #[.pointer f0] (retE (fun s0 t0 => ∃ u0, s0 = .int .i64 u0 ∧
 sameCells g0 t0 p0 q0 1 ∧ sameCells g0 t0 k0 l0 1 ∧ isP a0 fun v0 w0 => stC t0 v0 w0 (.pointer e0) fun x0 =>
 stC x0 v0 (w0 + 1) (.int .i64 (IntKind.i64.wrap ((IntKind.i64.wrap (m0 - r0)) - d0))) fun y0 =>
 stC y0 v0 (w0 + 1 + 1) (.bool (!decide (u0 = (0 : Int)))) fun z0 =>
 isP a0 fun a1 b1 =>
∃ c1, cell? z0 ⟨a1, b1, none⟩ = some (.pointer c1) ∧
∃ d1, cell? z0 ⟨a1, b1 + 1, none⟩ = some (.int .i64 d1) ∧
∃ e1, cell? z0 ⟨a1, b1 + 1 + 1, none⟩ = some (.bool e1) ∧
 R (.returned (.tuple #[.agg #[.pointer c1, .int .i64 d1, .bool e1], .int .i64 (0 : Int)])) z0)
(fun _ _ => False)) g0
def F1324_o205 (B : World) (R : Po) (f1 g1 i1 : OA) (j1 : Int) (k1 l1 m1 n1 : OA) (o1 : Heap) : Prop :=
 Ec B 65 #[.pointer k1, .pointer l1, .pointer m1, .pointer n1] (retE (fun p1 q1 => ∃ r1 s1, p1 = .tuple #[.pointer r1, .pointer s1] ∧
 F1324_j6 B R f1 g1 i1 j1 r1 s1 q1)
(fun _ _ => False)) o1
def F1324_o190 (B : World) (R : Po) (t1 u1 v1 : OA) (w1 : Int) (x1 y1 z1 : OA) (a2 b2 c2 d2 : Nat) (e2 : Heap) : Prop :=
 alW e2 (.cells #[.bool false, .slice none 0 0] 62) fun f2 g2 =>
 sameCells e2 g2 a2 b2 1 ∧ sameCells e2 g2 c2 d2 1 ∧ F1324_o205 B R t1 u1 v1 w1 x1 y1 z1 (some ⟨f2, 0, none⟩) g2
def F1324_o255 (B : World) (R : Po) (i2 j2 k2 : OA) (l2 : Int) (m2 n2 o2 : OA) (p2 : Int) (q2 r2 : OA) (s2 t2 : Nat) (u2 : Heap) : Prop :=
 Ec B 66 #[.pointer n2, .pointer o2, .int .u64 p2] (retE (fun v2 w2 => ∃ x2, v2 = .pointer x2 ∧
 sameCells u2 w2 s2 t2 1 ∧ F1324_o205 B R i2 j2 k2 l2 m2 x2 q2 r2 w2)
(fun _ _ => False)) u2
def F1324_o170 (B : World) (R : Po) (y2 z2 a3 : OA) (b3 : Int) (c3 d3 e3 : OA) (f3 : Int) (g3 : OA) (i3 j3 k3 l3 : Nat) (m3 : Heap) : Prop :=
(Ec B 66 #[.pointer d3, .pointer e3, .int .u64 f3] (retE (fun n3 o3 => ∃ p3, n3 = .pointer p3 ∧
 sameCells m3 o3 i3 j3 1 ∧ F1324_o190 B R y2 z2 a3 b3 c3 p3 g3 i3 j3 k3 l3 o3)
(fun _ _ => False)) m3) ∧
(alW m3 (.cells #[.bool false, .slice none 0 0] 62) fun q3 r3 =>
 sameCells m3 r3 i3 j3 1 ∧ sameCells m3 r3 k3 l3 1 ∧ F1324_o255 B R y2 z2 a3 b3 c3 d3 e3 f3 g3 (some ⟨q3, 0, none⟩) i3 j3 r3)
def F1324_o276 (B : World) (R : Po) (s3 t3 u3 : OA) (v3 : Int) (w3 x3 : OA) (y3 : Int) (z3 a4 : OA) (b4 c4 d4 e4 : Nat) (f4 : Heap) : Prop :=
 alW f4 (.cells #[.bool false, .slice none 0 0] 62) fun g4 i4 =>
 sameCells f4 i4 b4 c4 1 ∧ sameCells f4 i4 d4 e4 1 ∧ F1324_o255 B R s3 t3 u3 v3 w3 (some ⟨g4, 0, none⟩) x3 y3 z3 a4 b4 c4 i4
def F1324_o154 (B : World) (R : Po) (j4 k4 l4 : OA) (m4 : Int) (n4 o4 : OA) (p4 : Int) (q4 : OA) (r4 s4 t4 u4 : Nat) (v4 : Heap) : Prop :=
(alW v4 (.cells #[.bool false, .slice none 0 0] 62) fun w4 x4 =>
 sameCells v4 x4 r4 s4 1 ∧ sameCells v4 x4 t4 u4 1 ∧ F1324_o170 B R j4 k4 l4 m4 n4 (some ⟨w4, 0, none⟩) o4 p4 q4 r4 s4 t4 u4 x4) ∧
(alW v4 (.cells #[.bool false, .slice none 0 0] 62) fun y4 z4 =>
 sameCells v4 z4 r4 s4 1 ∧ sameCells v4 z4 t4 u4 1 ∧ F1324_o276 B R j4 k4 l4 m4 n4 o4 p4 q4 (some ⟨y4, 0, none⟩) r4 s4 t4 u4 z4)
def F1324_o332 (B : World) (R : Po) (a5 b5 c5 : OA) (d5 : Int) (e5 f5 g5 : OA) (i5 j5 k5 l5 : Nat) (m5 : Heap) : Prop :=
 alW m5 (.cells #[.bool false, .slice none 0 0] 62) fun n5 o5 =>
 sameCells m5 o5 i5 j5 1 ∧ sameCells m5 o5 k5 l5 1 ∧ F1324_o205 B R a5 b5 c5 d5 (some ⟨n5, 0, none⟩) e5 f5 g5 o5
def F1324_o316 (B : World) (R : Po) (p5 q5 r5 : OA) (s5 : Int) (t5 u5 : OA) (v5 w5 x5 y5 : Nat) (z5 : Heap) : Prop :=
(alW z5 (.cells #[.bool false, .slice none 0 0] 62) fun a6 b6 =>
 sameCells z5 b6 v5 w5 1 ∧ sameCells z5 b6 x5 y5 1 ∧ F1324_o190 B R p5 q5 r5 s5 (some ⟨a6, 0, none⟩) t5 u5 v5 w5 x5 y5 b6) ∧
(alW z5 (.cells #[.bool false, .slice none 0 0] 62) fun c6 d6 =>
 sameCells z5 d6 v5 w5 1 ∧ sameCells z5 d6 x5 y5 1 ∧ F1324_o332 B R p5 q5 r5 s5 t5 u5 (some ⟨c6, 0, none⟩) v5 w5 x5 y5 d6)
def F1324_o349 (B : World) (R : Po) (e6 f6 g6 : OA) (i6 : Int) (j6 k6 : OA) (l6 : Int) (m6 n6 : OA) (o6 p6 q6 r6 : Nat) (s6 : Heap) : Prop :=
(alW s6 (.cells #[.bool false, .slice none 0 0] 62) fun t6 u6 =>
 sameCells s6 u6 o6 p6 1 ∧ sameCells s6 u6 q6 r6 1 ∧ F1324_o255 B R e6 f6 g6 i6 (some ⟨t6, 0, none⟩) j6 k6 l6 m6 n6 o6 p6 u6) ∧
(Ec B 66 #[.pointer j6, .pointer k6, .int .u64 l6] (retE (fun v6 w6 => ∃ x6, v6 = .pointer x6 ∧
 sameCells s6 w6 o6 p6 1 ∧ F1324_o332 B R e6 f6 g6 i6 x6 m6 n6 o6 p6 q6 r6 w6)
(fun _ _ => False)) s6)
def F1324_o295 (B : World) (R : Po) (y6 z6 a7 : OA) (b7 : Int) (c7 d7 : OA) (e7 : Int) (f7 : OA) (g7 i7 j7 k7 : Nat) (l7 : Heap) : Prop :=
(alW l7 (.cells #[.bool false, .slice none 0 0] 62) fun m7 n7 =>
 sameCells l7 n7 g7 i7 1 ∧ sameCells l7 n7 j7 k7 1 ∧ F1324_o170 B R y6 z6 a7 b7 (some ⟨m7, 0, none⟩) c7 d7 e7 f7 g7 i7 j7 k7 n7) ∧
(Ec B 66 #[.pointer c7, .pointer d7, .int .u64 e7] (retE (fun o7 p7 => ∃ q7, o7 = .pointer q7 ∧
 sameCells l7 p7 g7 i7 1 ∧ F1324_o316 B R y6 z6 a7 b7 q7 f7 g7 i7 j7 k7 p7)
(fun _ _ => False)) l7) ∧
(alW l7 (.cells #[.bool false, .slice none 0 0] 62) fun r7 s7 =>
 sameCells l7 s7 g7 i7 1 ∧ sameCells l7 s7 j7 k7 1 ∧ F1324_o349 B R y6 z6 a7 b7 c7 d7 e7 f7 (some ⟨r7, 0, none⟩) g7 i7 j7 k7 s7)
def F1324_o373 (B : World) (R : Po) (t7 u7 v7 : OA) (w7 : Int) (x7 : OA) (y7 : Int) (z7 a8 : OA) (b8 c8 d8 e8 : Nat) (f8 : Heap) : Prop :=
(alW f8 (.cells #[.bool false, .slice none 0 0] 62) fun g8 i8 =>
 sameCells f8 i8 b8 c8 1 ∧ sameCells f8 i8 d8 e8 1 ∧ F1324_o276 B R t7 u7 v7 w7 (some ⟨g8, 0, none⟩) x7 y7 z7 a8 b8 c8 d8 e8 i8) ∧
(alW f8 (.cells #[.bool false, .slice none 0 0] 62) fun j8 k8 =>
 sameCells f8 k8 b8 c8 1 ∧ sameCells f8 k8 d8 e8 1 ∧ F1324_o349 B R t7 u7 v7 w7 (some ⟨j8, 0, none⟩) x7 y7 z7 a8 b8 c8 d8 e8 k8)
def F1324_o139 (B : World) (R : Po) (l8 m8 n8 : OA) (o8 : Int) (p8 : OA) (q8 : Int) (r8 : OA) (s8 t8 u8 v8 : Nat) (w8 : Heap) : Prop :=
(alW w8 (.cells #[.bool false, .slice none 0 0] 62) fun x8 y8 =>
 sameCells w8 y8 s8 t8 1 ∧ sameCells w8 y8 u8 v8 1 ∧ F1324_o154 B R l8 m8 n8 o8 (some ⟨x8, 0, none⟩) p8 q8 r8 s8 t8 u8 v8 y8) ∧
(alW w8 (.cells #[.bool false, .slice none 0 0] 62) fun z8 a9 =>
 sameCells w8 a9 s8 t8 1 ∧ sameCells w8 a9 u8 v8 1 ∧ F1324_o295 B R l8 m8 n8 o8 (some ⟨z8, 0, none⟩) p8 q8 r8 s8 t8 u8 v8 a9) ∧
(alW w8 (.cells #[.bool false, .slice none 0 0] 62) fun b9 c9 =>
 sameCells w8 c9 s8 t8 1 ∧ sameCells w8 c9 u8 v8 1 ∧ F1324_o373 B R l8 m8 n8 o8 p8 q8 r8 (some ⟨b9, 0, none⟩) s8 t8 u8 v8 c9)
def F1324_j5 (B : World) (R : Po) (d9 e9 f9 : OA) (g9 : Int) (i9 : Heap) : Prop :=
 isP e9 fun j9 k9 =>
 iP j9 k9 fun l9 m9 => ∃ n9, cell? i9 ⟨l9, m9, none⟩ = some (.pointer n9) ∧
 isP f9 fun o9 p9 =>
 iP o9 p9 fun q9 r9 => ∃ s9, cell? i9 ⟨q9, r9, none⟩ = some (.pointer s9) ∧
 F1324_o139 B R d9 e9 f9 g9 n9 (IntKind.u64.wrap g9) s9 q9 r9 l9 m9 i9
def F1324_j2 (B : World) (R : Po) (t9 u9 v9 : OA) (w9 : Heap) : Prop :=
 isP v9 fun x9 y9 =>
 iP x9 y9 fun z9 a10 => ∃ b10, cell? w9 ⟨z9, a10, none⟩ = some (.pointer b10) ∧
 Ec B 23 #[.pointer b10] (retE (fun c10 d10 => ∃ e10, c10 = .int .i64 e10 ∧
((decide (e10 = (0 : Int))) = true →
 isP t9 fun f10 g10 => stC d10 f10 g10 (.pointer none) fun i10 =>
 stC i10 f10 (g10 + 1) (.int .i64 0) fun j10 =>
 stC j10 f10 (g10 + 1 + 1) (.bool false) fun k10 =>
 isP t9 fun l10 m10 =>
∃ n10, cell? k10 ⟨l10, m10, none⟩ = some (.pointer n10) ∧
∃ o10, cell? k10 ⟨l10, m10 + 1, none⟩ = some (.int .i64 o10) ∧
∃ p10, cell? k10 ⟨l10, m10 + 1 + 1, none⟩ = some (.bool p10) ∧
 R (.returned (.tuple #[.agg #[.pointer n10, .int .i64 o10, .bool p10], .int .i64 (12 : Int)])) k10) ∧
((decide (e10 = (0 : Int))) = false →
 isP v9 fun q10 r10 =>
 iP q10 r10 fun s10 t10 => ∃ u10, cell? d10 ⟨s10, t10, none⟩ = some (.pointer u10) ∧
 isP u9 fun v10 w10 =>
 iP v10 w10 fun x10 y10 => ∃ z10, cell? d10 ⟨x10, y10, none⟩ = some (.pointer z10) ∧
 Ec B 64 #[.pointer u10] (retE (fun a11 b11 => ∃ c11, a11 = .int .i64 c11 ∧
 sameCells d10 b11 x10 y10 1 ∧ Ec B 64 #[.pointer z10] (retE (fun d11 e11 => ∃ f11, d11 = .int .i64 f11 ∧
 F1324_j5 B R t9 u9 v9 (if (IntKind.i64.wrap ((IntKind.i64.wrap (c11 - f11)) + (64 : Int))) > (0 : Int) then (IntKind.i64.wrap ((IntKind.i64.wrap (c11 - f11)) + (64 : Int))) else (0 : Int)) e11)
(fun _ _ => False)) b11)
(fun _ _ => False)) d10))
(pk R)) w9
def F1324_o67 (B : World) (R : Po) (g11 i11 j11 k11 : OA) (l11 : Int) (m11 : Bool) (n11 : Heap) : Prop :=
 isP j11 fun o11 p11 => stC n11 o11 p11 (.pointer k11) fun q11 =>
 stC q11 o11 (p11 + 1) (.int .i64 l11) fun r11 =>
 stC r11 o11 (p11 + 1 + 1) (.bool m11) fun s11 =>
 F1324_j2 B R g11 i11 j11 s11
def F1324_o49 (B : World) (R : Po) (t11 u11 v11 w11 : OA) (x11 : Int) (y11 : Bool) (z11 : OA) (a12 : Int) (b12 : Bool) (c12 d12 : Nat) (e12 : Heap) : Prop :=
 isP u11 fun f12 g12 => stC e12 f12 g12 (.pointer w11) fun i12 =>
 stC i12 f12 (g12 + 1) (.int .i64 x11) fun j12 =>
 stC j12 f12 (g12 + 1 + 1) (.bool y11) fun k12 =>
 sameCells e12 k12 c12 d12 3 ∧ F1324_o67 B R t11 u11 v11 z11 a12 b12 k12
def F1324_o33 (B : World) (R : Po) (l12 m12 n12 : OA) (o12 : Int) (p12 : Bool) (q12 : OA) (r12 : Int) (s12 : Bool) (t12 u12 v12 w12 : Nat) (x12 : Heap) : Prop :=
 alW x12 (.cells #[.pointer none, .int .i64 0, .bool false] 36) fun y12 z12 =>
 sameCells x12 z12 t12 u12 3 ∧ sameCells x12 z12 v12 w12 3 ∧ F1324_o49 B R l12 m12 (some ⟨y12, 0, none⟩) n12 o12 p12 q12 r12 s12 t12 u12 z12
def F1324_o393 (B : World) (R : Po) (a13 b13 c13 : OA) (d13 : Int) (e13 : Bool) (f13 : OA) (g13 : Int) (i13 : Bool) (j13 k13 l13 m13 : Nat) (n13 : Heap) : Prop :=
 alW n13 (.cells #[.pointer none, .int .i64 0, .bool false] 36) fun o13 p13 =>
 sameCells n13 p13 j13 k13 3 ∧ sameCells n13 p13 l13 m13 3 ∧ F1324_o49 B R a13 (some ⟨o13, 0, none⟩) b13 c13 d13 e13 f13 g13 i13 j13 k13 p13
def F1324_o18 (B : World) (R : Po) (q13 r13 : OA) (s13 : Int) (t13 : Bool) (u13 : OA) (v13 : Int) (w13 : Bool) (x13 y13 z13 a14 : Nat) (b14 : Heap) : Prop :=
(alW b14 (.cells #[.pointer none, .int .i64 0, .bool false] 36) fun c14 d14 =>
 sameCells b14 d14 x13 y13 3 ∧ sameCells b14 d14 z13 a14 3 ∧ F1324_o33 B R q13 (some ⟨c14, 0, none⟩) r13 s13 t13 u13 v13 w13 x13 y13 z13 a14 d14) ∧
(alW b14 (.cells #[.pointer none, .int .i64 0, .bool false] 36) fun e14 f14 =>
 sameCells b14 f14 x13 y13 3 ∧ sameCells b14 f14 z13 a14 3 ∧ F1324_o393 B R q13 (some ⟨e14, 0, none⟩) r13 s13 t13 u13 v13 w13 x13 y13 z13 a14 f14)
def F1324 (B : World) (R : Po) (g14 : OA) (i14 j14 : Nat) (h : Heap) : Prop :=
 alW h (.cells #[.pointer none, .int .i64 0, .bool false] 36) fun k14 l14 =>
 ixW g14 i14 (0 : Int) 3 fun m14 n14 =>
 iP m14 n14 fun o14 p14 =>
∃ q14, cell? l14 ⟨o14, p14, none⟩ = some (.pointer q14) ∧
∃ r14, cell? l14 ⟨o14, p14 + 1, none⟩ = some (.int .i64 r14) ∧
∃ s14, cell? l14 ⟨o14, p14 + 1 + 1, none⟩ = some (.bool s14) ∧
 ixW g14 i14 (1 : Int) 3 fun t14 u14 =>
 iP t14 u14 fun v14 w14 =>
∃ x14, cell? l14 ⟨v14, w14, none⟩ = some (.pointer x14) ∧
∃ y14, cell? l14 ⟨v14, w14 + 1, none⟩ = some (.int .i64 y14) ∧
∃ z14, cell? l14 ⟨v14, w14 + 1 + 1, none⟩ = some (.bool z14) ∧
 F1324_o18 B R (some ⟨k14, 0, none⟩) q14 r14 s14 x14 y14 z14 v14 w14 o14 p14 l14
def F1324_L : Nat → List (Nat × TypeDesc) := fun _ => []
def F1324_J (B : World) (R : Po) : Nat → Option JT := fun i => match i with
  | 2 => some ⟨[(2, .pointer 0), (4, .pointer 0), (5, .pointer 0)], fun s v h => match s, v with
    | [], [.pointer t9, .pointer u9, .pointer v9] => F1324_j2 B R t9 u9 v9 h
    | _, _ => False⟩
  | 5 => some ⟨[(2, .pointer 0), (4, .pointer 0), (5, .pointer 0), (6, .int .i64)], fun s v h => match s, v with
    | [], [.pointer d9, .pointer e9, .pointer f9, .int _ g9] => F1324_j5 B R d9 e9 f9 g9 h
    | _, _ => False⟩
  | 6 => some ⟨[(2, .pointer 0), (4, .pointer 0), (5, .pointer 0), (6, .int .i64), (7, .pointer 0), (8, .pointer 0)], fun s v h => match s, v with
    | [], [.pointer a0, .pointer b0, .pointer c0, .int _ d0, .pointer e0, .pointer f0] => F1324_j6 B R a0 b0 c0 d0 e0 f0 h
    | _, _ => False⟩
  | _ => none
theorem F1324_ok {B : World} {R : Ending → Heap → Prop} (g14 : OA) (i14 j14 : Nat) {h : Heap} (H : F1324 B R g14 i14 j14 h) : Ec B 39 #[.slice g14 i14 j14] R h :=
 Ej Tryz.func39 (by kernel_rfl) (by kernel_rfl) (by kernel_rfl) F1324_L (F1324_J B R) [] (by kernel_rfl) (by kernel_rfl) H
end Go.Proofs
namespace Go.Proofs
open Go Go.Eng
/-- plumb/round.Add32 -/
def F1323_j32 (B : World) (R : Po) (a0 : Int) (b0 c0 : OA) (d0 : Bool) (e0 : Nat) (f0 : Bool) (g0 : Heap) : Prop :=
(f0 = true →
 R (.returned (.tuple #[.int .i64 (2147483648 : Int), .int .i64 (0 : Int)])) g0) ∧
(f0 = false →
 Ec B 47 #[.int .i64 a0, .float .f32 e0, .bool d0, .func (.func 48) #[] #[.pointer b0, .pointer c0]] (retE (fun i0 j0 => ∃ k0 l0, i0 = .tuple #[.int .i64 k0, .int .i64 l0] ∧
 R (.returned (.tuple #[.int .i64 k0, .int .i64 l0])) j0)
(pk R)) g0)
def F1323 (B : World) (R : Po) (m0 n0 o0 : Int) (h : Heap) : Prop :=
 Ec B 45 #[.int .i64 m0, .int .i64 n0] (retE (fun p0 q0 => ∃ r0 s0 t0, p0 = .tuple #[.int .i64 r0, .int .i64 s0, .bool t0] ∧
 alW q0 (.cells #[.int .i64 0] 3) fun u0 v0 =>
 alW v0 (.cells #[.int .i64 0] 3) fun w0 x0 =>
 iP u0 0 fun y0 z0 => stC x0 y0 z0 (.int .i64 r0) fun a1 =>
 iP w0 0 fun b1 c1 => stC a1 b1 c1 (.int .i64 s0) fun d1 =>
 Ec B 46 #[.int .i64 m0] (retE (fun e1 f1 => ∃ g1, e1 = .float .f32 g1 ∧
 Ec B 46 #[.int .i64 n0] (retE (fun i1 j1 => ∃ k1, i1 = .float .f32 k1 ∧
 flW .f32 (FloatKind.f32.format.add g1 k1) g1 k1 fun l1 =>
(t0 = true →
((decide (o0 = (1 : Int))) = true →
((bif true then (FloatKind.f32.format.order l1 0 == some .eq) else false) = true →
((!decide (m0 = (0 : Int))) = true →
 F1323_j32 B R o0 (some ⟨u0, 0, none⟩) (some ⟨w0, 0, none⟩) t0 l1 true j1) ∧
((!decide (m0 = (0 : Int))) = false →
 F1323_j32 B R o0 (some ⟨u0, 0, none⟩) (some ⟨w0, 0, none⟩) t0 l1 (!decide (n0 = (0 : Int))) j1)) ∧
((bif true then (FloatKind.f32.format.order l1 0 == some .eq) else false) = false →
 F1323_j32 B R o0 (some ⟨u0, 0, none⟩) (some ⟨w0, 0, none⟩) t0 l1 false j1)) ∧
((decide (o0 = (1 : Int))) = false →
(false = true →
((!decide (m0 = (0 : Int))) = true →
 F1323_j32 B R o0 (some ⟨u0, 0, none⟩) (some ⟨w0, 0, none⟩) t0 l1 true j1) ∧
((!decide (m0 = (0 : Int))) = false →
 F1323_j32 B R o0 (some ⟨u0, 0, none⟩) (some ⟨w0, 0, none⟩) t0 l1 (!decide (n0 = (0 : Int))) j1)) ∧
(false = false →
 F1323_j32 B R o0 (some ⟨u0, 0, none⟩) (some ⟨w0, 0, none⟩) t0 l1 false j1))) ∧
(t0 = false →
(false = true →
((bif true then (FloatKind.f32.format.order l1 0 == some .eq) else false) = true →
((!decide (m0 = (0 : Int))) = true →
 F1323_j32 B R o0 (some ⟨u0, 0, none⟩) (some ⟨w0, 0, none⟩) t0 l1 true j1) ∧
((!decide (m0 = (0 : Int))) = false →
 F1323_j32 B R o0 (some ⟨u0, 0, none⟩) (some ⟨w0, 0, none⟩) t0 l1 (!decide (n0 = (0 : Int))) j1)) ∧
((bif true then (FloatKind.f32.format.order l1 0 == some .eq) else false) = false →
 F1323_j32 B R o0 (some ⟨u0, 0, none⟩) (some ⟨w0, 0, none⟩) t0 l1 false j1)) ∧
(false = false →
(false = true →
((!decide (m0 = (0 : Int))) = true →
 F1323_j32 B R o0 (some ⟨u0, 0, none⟩) (some ⟨w0, 0, none⟩) t0 l1 true j1) ∧
((!decide (m0 = (0 : Int))) = false →
 F1323_j32 B R o0 (some ⟨u0, 0, none⟩) (some ⟨w0, 0, none⟩) t0 l1 (!decide (n0 = (0 : Int))) j1)) ∧
(false = false →
 F1323_j32 B R o0 (some ⟨u0, 0, none⟩) (some ⟨w0, 0, none⟩) t0 l1 false j1))))
(pk R)) f1)
(pk R)) d1)
(pk R)) h
def F1323_L : Nat → List (Nat × TypeDesc) := fun _ => []
theorem F1323_ok {B : World} {R : Ending → Heap → Prop} (m0 n0 o0 : Int) {h : Heap} (H : F1323 B R m0 n0 o0 h) : Ec B 19 #[.int .i64 m0, .int .i64 n0, .int .i64 o0] R h :=
 Ek Tryz.func19 (by kernel_rfl) (by kernel_rfl) (by kernel_rfl) F1323_L [] (by kernel_rfl) H
end Go.Proofs
namespace Go.Proofs
open Go Go.Eng
/-- plumb/plumblaw4.RoundWhole -/
def F1342_j85 (B : World) (R : Po) (a0 : Bool) (b0 : Heap) : Prop :=
 R (.returned (.bool a0)) b0
def F1342_j81 (B : World) (R : Po) (c0 d0 : Bool) (e0 : Heap) : Prop :=
(d0 = true →
 F1342_j85 B R (!c0) e0) ∧
(d0 = false →
 F1342_j85 B R false e0)
def F1342_j76 (B : World) (R : Po) (f0 g0 i0 : Bool) (j0 : Heap) : Prop :=
(i0 = true →
 F1342_j81 B R g0 (!f0) j0) ∧
(i0 = false →
 F1342_j81 B R g0 false j0)
def F1342_j104 (B : World) (R : Po) (k0 : Bool) (l0 : Heap) : Prop :=
 R (.returned (.bool k0)) l0
def F1342_j99 (B : World) (R : Po) (m0 : Int) (n0 o0 : Bool) (p0 : Heap) : Prop :=
(o0 = true →
 F1342_j104 B R true p0) ∧
(o0 = false →
((decide (m0 = (0 : Int))) = true →
 F1342_j104 B R (!n0) p0) ∧
((decide (m0 = (0 : Int))) = false →
 F1342_j104 B R false p0))
def F1342_j165 (B : World) (R : Po) (q0 : Bool) (r0 : Heap) : Prop :=
 R (.returned (.bool q0)) r0
def F1342_j159 (B : World) (R : Po) (s0 t0 : Int) (u0 : Nat) (v0 : Bool) (w0 : Heap) : Prop :=
(v0 = true →
((!decide (t0 = s0)) = true →
 F1342_j165 B R true w0) ∧
((!decide (t0 = s0)) = false →
 F1342_j165 B R (FloatKind.f64.format.order (FloatKind.f64.nearest s0) u0 == some .eq) w0)) ∧
(v0 = false →
 F1342_j165 B R false w0)
def F1342_j152 (B : World) (R : Po) (x0 y0 z0 : Int) (a1 : Nat) (b1 : Bool) (c1 : Heap) : Prop :=
(b1 = true →
((decide (z0 = x0)) = true →
 F1342_j159 B R x0 y0 a1 true c1) ∧
((decide (z0 = x0)) = false →
 F1342_j159 B R x0 y0 a1 (decide (z0 = y0)) c1)) ∧
(b1 = false →
 F1342_j159 B R x0 y0 a1 false c1)
def F1342_j144 (B : World) (R : Po) (d1 e1 f1 g1 : Int) (i1 : Nat) (j1 : Bool) (k1 : Heap) : Prop :=
(j1 = true →
((decide (f1 = d1)) = true →
((FloatKind.f64.format.order i1 0 == some .gt || FloatKind.f64.format.order i1 0 == some .eq) = true →
 F1342_j152 B R d1 e1 g1 i1 true k1) ∧
((FloatKind.f64.format.order i1 0 == some .gt || FloatKind.f64.format.order i1 0 == some .eq) = false →
((decide (f1 = e1)) = true →
 F1342_j152 B R d1 e1 g1 i1 (FloatKind.f64.format.order i1 0 == some .lt || FloatKind.f64.format.order i1 0 == some .eq) k1) ∧
((decide (f1 = e1)) = false →
 F1342_j152 B R d1 e1 g1 i1 false k1))) ∧
((decide (f1 = d1)) = false →
(false = true →
 F1342_j152 B R d1 e1 g1 i1 true k1) ∧
(false = false →
((decide (f1 = e1)) = true →
 F1342_j152 B R d1 e1 g1 i1 (FloatKind.f64.format.order i1 0 == some .lt || FloatKind.f64.format.order i1 0 == some .eq) k1) ∧
((decide (f1 = e1)) = false →
 F1342_j152 B R d1 e1 g1 i1 false k1)))) ∧
(j1 = false →
 F1342_j152 B R d1 e1 g1 i1 false k1)
def F1342_j136 (B : World) (R : Po) (l1 m1 n1 o1 : Int) (p1 : Nat) (q1 : Bool) (r1 : Heap) : Prop :=
(q1 = true →
 F1342_j144 B R l1 m1 n1 o1 p1 (FloatKind.f64.format.order p1 (FloatKind.f64.nearest m1) == some .lt || FloatKind.f64.format.order p1 (FloatKind.f64.nearest m1) == some .eq) r1) ∧
(q1 = false →
 F1342_j144 B R l1 m1 n1 o1 p1 false r1)
def F1342_j128 (B : World) (R : Po) (s1 t1 u1 v1 : Int) (w1 : Nat) (x1 : Bool) (y1 : Heap) : Prop :=
(x1 = true →
 F1342_j136 B R s1 t1 u1 v1 w1 (FloatKind.f64.format.order (FloatKind.f64.nearest s1) w1 == some .lt || FloatKind.f64.format.order (FloatKind.f64.nearest s1) w1 == some .eq) y1) ∧
(x1 = false →
 F1342_j136 B R s1 t1 u1 v1 w1 false y1)
def F1342_j120 (B : World) (R : Po) (z1 a2 b2 c2 : Int) (d2 : Nat) (e2 : Bool) (f2 : Heap) : Prop :=
(e2 = true →
 F1342_j128 B R z1 a2 b2 c2 d2 (decide (z1 ≤ a2)) f2) ∧
(e2 = false →
 F1342_j128 B R z1 a2 b2 c2 d2 false f2)
def F1342_j112 (B : World) (R : Po) (g2 i2 j2 k2 : Int) (l2 : Nat) (m2 : Bool) (n2 : Heap) : Prop :=
(m2 = true →
 F1342_j120 B R g2 i2 j2 k2 l2 (decide ((IntKind.i64.wrap (i2 - g2)) ≤ (1 : Int))) n2) ∧
(m2 = false →
 F1342_j120 B R g2 i2 j2 k2 l2 false n2)
def F1342_j12 (B : World) (R : Po) (o2 p2 : Int) (q2 : Bool) (r2 : Int) (s2 : Bool) (t2 : Int) (u2 : Bool) (v2 : Int) (w2 x2 : Bool) (y2 : Heap) : Prop :=
(x2 = true →
((decide (p2 = (0 : Int))) = true →
 F1342_j99 B R r2 s2 (!q2) y2) ∧
((decide (p2 = (0 : Int))) = false →
 F1342_j99 B R r2 s2 false y2)) ∧
(x2 = false →
 Ec B 8 #[.int .i64 o2] (retE (fun z2 a3 => ∃ b3, z2 = .float .f64 b3 ∧
(u2 = true →
 F1342_j112 B R p2 r2 t2 v2 b3 w2 a3) ∧
(u2 = false →
 F1342_j112 B R p2 r2 t2 v2 b3 false a3))
(pk R)) y2)
def F1342_j4 (B : World) (R : Po) (c3 : Int) (d3 : Bool) (e3 : Heap) : Prop :=
(d3 = true →
 R (.returned (.bool false)) e3) ∧
(d3 = false →
 Ec B 5 #[.int .i64 c3, .int .i64 (1 : Int)] (retE (fun f3 g3 => ∃ i3 j3 k3, f3 = .tuple #[.int .i64 i3, .bool j3, .int .i64 k3] ∧
 Ec B 5 #[.int .i64 c3, .int .i64 (2 : Int)] (retE (fun l3 m3 => ∃ n3 o3 p3, l3 = .tuple #[.int .i64 n3, .bool o3, .int .i64 p3] ∧
 Ec B 5 #[.int .i64 c3, .int .i64 (3 : Int)] (retE (fun q3 r3 => ∃ s3 t3 u3, q3 = .tuple #[.int .i64 s3, .bool t3, .int .i64 u3] ∧
 Ec B 5 #[.int .i64 c3, .int .i64 (0 : Int)] (retE (fun v3 w3 => ∃ x3 y3 z3, v3 = .tuple #[.int .i64 x3, .bool y3, .int .i64 z3] ∧
 Ec B 7 #[.int .i64 c3] (retE (fun a4 b4 => ∃ c4, a4 = .int .i64 c4 ∧
((decide ((2 : Int) < c4)) = true →
((!j3) = true →
 F1342_j76 B R t3 y3 (!o3) b4) ∧
((!j3) = false →
 F1342_j76 B R t3 y3 false b4)) ∧
((decide ((2 : Int) < c4)) = false →
((!j3) = true →
 F1342_j12 B R c3 i3 j3 n3 o3 s3 t3 x3 y3 true b4) ∧
((!j3) = false →
 F1342_j12 B R c3 i3 j3 n3 o3 s3 t3 x3 y3 (!o3) b4)))
(pk R)) w3)
(pk R)) r3)
(pk R)) m3)
(pk R)) g3)
(pk R)) e3)
def F1342_j34 (B : World) (R : Po) (d4 e4 f4 : Int) (g4 : Bool) (i4 : Heap) : Prop :=
(g4 = true →
 F1342_j4 B R e4 true i4) ∧
(g4 = false →
((decide (d4 < (9007199254740992 : Int))) = true →
((decide ((-9007199254740992 : Int) < d4)) = true →
 F1342_j4 B R e4 (!decide (f4 = d4)) i4) ∧
((decide ((-9007199254740992 : Int) < d4)) = false →
 F1342_j4 B R e4 false i4)) ∧
((decide (d4 < (9007199254740992 : Int))) = false →
(false = true →
 F1342_j4 B R e4 (!decide (f4 = d4)) i4) ∧
(false = false →
 F1342_j4 B R e4 false i4)))
def F1342_j28 (B : World) (R : Po) (j4 k4 l4 : Int) (m4 : Bool) (n4 : Heap) : Prop :=
(m4 = true →
 F1342_j34 B R j4 k4 l4 true n4) ∧
(m4 = false →
 F1342_j34 B R j4 k4 l4 (decide (j4 < l4)) n4)
def F1342_j21 (B : World) (R : Po) (o4 p4 q4 : Int) (r4 s4 : Bool) (t4 : Heap) : Prop :=
(s4 = true →
 F1342_j28 B R o4 p4 q4 true t4) ∧
(s4 = false →
 F1342_j28 B R o4 p4 q4 (!r4) t4)
def F1342 (B : World) (R : Po) (u4 v4 : Int) (h : Heap) : Prop :=
 Ec B 4 #[.int .i64 u4, .int .i64 (1 : Int)] (retE (fun w4 x4 => ∃ y4 z4, w4 = .tuple #[.int .i64 y4, .int .i64 z4] ∧
 Ec B 5 #[.int .i64 y4, .int .i64 (0 : Int)] (retE (fun a5 b5 => ∃ c5 d5 e5, a5 = .tuple #[.int .i64 c5, .bool d5, .int .i64 e5] ∧
 Ec B 6 #[] (retE (fun f5 g5 => ∃ i5, f5 = .bool i5 ∧
((!i5) = true →
 F1342_j21 B R u4 v4 c5 d5 true g5) ∧
((!i5) = false →
 F1342_j21 B R u4 v4 c5 d5 (!decide ((IntKind.i64.wrap (z4 + e5)) = (0 : Int))) g5))
(pk R)) b5)
(pk R)) x4)
(pk R)) h
def F1342_L : Nat → List (Nat × TypeDesc) := fun _ => []
def F1342_J (B : World) (R : Po) : Nat → Option JT := fun i => match i with
  | 4 => some ⟨[(1, .int .i64), (63, .bool)], fun s v h => match s, v with
    | [], [.int _ c3, .bool d3] => F1342_j4 B R c3 d3 h
    | _, _ => False⟩
  | 12 => some ⟨[(1, .int .i64), (10, .int .i64), (11, .bool), (13, .int .i64), (14, .bool), (16, .int .i64), (17, .bool), (19, .int .i64), (20, .bool), (110, .bool)], fun s v h => match s, v with
    | [], [.int _ o2, .int _ p2, .bool q2, .int _ r2, .bool s2, .int _ t2, .bool u2, .int _ v2, .bool w2, .bool x2] => F1342_j12 B R o2 p2 q2 r2 s2 t2 u2 v2 w2 x2 h
    | _, _ => False⟩
  | _ => none
theorem F1342_ok {B : World} {R : Ending → Heap → Prop} (u4 v4 : Int) {h : Heap} (H : F1342 B R u4 v4 h) : Ec B 3 #[.int .i64 u4, .int .i64 v4] R h :=
 Ej Tryz.func3 (by kernel_rfl) (by kernel_rfl) (by kernel_rfl) F1342_L (F1342_J B R) [] (by kernel_rfl) (by kernel_rfl) H

/-- plumb/round.FromInt -/
def F1343 (B : World) (R : Po) (a0 b0 : Int) (h : Heap) : Prop :=
 alW h (.cells #[.int .i64 a0] 3) fun c0 d0 =>
 iP c0 0 fun e0 f0 => ∃ g0, cI d0 e0 f0 .i64 g0 ∧
 Ec B 10 #[.float .f64 (FloatKind.f64.nearest g0)] (retE (fun i0 j0 => ∃ k0, i0 = .int .i64 k0 ∧
 Ec B 9 #[.int .i64 b0, .int .i64 k0, .bool true, .func (.func 11) #[] #[.pointer (some ⟨c0, 0, none⟩)]] (retE (fun l0 m0 => ∃ n0 o0, l0 = .tuple #[.int .i64 n0, .int .i64 o0] ∧
 R (.returned (.tuple #[.int .i64 n0, .int .i64 o0])) m0)
(pk R)) j0)
(pk R)) d0
def F1343_L : Nat → List (Nat × TypeDesc) := fun _ => []
theorem F1343_ok {B : World} {R : Ending → Heap → Prop} (a0 b0 : Int) {h : Heap} (H : F1343 B R a0 b0 h) : Ec B 4 #[.int .i64 a0, .int .i64 b0] R h :=
 Ek Tryz.func4 (by kernel_rfl) (by kernel_rfl) (by kernel_rfl) F1343_L [] (by kernel_rfl) H

/-- plumb/round.ToInt -/
def F1344_j13 (B : World) (R : Po) (a0 : Nat) (b0 : Bool) (c0 : Heap) : Prop :=
(b0 = true →
 R (.returned (.tuple #[.int .i64 (0 : Int), .bool false, .int .i64 (0 : Int)])) c0) ∧
(b0 = false →
 cviW .f64 a0 .i64 fun d0 =>
 R (.returned (.tuple #[.int .i64 d0, .bool true, .int .i64 (0 : Int)])) c0)
def F1344_j15 (B : World) (R : Po) (e0 : Nat) (f0 : Bool) (g0 : Heap) : Prop :=
 F1344_j13 B R e0 (!f0) g0
def F1344_j12 (B : World) (R : Po) (i0 : Nat) (j0 : Heap) : Prop :=
((FloatKind.f64.format.order i0 14114281232179134464 == some .gt || FloatKind.f64.format.order i0 14114281232179134464 == some .eq) = true →
 F1344_j15 B R i0 (FloatKind.f64.format.order i0 4890909195324358656 == some .lt) j0) ∧
((FloatKind.f64.format.order i0 14114281232179134464 == some .gt || FloatKind.f64.format.order i0 14114281232179134464 == some .eq) = false →
 F1344_j15 B R i0 false j0)
def F1344 (B : World) (R : Po) (k0 l0 : Int) (h : Heap) : Prop :=
 Ec B 8 #[.int .i64 k0] (retE (fun m0 n0 => ∃ o0, m0 = .float .f64 o0 ∧
((decide (l0 = (0 : Int))) = true →
 Ec B 13 #[.float .f64 o0] (retE (fun p0 q0 => ∃ r0, p0 = .float .f64 r0 ∧
 F1344_j12 B R r0 q0)
(pk R)) n0) ∧
((decide (l0 = (0 : Int))) = false →
((decide (l0 = (1 : Int))) = true →
 Ec B 14 #[.float .f64 o0] (retE (fun s0 t0 => ∃ u0, s0 = .float .f64 u0 ∧
 F1344_j12 B R u0 t0)
(pk R)) n0) ∧
((decide (l0 = (1 : Int))) = false →
((decide (l0 = (2 : Int))) = true →
 Ec B 15 #[.float .f64 o0] (retE (fun v0 w0 => ∃ x0, v0 = .float .f64 x0 ∧
 F1344_j12 B R x0 w0)
(pk R)) n0) ∧
((decide (l0 = (2 : Int))) = false →
((decide (l0 = (3 : Int))) = true →
 Ec B 16 #[.float .f64 o0] (retE (fun y0 z0 => ∃ a1, y0 = .float .f64 a1 ∧
 F1344_j12 B R a1 z0)
(pk R)) n0) ∧
((decide (l0 = (3 : Int))) = false →
 R (.returned (.tuple #[.int .i64 (0 : Int), .bool false, .int .i64 (1 : Int)])) n0)))))
(pk R)) h
def F1344_L : Nat → List (Nat × TypeDesc) := fun _ => []
def F1344_J (B : World) (R : Po) : Nat → Option JT := fun i => match i with
  | 12 => some ⟨[(7, .float .f64)], fun s v h => match s, v with
    | [], [.float _ i0] => F1344_j12 B R i0 h
    | _, _ => False⟩
  | 13 => some ⟨[(7, .float .f64), (33, .bool)], fun s v h => match s, v with
    | [], [.float _ a0, .bool b0] => F1344_j13 B R a0 b0 h
    | _, _ => False⟩
  | _ => none
theorem F1344_ok {B : World} {R : Ending → Heap → Prop} (k0 l0 : Int) {h : Heap} (H : F1344 B R k0 l0 h) : Ec B 5 #[.int .i64 k0, .int .i64 l0] R h :=
 Ej Tryz.func5 (by kernel_rfl) (by kernel_rfl) (by kernel_rfl) F1344_L (F1344_J B R) [] (by kernel_rfl) (by kernel_rfl) H

/-- plumb/round.FromInt$1 -/
def F1345 (B : World) (R : Po) (a0 : OA) (h : Heap) : Prop :=
 alW h (.cells #[.pointer none, .int .i64 0, .bool false] 36) fun b0 c0 =>
 isP a0 fun d0 e0 => ∃ f0, cI c0 d0 e0 .i64 f0 ∧
 Ec B 12 #[.int .i64 f0] (retE (fun g0 i0 => ∃ j0, g0 = .pointer j0 ∧
 iP b0 0 fun k0 l0 => stC i0 k0 l0 (.pointer j0) fun m0 =>
 stC m0 k0 (l0 + 1) (.int .i64 (0 : Int)) fun n0 =>
 stC n0 k0 (l0 + 1 + 1) (.bool false) fun o0 =>
 iP b0 0 fun p0 q0 =>
∃ r0, cell? o0 ⟨p0, q0, none⟩ = some (.pointer r0) ∧
∃ s0, cell? o0 ⟨p0, q0 + 1, none⟩ = some (.int .i64 s0) ∧
∃ t0, cell? o0 ⟨p0, q0 + 1 + 1, none⟩ = some (.bool t0) ∧
 R (.returned (.agg #[.pointer r0, .int .i64 s0, .bool t0])) o0)
(pk R)) c0
def F1345_L : Nat → List (Nat × TypeDesc) := fun _ => []
theorem F1345_ok {B : World} {R : Ending → Heap → Prop} (a0 : OA) {h : Heap} (H : F1345 B R a0 h) : Ec B 11 #[.pointer a0] R h :=
 Ek Tryz.func11 (by kernel_rfl) (by kernel_rfl) (by kernel_rfl) F1345_L [] (by kernel_rfl) H

/-- math.Floor -/
def F1347 (B : World) (R : Po) (a0 : Nat) (h : Heap) : Prop :=
(true = true →
 Ec B 32 #[.float .f64 a0] (retE (fun b0 c0 => ∃ d0, b0 = .float .f64 d0 ∧
 R (.returned (.float .f64 d0)) c0)
(pk R)) h) ∧
(true = false →
 Ec B 33 #[.float .f64 a0] (retE (fun e0 f0 => ∃ g0, e0 = .float .f64 g0 ∧
 R (.returned (.float .f64 g0)) f0)
(pk R)) h)
def F1347_L : Nat → List (Nat × TypeDesc) := fun _ => []
theorem F1347_ok {B : World} {R : Ending → Heap → Prop} (a0 : Nat) {h : Heap} (H : F1347 B R a0 h) : Ec B 14 #[.float .f64 a0] R h :=
 Ek Tryz.func14 (by kernel_rfl) (by kernel_rfl) (by kernel_rfl) F1347_L [] (by kernel_rfl) H

/-- math.Ceil -/
def F1348 (B : World) (R : Po) (a0 : Nat) (h : Heap) : Prop :=
(true = true →
 Ec B 34 #[.float .f64 a0] (retE (fun b0 c0 => ∃ d0, b0 = .float .f64 d0 ∧
 R (.returned (.float .f64 d0)) c0)
(pk R)) h) ∧
(true = false →
 Ec B 35 #[.float .f64 a0] (retE (fun e0 f0 => ∃ g0, e0 = .float .f64 g0 ∧
 R (.returned (.float .f64 g0)) f0)
(pk R)) h)
def F1348_L : Nat → List (Nat × TypeDesc) := fun _ => []
theorem F1348_ok {B : World} {R : Ending → Heap → Prop} (a0 : Nat) {h : Heap} (H : F1348 B R a0 h) : Ec B 15 #[.float .f64 a0] R h :=
 Ek Tryz.func15 (by kernel_rfl) (by kernel_rfl) (by kernel_rfl) F1348_L [] (by kernel_rfl) H

/-- math.Trunc -/
def F1349 (B : World) (R : Po) (a0 : Nat) (h : Heap) : Prop :=
(true = true →
 Ec B 36 #[.float .f64 a0] (retE (fun b0 c0 => ∃ d0, b0 = .float .f64 d0 ∧
 R (.returned (.float .f64 d0)) c0)
(pk R)) h) ∧
(true = false →
 Ec B 37 #[.float .f64 a0] (retE (fun e0 f0 => ∃ g0, e0 = .float .f64 g0 ∧
 R (.returned (.float .f64 g0)) f0)
(pk R)) h)
def F1349_L : Nat → List (Nat × TypeDesc) := fun _ => []
theorem F1349_ok {B : World} {R : Ending → Heap → Prop} (a0 : Nat) {h : Heap} (H : F1349 B R a0 h) : Ec B 16 #[.float .f64 a0] R h :=
 Ek Tryz.func16 (by kernel_rfl) (by kernel_rfl) (by kernel_rfl) F1349_L [] (by kernel_rfl) H
end Go.Proofs
