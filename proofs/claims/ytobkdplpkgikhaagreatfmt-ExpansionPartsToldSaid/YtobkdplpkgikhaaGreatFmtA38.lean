import Derived.Test.YtobkdplpkgikhaaGreatFmtA09
/- Here stand lemmas and contracts, in the order in which they are used. -/
set_option linter.unusedVariables false
namespace Go.Proofs
open Go Go.Eng
/-- (*math/big.Float).SetInt -/
def F1079_j10 (B : World) (R : Po) (a0 : OA) (b0 : Int) (c0 : Heap) : Prop :=
 isP a0 fun d0 e0 =>
 iP d0 e0 fun f0 g0 =>
 isP (some ⟨f0, g0 + 5, none⟩) fun i0 j0 => ∃ k0 l0 m0, cS c0 i0 j0 k0 l0 m0 ∧
 Ec B 122 #[.slice k0 l0 m0] (retE (fun n0 o0 => ∃ p0, n0 = .int .i64 p0 ∧
 Ec B 123 #[.pointer a0, .int .i64 (IntKind.i64.wrap b0), .int .u64 (0 : Int)] (retE (fun q0 r0 => q0 = .tuple #[] ∧
 R (.returned (.pointer a0)) r0)
(pk R)) o0)
(pk R)) c0
def F1079_j4 (B : World) (R : Po) (s0 t0 : OA) (u0 : Int) (v0 : Heap) : Prop :=
 isP s0 fun w0 x0 =>
 iP w0 x0 fun y0 z0 =>
 isP (some ⟨y0, z0 + 2, none⟩) fun a1 b1 => stC v0 a1 b1 (.int .i8 (0 : Int)) fun c1 =>
 isP t0 fun d1 e1 =>
 iP d1 e1 fun f1 g1 =>
 iP f1 g1 fun i1 j1 => ∃ k1, cell? c1 ⟨i1, j1, none⟩ = some (.bool k1) ∧
 isP s0 fun l1 m1 =>
 iP l1 m1 fun n1 o1 =>
 isP (some ⟨n1, o1 + 4, none⟩) fun p1 q1 => stC c1 p1 q1 (.bool k1) fun r1 =>
 isP t0 fun s1 t1 =>
 iP s1 t1 fun u1 v1 =>
 isP (some ⟨u1, v1 + 1, none⟩) fun w1 x1 => ∃ y1 z1 a2, cS r1 w1 x1 y1 z1 a2 ∧
((decide ((z1 : Int) = (0 : Int))) = true →
 isP s0 fun b2 c2 =>
 iP b2 c2 fun d2 e2 =>
 isP (some ⟨d2, e2 + 3, none⟩) fun f2 g2 => stC r1 f2 g2 (.int .u8 (0 : Int)) fun i2 =>
 R (.returned (.pointer s0)) i2) ∧
((decide ((z1 : Int) = (0 : Int))) = false →
 isP s0 fun j2 k2 =>
 iP j2 k2 fun l2 m2 =>
 isP (some ⟨l2, m2 + 5, none⟩) fun n2 o2 => ∃ p2 q2 r2, cS r1 n2 o2 p2 q2 r2 ∧
 isP t0 fun s2 t2 =>
 iP s2 t2 fun u2 v2 =>
 isP (some ⟨u2, v2 + 1, none⟩) fun w2 x2 => ∃ y2 z2 a3, cS r1 w2 x2 y2 z2 a3 ∧
 Ec B 121 #[.slice p2 q2 r2, .slice y2 z2 a3] (retE (fun b3 c3 => ∃ d3 e3 f3, b3 = .slice d3 e3 f3 ∧
 isP s0 fun g3 i3 =>
 iP g3 i3 fun j3 k3 =>
 isP (some ⟨j3, k3 + 5, none⟩) fun l3 m3 => stC c3 l3 m3 (.slice d3 e3 f3) fun n3 =>
 F1079_j10 B R s0 u0 n3)
(fun _ _ => False)) r1)
def F1079 (B : World) (R : Po) (o3 p3 : OA) (h : Heap) : Prop :=
 Ec B 102 #[.pointer p3] (retE (fun q3 r3 => ∃ s3, q3 = .int .i64 s3 ∧
 isP o3 fun t3 u3 =>
 iP t3 u3 fun v3 w3 =>
 iP v3 w3 fun x3 y3 => ∃ z3, cI r3 x3 y3 .u32 z3 ∧
((decide (z3 = (0 : Int))) = true →
 isP o3 fun a4 b4 =>
 iP a4 b4 fun c4 d4 =>
 iP c4 d4 fun e4 f4 => stC r3 e4 f4 (.int .u32 (if (64 : Int) > (IntKind.u32.wrap s3) then (64 : Int) else (IntKind.u32.wrap s3))) fun g4 =>
 F1079_j4 B R o3 p3 (IntKind.u32.wrap s3) g4) ∧
((decide (z3 = (0 : Int))) = false →
 F1079_j4 B R o3 p3 (IntKind.u32.wrap s3) r3))
(pk R)) h
def F1079_L : Nat → List (Nat × TypeDesc) := fun _ => []
def F1079_J (B : World) (R : Po) : Nat → Option JT := fun i => match i with
  | 4 => some ⟨[(0, .pointer 0), (1, .pointer 0), (5, .int .u32)], fun s v h => match s, v with
    | [], [.pointer s0, .pointer t0, .int _ u0] => F1079_j4 B R s0 t0 u0 h
    | _, _ => False⟩
  | 10 => some ⟨[(0, .pointer 0), (5, .int .u32)], fun s v h => match s, v with
    | [], [.pointer a0, .int _ b0] => F1079_j10 B R a0 b0 h
    | _, _ => False⟩
  | _ => none
theorem F1079_ok {B : World} {R : Ending → Heap → Prop} (o3 p3 : OA) {h : Heap} (H : F1079 B R o3 p3 h) : Ec B 83 #[.pointer o3, .pointer p3] R h :=
 Ej Tryz.func83 (by kernel_rfl) (by kernel_rfl) (by kernel_rfl) F1079_L (F1079_J B R) [] (by kernel_rfl) (by kernel_rfl) H

/-- math/big.fnorm -/
def F1093_j8 (B : World) (R : Po) (a0 : Int) (b0 : Heap) : Prop :=
 R (.returned (.int .i64 (IntKind.i64.wrap a0))) b0
def F1093_j3 (B : World) (R : Po) (c0 : OA) (d0 e0 : Nat) (f0 : Heap) : Prop :=
 ixW c0 d0 (IntKind.i64.wrap ((d0 : Int) - (1 : Int))) 1 fun g0 i0 =>
 iP g0 i0 fun j0 k0 => ∃ l0, cI f0 j0 k0 .u64 l0 ∧
 Ec B 153 #[.int .u64 l0] (retE (fun m0 n0 => ∃ o0, m0 = .int .u64 o0 ∧
((decide ((0 : Int) < o0)) = true →
 Ec B 154 #[.slice c0 d0 e0, .slice c0 d0 e0, .int .u64 o0] (retE (fun p0 q0 => ∃ r0, p0 = .int .u64 r0 ∧
(false = true →
((!decide (r0 = (0 : Int))) = true →
 False) ∧
((!decide (r0 = (0 : Int))) = false →
 F1093_j8 B R o0 q0)) ∧
(false = false →
(false = true →
 False) ∧
(false = false →
 F1093_j8 B R o0 q0)))
(pk R)) n0) ∧
((decide ((0 : Int) < o0)) = false →
 F1093_j8 B R o0 n0))
(pk R)) f0
def F1093 (B : World) (R : Po) (s0 : OA) (t0 u0 : Nat) (h : Heap) : Prop :=
(false = true →
((decide ((t0 : Int) = (0 : Int))) = true →
(true = true →
 False) ∧
(true = false →
 F1093_j3 B R s0 t0 u0 h)) ∧
((decide ((t0 : Int) = (0 : Int))) = false →
 ixW s0 t0 (IntKind.i64.wrap ((t0 : Int) - (1 : Int))) 1 fun v0 w0 =>
 iP v0 w0 fun x0 y0 => ∃ z0, cI h x0 y0 .u64 z0 ∧
((decide (z0 = (0 : Int))) = true →
 False) ∧
((decide (z0 = (0 : Int))) = false →
 F1093_j3 B R s0 t0 u0 h))) ∧
(false = false →
(false = true →
 False) ∧
(false = false →
 F1093_j3 B R s0 t0 u0 h))
def F1093_L : Nat → List (Nat × TypeDesc) := fun _ => []
def F1093_J (B : World) (R : Po) : Nat → Option JT := fun i => match i with
  | 3 => some ⟨[(0, .slice 0)], fun s v h => match s, v with
    | [], [.slice c0 d0 e0] => F1093_j3 B R c0 d0 e0 h
    | _, _ => False⟩
  | 8 => some ⟨[(3, .int .u64)], fun s v h => match s, v with
    | [], [.int _ a0] => F1093_j8 B R a0 h
    | _, _ => False⟩
  | _ => none
theorem F1093_ok {B : World} {R : Ending → Heap → Prop} (s0 : OA) (t0 u0 : Nat) {h : Heap} (H : F1093 B R s0 t0 u0 h) : Ec B 122 #[.slice s0 t0 u0] R h :=
 Ej Tryz.func122 (by kernel_rfl) (by kernel_rfl) (by kernel_rfl) F1093_L (F1093_J B R) [2, 7] (by kernel_rfl) (by kernel_rfl) H

/-- (*math/big.Float).setExpAndRound -/
def F1094 (B : World) (R : Po) (a0 : OA) (b0 c0 : Int) (h : Heap) : Prop :=
((decide (b0 < (-2147483648 : Int))) = true →
 False) ∧
((decide (b0 < (-2147483648 : Int))) = false →
((decide ((2147483647 : Int) < b0)) = true →
 False) ∧
((decide ((2147483647 : Int) < b0)) = false →
 isP a0 fun d0 e0 =>
 iP d0 e0 fun f0 g0 =>
 isP (some ⟨f0, g0 + 3, none⟩) fun i0 j0 => stC h i0 j0 (.int .u8 (1 : Int)) fun k0 =>
 isP a0 fun l0 m0 =>
 iP l0 m0 fun n0 o0 =>
 isP (some ⟨n0, o0 + 6, none⟩) fun p0 q0 => stC k0 p0 q0 (.int .i32 (IntKind.i32.wrap b0)) fun r0 =>
 Ec B 156 #[.pointer a0, .int .u64 c0] (retE (fun s0 t0 => s0 = .tuple #[] ∧
 R (.returned (.tuple #[])) t0)
(pk R)) r0))
def F1094_L : Nat → List (Nat × TypeDesc) := fun _ => []
theorem F1094_ok {B : World} {R : Ending → Heap → Prop} (a0 : OA) (b0 c0 : Int) {h : Heap} (H : F1094 B R a0 b0 c0 h) : Ec B 123 #[.pointer a0, .int .i64 b0, .int .u64 c0] R h :=
 Ek Tryz.func123 (by kernel_rfl) (by kernel_rfl) (by kernel_rfl) F1094_L [1, 2, 4, 5] (by kernel_rfl) H

/-- (*math/big.Float).round -/
def F1110_j40 (B : World) (R : Po) (a0 : OA) (b0 : Int) (c0 : Heap) : Prop :=
 isP a0 fun d0 e0 =>
 iP d0 e0 fun f0 g0 =>
 isP (some ⟨f0, g0 + 5, none⟩) fun i0 j0 => ∃ k0 l0 m0, cS c0 i0 j0 k0 l0 m0 ∧
 ixW k0 l0 (0 : Int) 1 fun n0 o0 =>
 iP n0 o0 fun p0 q0 => ∃ r0, cI c0 p0 q0 .u64 r0 ∧
 ixW k0 l0 (0 : Int) 1 fun s0 t0 =>
 iP s0 t0 fun u0 v0 => stC c0 u0 v0 (.int .u64 (bitsI .andNot .u64 r0 (IntKind.u64.wrap (b0 - (1 : Int))))) fun w0 =>
(false = true →
 False) ∧
(false = false →
 R (.returned (.tuple #[])) w0)
def F1110_j39 (B : World) (R : Po) (x0 : OA) (y0 z0 : Int) (a1 : Heap) : Prop :=
 isP x0 fun b1 c1 =>
 iP b1 c1 fun d1 e1 =>
 isP (some ⟨d1, e1 + 5, none⟩) fun f1 g1 => ∃ i1 j1 k1, cS a1 f1 g1 i1 j1 k1 ∧
 ixW i1 j1 (IntKind.u32.wrap (y0 - (1 : Int))) 1 fun l1 m1 =>
 iP l1 m1 fun n1 o1 => ∃ p1, cI a1 n1 o1 .u64 p1 ∧
 ixW i1 j1 (IntKind.u32.wrap (y0 - (1 : Int))) 1 fun q1 r1 =>
 iP q1 r1 fun s1 t1 => stC a1 s1 t1 (.int .u64 (bitsI .or .u64 p1 (9223372036854775808 : Int))) fun u1 =>
 F1110_j40 B R x0 z0 u1
def F1110_j35 (B : World) (R : Po) (v1 : OA) (w1 x1 : Int) (y1 : Bool) (z1 : Heap) : Prop :=
(y1 = true →
 isP v1 fun a2 b2 =>
 iP a2 b2 fun c2 d2 =>
 isP (some ⟨c2, d2 + 6, none⟩) fun e2 f2 => ∃ g2, cI z1 e2 f2 .i32 g2 ∧
((decide ((2147483647 : Int) ≤ g2)) = true →
 False) ∧
((decide ((2147483647 : Int) ≤ g2)) = false →
 isP v1 fun i2 j2 =>
 iP i2 j2 fun k2 l2 =>
 isP (some ⟨k2, l2 + 6, none⟩) fun m2 n2 => ∃ o2, cI z1 m2 n2 .i32 o2 ∧
 isP v1 fun p2 q2 =>
 iP p2 q2 fun r2 s2 =>
 isP (some ⟨r2, s2 + 6, none⟩) fun t2 u2 => stC z1 t2 u2 (.int .i32 (IntKind.i32.wrap (o2 + (1 : Int)))) fun v2 =>
 isP v1 fun w2 x2 =>
 iP w2 x2 fun y2 z2 =>
 isP (some ⟨y2, z2 + 5, none⟩) fun a3 b3 => ∃ c3 d3 e3, cS v2 a3 b3 c3 d3 e3 ∧
 isP v1 fun f3 g3 =>
 iP f3 g3 fun i3 j3 =>
 isP (some ⟨i3, j3 + 5, none⟩) fun k3 l3 => ∃ m3 n3 o3, cS v2 k3 l3 m3 n3 o3 ∧
 Ec B 166 #[.slice c3 d3 e3, .slice m3 n3 o3, .int .u64 (1 : Int)] (retE (fun p3 q3 => ∃ r3, p3 = .int .u64 r3 ∧
 F1110_j39 B R v1 w1 x1 q3)
(fun _ _ => False)) v2)) ∧
(y1 = false →
 F1110_j40 B R v1 x1 z1)
def F1110_j32 (B : World) (R : Po) (s3 : OA) (t3 u3 : Int) (v3 : Bool) (w3 : Heap) : Prop :=
 isP s3 fun x3 y3 =>
 iP x3 y3 fun z3 a4 =>
 isP (some ⟨z3, a4 + 4, none⟩) fun b4 c4 => ∃ d4, cell? w3 ⟨b4, c4, none⟩ = some (.bool d4) ∧
 Ec B 155 #[.bool (!(v3 == d4))] (retE (fun e4 f4 => ∃ g4, e4 = .int .i8 g4 ∧
 isP s3 fun i4 j4 =>
 iP i4 j4 fun k4 l4 =>
 isP (some ⟨k4, l4 + 2, none⟩) fun m4 n4 => stC f4 m4 n4 (.int .i8 g4) fun o4 =>
(v3 = true →
 isP s3 fun p4 q4 =>
 iP p4 q4 fun r4 s4 =>
 isP (some ⟨r4, s4 + 5, none⟩) fun t4 u4 => ∃ v4 w4 x4, cS o4 t4 u4 v4 w4 x4 ∧
 isP s3 fun y4 z4 =>
 iP y4 z4 fun a5 b5 =>
 isP (some ⟨a5, b5 + 5, none⟩) fun c5 d5 => ∃ e5 f5 g5, cS o4 c5 d5 e5 f5 g5 ∧
 Ec B 168 #[.slice v4 w4 x4, .slice e5 f5 g5, .int .u64 u3] (retE (fun i5 j5 => ∃ k5, i5 = .int .u64 k5 ∧
 F1110_j35 B R s3 t3 u3 (!decide (k5 = (0 : Int))) j5)
(fun _ _ => False)) o4) ∧
(v3 = false →
 F1110_j40 B R s3 u3 o4))
(pk R)) w3
def F1110_j270 (B : World) (R : Po) (l5 : OA) (m5 n5 : Int) (o5 : Bool) (p5 : Heap) : Prop :=
 F1110_j32 B R l5 m5 n5 o5 p5
def F1110_j15 (B : World) (R : Po) (q5 : OA) (r5 s5 t5 : Int) (u5 : Heap) : Prop :=
 isP q5 fun v5 w5 =>
 iP v5 w5 fun x5 y5 =>
 iP x5 y5 fun z5 a6 => ∃ b6, cI u5 z5 a6 .u32 b6 ∧
0 ≤ (IntKind.u32.wrap ((IntKind.u32.wrap (t5 * (64 : Int))) - b6)) ∧
((!decide ((bitsI .or .u64 s5 r5) = (0 : Int))) = true →
 isP q5 fun c6 d6 =>
 iP c6 d6 fun e6 f6 =>
 isP (some ⟨e6, f6 + 1, none⟩) fun g6 i6 => ∃ j6, cI u5 g6 i6 .u8 j6 ∧
((decide (j6 = (4 : Int))) = true →
 False) ∧
((decide (j6 = (4 : Int))) = false →
((decide (j6 = (2 : Int))) = true →
 F1110_j32 B R q5 t5 (IntKind.u64.wrap ((1 : Int) * 2 ^ min (Int.toNat (IntKind.u32.wrap ((IntKind.u32.wrap (t5 * (64 : Int))) - b6))) IntKind.u64.bits)) false u5) ∧
((decide (j6 = (2 : Int))) = false →
((decide (j6 = (0 : Int))) = true →
((!decide (s5 = (0 : Int))) = true →
((!decide (r5 = (0 : Int))) = true →
 F1110_j270 B R q5 t5 (IntKind.u64.wrap ((1 : Int) * 2 ^ min (Int.toNat (IntKind.u32.wrap ((IntKind.u32.wrap (t5 * (64 : Int))) - b6))) IntKind.u64.bits)) true u5) ∧
((!decide (r5 = (0 : Int))) = false →
 isP q5 fun k6 l6 =>
 iP k6 l6 fun m6 n6 =>
 isP (some ⟨m6, n6 + 5, none⟩) fun o6 p6 => ∃ q6 r6 s6, cS u5 o6 p6 q6 r6 s6 ∧
 ixW q6 r6 (0 : Int) 1 fun t6 u6 =>
 iP t6 u6 fun v6 w6 => ∃ x6, cI u5 v6 w6 .u64 x6 ∧
 F1110_j270 B R q5 t5 (IntKind.u64.wrap ((1 : Int) * 2 ^ min (Int.toNat (IntKind.u32.wrap ((IntKind.u32.wrap (t5 * (64 : Int))) - b6))) IntKind.u64.bits)) (!decide ((bitsI .and .u64 x6 (IntKind.u64.wrap ((1 : Int) * 2 ^ min (Int.toNat (IntKind.u32.wrap ((IntKind.u32.wrap (t5 * (64 : Int))) - b6))) IntKind.u64.bits))) = (0 : Int))) u5)) ∧
((!decide (s5 = (0 : Int))) = false →
 F1110_j270 B R q5 t5 (IntKind.u64.wrap ((1 : Int) * 2 ^ min (Int.toNat (IntKind.u32.wrap ((IntKind.u32.wrap (t5 * (64 : Int))) - b6))) IntKind.u64.bits)) false u5)) ∧
((decide (j6 = (0 : Int))) = false →
((decide (j6 = (1 : Int))) = true →
 False) ∧
((decide (j6 = (1 : Int))) = false →
((decide (j6 = (3 : Int))) = true →
 False) ∧
((decide (j6 = (3 : Int))) = false →
((decide (j6 = (5 : Int))) = true →
 False) ∧
((decide (j6 = (5 : Int))) = false →
 False))))))) ∧
((!decide ((bitsI .or .u64 s5 r5) = (0 : Int))) = false →
 F1110_j40 B R q5 (IntKind.u64.wrap ((1 : Int) * 2 ^ min (Int.toNat (IntKind.u32.wrap ((IntKind.u32.wrap (t5 * (64 : Int))) - b6))) IntKind.u64.bits)) u5)
def F1110_j14 (B : World) (R : Po) (y6 : OA) (z6 a7 b7 : Int) (c7 : Heap) : Prop :=
 isP y6 fun d7 e7 =>
 iP d7 e7 fun f7 g7 =>
 isP (some ⟨f7, g7 + 5, none⟩) fun i7 j7 => ∃ k7 l7 m7, cS c7 i7 j7 k7 l7 m7 ∧
 slW l7 m7 none (some (.int .u32 b7)) none fun n7 o7 p7 =>
 isP y6 fun q7 r7 =>
 iP q7 r7 fun s7 t7 =>
 isP (some ⟨s7, t7 + 5, none⟩) fun u7 v7 => stC c7 u7 v7 (.slice (slP k7 n7 p7 1) (o7 - n7) (p7 - n7)) fun w7 =>
 F1110_j15 B R y6 z6 a7 b7 w7
def F1110_j10 (B : World) (R : Po) (x7 : OA) (y7 z7 a8 : Int) (b8 : Heap) : Prop :=
 isP x7 fun c8 d8 =>
 iP c8 d8 fun e8 f8 =>
 iP e8 f8 fun g8 i8 => ∃ j8, cI b8 g8 i8 .u32 j8 ∧
(64 : Int) ≠ 0 ∧
((decide ((IntKind.u32.wrap (Int.tdiv (IntKind.u32.wrap (j8 + (63 : Int))) (64 : Int))) < z7)) = true →
 isP x7 fun k8 l8 =>
 iP k8 l8 fun m8 n8 =>
 isP (some ⟨m8, n8 + 5, none⟩) fun o8 p8 => ∃ q8 r8 s8, cS b8 o8 p8 q8 r8 s8 ∧
 isP x7 fun t8 u8 =>
 iP t8 u8 fun v8 w8 =>
 isP (some ⟨v8, w8 + 5, none⟩) fun x8 y8 => ∃ z8 a9 b9, cS b8 x8 y8 z8 a9 b9 ∧
 slW a9 b9 (some (.int .u32 (IntKind.u32.wrap (z7 - (IntKind.u32.wrap (Int.tdiv (IntKind.u32.wrap (j8 + (63 : Int))) (64 : Int))))))) none none fun c9 d9 e9 =>
 cpW b8 q8 r8 (slP z8 c9 e9 1) (d9 - c9) 1 fun f9 g9 =>
 F1110_j14 B R x7 (bitsI .and .u64 y7 (1 : Int)) a8 (IntKind.u32.wrap (Int.tdiv (IntKind.u32.wrap (j8 + (63 : Int))) (64 : Int))) g9) ∧
((decide ((IntKind.u32.wrap (Int.tdiv (IntKind.u32.wrap (j8 + (63 : Int))) (64 : Int))) < z7)) = false →
 F1110_j15 B R x7 (bitsI .and .u64 y7 (1 : Int)) a8 (IntKind.u32.wrap (Int.tdiv (IntKind.u32.wrap (j8 + (63 : Int))) (64 : Int))) b8)
def F1110_j9 (B : World) (R : Po) (i9 : OA) (j9 k9 l9 m9 : Int) (n9 : Bool) (o9 : Heap) : Prop :=
(n9 = true →
 isP i9 fun p9 q9 =>
 iP p9 q9 fun r9 s9 =>
 isP (some ⟨r9, s9 + 5, none⟩) fun t9 u9 => ∃ v9 w9 x9, cS o9 t9 u9 v9 w9 x9 ∧
 Ec B 126 #[.slice v9 w9 x9, .int .u64 l9] (retE (fun y9 z9 => ∃ a10, y9 = .int .u64 a10 ∧
 F1110_j10 B R i9 a10 k9 m9 z9)
(pk R)) o9) ∧
(n9 = false →
 F1110_j10 B R i9 j9 k9 m9 o9)
def F1110 (B : World) (R : Po) (b10 : OA) (c10 : Int) (h : Heap) : Prop :=
(false = true →
 False) ∧
(false = false →
 isP b10 fun d10 e10 =>
 iP d10 e10 fun f10 g10 =>
 isP (some ⟨f10, g10 + 2, none⟩) fun i10 j10 => stC h i10 j10 (.int .i8 (0 : Int)) fun k10 =>
 isP b10 fun l10 m10 =>
 iP l10 m10 fun n10 o10 =>
 isP (some ⟨n10, o10 + 3, none⟩) fun p10 q10 => ∃ r10, cI k10 p10 q10 .u8 r10 ∧
((!decide (r10 = (1 : Int))) = true →
 R (.returned (.tuple #[])) k10) ∧
((!decide (r10 = (1 : Int))) = false →
 isP b10 fun s10 t10 =>
 iP s10 t10 fun u10 v10 =>
 isP (some ⟨u10, v10 + 5, none⟩) fun w10 x10 => ∃ y10 z10 a11, cS k10 w10 x10 y10 z10 a11 ∧
 isP b10 fun b11 c11 =>
 iP b11 c11 fun d11 e11 =>
 iP d11 e11 fun f11 g11 => ∃ i11, cI k10 f11 g11 .u32 i11 ∧
((decide ((IntKind.u32.wrap ((IntKind.u32.wrap (z10 : Int)) * (64 : Int))) ≤ i11)) = true →
 R (.returned (.tuple #[])) k10) ∧
((decide ((IntKind.u32.wrap ((IntKind.u32.wrap (z10 : Int)) * (64 : Int))) ≤ i11)) = false →
 isP b10 fun j11 k11 =>
 iP j11 k11 fun l11 m11 =>
 iP l11 m11 fun n11 o11 => ∃ p11, cI k10 n11 o11 .u32 p11 ∧
 isP b10 fun q11 r11 =>
 iP q11 r11 fun s11 t11 =>
 isP (some ⟨s11, t11 + 5, none⟩) fun u11 v11 => ∃ w11 x11 y11, cS k10 u11 v11 w11 x11 y11 ∧
 Ec B 175 #[.slice w11 x11 y11, .int .u64 (IntKind.u64.wrap (IntKind.u32.wrap ((IntKind.u32.wrap ((IntKind.u32.wrap ((IntKind.u32.wrap (z10 : Int)) * (64 : Int))) - p11)) - (1 : Int))))] (retE (fun z11 a12 => ∃ b12, z11 = .int .u64 b12 ∧
((decide (c10 = (0 : Int))) = true →
((decide ((bitsI .and .u64 b12 (1 : Int)) = (0 : Int))) = true →
 F1110_j9 B R b10 c10 (IntKind.u32.wrap (z10 : Int)) (IntKind.u64.wrap (IntKind.u32.wrap ((IntKind.u32.wrap ((IntKind.u32.wrap ((IntKind.u32.wrap (z10 : Int)) * (64 : Int))) - p11)) - (1 : Int)))) (bitsI .and .u64 b12 (1 : Int)) true a12) ∧
((decide ((bitsI .and .u64 b12 (1 : Int)) = (0 : Int))) = false →
 isP b10 fun c12 d12 =>
 iP c12 d12 fun e12 f12 =>
 isP (some ⟨e12, f12 + 1, none⟩) fun g12 i12 => ∃ j12, cI a12 g12 i12 .u8 j12 ∧
 F1110_j9 B R b10 c10 (IntKind.u32.wrap (z10 : Int)) (IntKind.u64.wrap (IntKind.u32.wrap ((IntKind.u32.wrap ((IntKind.u32.wrap ((IntKind.u32.wrap (z10 : Int)) * (64 : Int))) - p11)) - (1 : Int)))) (bitsI .and .u64 b12 (1 : Int)) (decide (j12 = (0 : Int))) a12)) ∧
((decide (c10 = (0 : Int))) = false →
 F1110_j9 B R b10 c10 (IntKind.u32.wrap (z10 : Int)) (IntKind.u64.wrap (IntKind.u32.wrap ((IntKind.u32.wrap ((IntKind.u32.wrap ((IntKind.u32.wrap (z10 : Int)) * (64 : Int))) - p11)) - (1 : Int)))) (bitsI .and .u64 b12 (1 : Int)) false a12))
(pk R)) k10)))
def F1110_L : Nat → List (Nat × TypeDesc) := fun _ => []
def F1110_J (B : World) (R : Po) : Nat → Option JT := fun i => match i with
  | 9 => some ⟨[(0, .pointer 0), (1, .int .u64), (4, .int .u32), (6, .int .u64), (7, .int .u64), (63, .bool)], fun s v h => match s, v with
    | [], [.pointer i9, .int _ j9, .int _ k9, .int _ l9, .int _ m9, .bool n9] => F1110_j9 B R i9 j9 k9 l9 m9 n9 h
    | _, _ => False⟩
  | 10 => some ⟨[(0, .pointer 0), (1, .int .u64), (4, .int .u32), (7, .int .u64)], fun s v h => match s, v with
    | [], [.pointer x7, .int _ y7, .int _ z7, .int _ a8] => F1110_j10 B R x7 y7 z7 a8 h
    | _, _ => False⟩
  | 14 => some ⟨[(0, .pointer 0), (1, .int .u64), (7, .int .u64), (8, .int .u32)], fun s v h => match s, v with
    | [], [.pointer y6, .int _ z6, .int _ a7, .int _ b7] => F1110_j14 B R y6 z6 a7 b7 h
    | _, _ => False⟩
  | 15 => some ⟨[(0, .pointer 0), (1, .int .u64), (7, .int .u64), (8, .int .u32)], fun s v h => match s, v with
    | [], [.pointer q5, .int _ r5, .int _ s5, .int _ t5] => F1110_j15 B R q5 r5 s5 t5 h
    | _, _ => False⟩
  | 32 => some ⟨[(0, .pointer 0), (8, .int .u32), (10, .int .u64), (11, .bool)], fun s v h => match s, v with
    | [], [.pointer s3, .int _ t3, .int _ u3, .bool v3] => F1110_j32 B R s3 t3 u3 v3 h
    | _, _ => False⟩
  | 35 => some ⟨[(0, .pointer 0), (8, .int .u32), (10, .int .u64), (182, .bool)], fun s v h => match s, v with
    | [], [.pointer v1, .int _ w1, .int _ x1, .bool y1] => F1110_j35 B R v1 w1 x1 y1 h
    | _, _ => False⟩
  | 39 => some ⟨[(0, .pointer 0), (8, .int .u32), (10, .int .u64)], fun s v h => match s, v with
    | [], [.pointer x0, .int _ y0, .int _ z0] => F1110_j39 B R x0 y0 z0 h
    | _, _ => False⟩
  | 40 => some ⟨[(0, .pointer 0), (10, .int .u64)], fun s v h => match s, v with
    | [], [.pointer a0, .int _ b0] => F1110_j40 B R a0 b0 h
    | _, _ => False⟩
  | _ => none
theorem F1110_ok {B : World} {R : Ending → Heap → Prop} (b10 : OA) (c10 : Int) {h : Heap} (H : F1110 B R b10 c10 h) : Ec B 156 #[.pointer b10, .int .u64 c10] R h :=
 Ej Tryz.func156 (by kernel_rfl) (by kernel_rfl) (by kernel_rfl) F1110_L (F1110_J B R) [0, 22, 27, 29, 31, 20, 36, 41] (by kernel_rfl) (by kernel_rfl) H

/-- (*math/big.Float).SetMantExp -/
def F1080_j6 (B : World) (R : Po) (a0 : OA) (b0 : Heap) : Prop :=
 R (.returned (.pointer a0)) b0
def F1080 (B : World) (R : Po) (c0 d0 : OA) (e0 : Int) (h : Heap) : Prop :=
(false = true →
 False) ∧
(false = false →
 Ec B 125 #[.pointer c0, .pointer d0] (retE (fun f0 g0 => ∃ i0, f0 = .pointer i0 ∧
 isP c0 fun j0 k0 =>
 iP j0 k0 fun l0 m0 =>
 isP (some ⟨l0, m0 + 3, none⟩) fun n0 o0 => ∃ p0, cI g0 n0 o0 .u8 p0 ∧
((decide (p0 = (1 : Int))) = true →
 isP c0 fun q0 r0 =>
 iP q0 r0 fun s0 t0 =>
 isP (some ⟨s0, t0 + 6, none⟩) fun u0 v0 => ∃ w0, cI g0 u0 v0 .i32 w0 ∧
 Ec B 123 #[.pointer c0, .int .i64 (IntKind.i64.wrap ((IntKind.i64.wrap w0) + e0)), .int .u64 (0 : Int)] (retE (fun x0 y0 => x0 = .tuple #[] ∧
 F1080_j6 B R c0 y0)
(pk R)) g0) ∧
((decide (p0 = (1 : Int))) = false →
 F1080_j6 B R c0 g0))
(pk R)) h)
def F1080_L : Nat → List (Nat × TypeDesc) := fun _ => []
def F1080_J (B : World) (R : Po) : Nat → Option JT := fun i => match i with
  | 6 => some ⟨[(0, .pointer 0)], fun s v h => match s, v with
    | [], [.pointer a0] => F1080_j6 B R a0 h
    | _, _ => False⟩
  | _ => none
theorem F1080_ok {B : World} {R : Ending → Heap → Prop} (c0 d0 : OA) (e0 : Int) {h : Heap} (H : F1080 B R c0 d0 e0 h) : Ec B 84 #[.pointer c0, .pointer d0, .int .i64 e0] R h :=
 Ej Tryz.func84 (by kernel_rfl) (by kernel_rfl) (by kernel_rfl) F1080_L (F1080_J B R) [1, 2] (by kernel_rfl) (by kernel_rfl) H

/-- (*math/big.Float).Copy -/
def F1096 (B : World) (R : Po) (a0 b0 : OA) (h : Heap) : Prop :=
(false = true →
 False) ∧
(false = false →
 pEq h a0 b0 fun c0 =>
((!c0) = true →
 False) ∧
((!c0) = false →
 R (.returned (.pointer a0)) h))
def F1096_L : Nat → List (Nat × TypeDesc) := fun _ => []
theorem F1096_ok {B : World} {R : Ending → Heap → Prop} (a0 b0 : OA) {h : Heap} (H : F1096 B R a0 b0 h) : Ec B 125 #[.pointer a0, .pointer b0] R h :=
 Ek Tryz.func125 (by kernel_rfl) (by kernel_rfl) (by kernel_rfl) F1096_L [1, 3, 4, 5, 6, 7, 8, 9, 10] (by kernel_rfl) H

/-- (*math/big.Float).Float64 -/
def F1081_j33 (B : World) (R : Po) (a0 : OA) (b0 c0 d0 : Int) (e0 : Heap) : Prop :=
 isP a0 fun f0 g0 =>
 isP (some ⟨f0, g0 + 2, none⟩) fun i0 j0 => ∃ k0, cI e0 i0 j0 .i8 k0 ∧
 Ec B 46 #[.int .u64 (bitsI .or .u64 (bitsI .or .u64 b0 c0) d0)] (retE (fun l0 m0 => ∃ n0, l0 = .float .f64 n0 ∧
 sameCells e0 m0 i0 j0 1 ∧ R (.returned (.tuple #[.float .f64 n0, .int .i8 k0])) m0)
(fun _ _ => False)) e0
def F1081_j28 (B : World) (R : Po) (o0 : Int) (p0 : OA) (q0 r0 : Int) (s0 : Heap) : Prop :=
((decide (o0 < (-1022 : Int))) = true →
 isP p0 fun t0 u0 =>
 isP (some ⟨t0, u0 + 5, none⟩) fun v0 w0 => ∃ x0 y0 z0, cS s0 v0 w0 x0 y0 z0 ∧
 Ec B 128 #[.slice x0 y0 z0] (retE (fun a1 b1 => ∃ c1, a1 = .int .u64 c1 ∧
0 ≤ (IntKind.u64.wrap (IntKind.i64.wrap ((64 : Int) - (IntKind.i64.wrap ((1075 : Int) + (IntKind.i64.wrap o0)))))) ∧
 F1081_j33 B R p0 q0 r0 (Int.fdiv c1 (2 ^ min (Int.toNat (IntKind.u64.wrap (IntKind.i64.wrap ((64 : Int) - (IntKind.i64.wrap ((1075 : Int) + (IntKind.i64.wrap o0))))))) IntKind.u64.bits)) b1)
(pk R)) s0) ∧
((decide (o0 < (-1022 : Int))) = false →
 0 ≤ (52 : Int) ∧
 isP p0 fun d1 e1 =>
 isP (some ⟨d1, e1 + 5, none⟩) fun f1 g1 => ∃ i1 j1 k1, cS s0 f1 g1 i1 j1 k1 ∧
 Ec B 128 #[.slice i1 j1 k1] (retE (fun l1 m1 => ∃ n1, l1 = .int .u64 n1 ∧
0 ≤ (11 : Int) ∧
 F1081_j33 B R p0 q0 (IntKind.u64.wrap ((IntKind.u64.wrap (IntKind.i32.wrap (o0 + (1023 : Int)))) * 2 ^ min (Int.toNat (52 : Int)) IntKind.u64.bits)) (bitsI .and .u64 (Int.fdiv n1 (2 ^ min (Int.toNat (11 : Int)) IntKind.u64.bits)) (4503599627370495 : Int)) m1)
(pk R)) s0)
def F1081_j22 (B : World) (R : Po) (o1 : OA) (p1 : Int) (q1 : OA) (r1 : Bool) (s1 : Heap) : Prop :=
(r1 = true →
 isP o1 fun t1 u1 =>
 iP t1 u1 fun v1 w1 =>
 isP (some ⟨v1, w1 + 4, none⟩) fun x1 y1 => ∃ z1, cell? s1 ⟨x1, y1, none⟩ = some (.bool z1) ∧
(z1 = true →
 Ec B 79 #[.int .i64 (-1 : Int)] (retE (fun a2 b2 => ∃ c2, a2 = .float .f64 c2 ∧
 R (.returned (.tuple #[.float .f64 c2, .int .i8 (-1 : Int)])) b2)
(pk R)) s1) ∧
(z1 = false →
 Ec B 79 #[.int .i64 (1 : Int)] (retE (fun d2 e2 => ∃ f2, d2 = .float .f64 f2 ∧
 R (.returned (.tuple #[.float .f64 f2, .int .i8 (1 : Int)])) e2)
(pk R)) s1)) ∧
(r1 = false →
 isP o1 fun g2 i2 =>
 iP g2 i2 fun j2 k2 =>
 isP (some ⟨j2, k2 + 4, none⟩) fun l2 m2 => ∃ n2, cell? s1 ⟨l2, m2, none⟩ = some (.bool n2) ∧
(n2 = true →
 F1081_j28 B R p1 q1 (9223372036854775808 : Int) (0 : Int) s1) ∧
(n2 = false →
 F1081_j28 B R p1 q1 (0 : Int) (0 : Int) s1))
def F1081_j17 (B : World) (R : Po) (o2 : OA) (p2 : Int) (q2 : Heap) : Prop :=
 alW q2 (.cells #[.int .u32 0, .int .u8 0, .int .i8 0, .int .u8 0, .bool false, .slice none 0 0, .int .i32 0] 135) fun r2 s2 =>
 iP r2 0 fun t2 u2 =>
 iP t2 u2 fun v2 w2 => stC s2 v2 w2 (.int .u32 (IntKind.u32.wrap p2)) fun x2 =>
 Ec B 127 #[.pointer (some ⟨r2, 0, none⟩), .pointer o2] (retE (fun y2 z2 => ∃ a3, y2 = .pointer a3 ∧
 iP r2 0 fun b3 c3 =>
 isP (some ⟨b3, c3 + 6, none⟩) fun d3 e3 => ∃ f3, cI z2 d3 e3 .i32 f3 ∧
 iP r2 0 fun g3 i3 =>
 isP (some ⟨g3, i3 + 3, none⟩) fun j3 k3 => ∃ l3, cI z2 j3 k3 .u8 l3 ∧
((decide (l3 = (2 : Int))) = true →
 F1081_j22 B R o2 (IntKind.i32.wrap (f3 - (1 : Int))) (some ⟨r2, 0, none⟩) true z2) ∧
((decide (l3 = (2 : Int))) = false →
 F1081_j22 B R o2 (IntKind.i32.wrap (f3 - (1 : Int))) (some ⟨r2, 0, none⟩) (decide ((1023 : Int) < (IntKind.i32.wrap (f3 - (1 : Int))))) z2))
(pk R)) x2
def F1081_j9 (B : World) (R : Po) (m3 : OA) (n3 : Int) (o3 : Bool) (p3 : Heap) : Prop :=
(o3 = true →
 isP m3 fun q3 r3 =>
 iP q3 r3 fun s3 t3 =>
 isP (some ⟨s3, t3 + 4, none⟩) fun u3 v3 => ∃ w3, cell? p3 ⟨u3, v3, none⟩ = some (.bool w3) ∧
(w3 = true →
 R (.returned (.tuple #[.float .f64 (Op.negFloat .f64 0), .int .i8 (1 : Int)])) p3) ∧
(w3 = false →
 R (.returned (.tuple #[.float .f64 0, .int .i8 (-1 : Int)])) p3)) ∧
(o3 = false →
((decide (n3 = (0 : Int))) = true →
 isP m3 fun x3 y3 =>
 iP x3 y3 fun z3 a4 =>
 isP (some ⟨z3, a4 + 4, none⟩) fun b4 c4 => ∃ d4, cell? p3 ⟨b4, c4, none⟩ = some (.bool d4) ∧
(d4 = true →
 R (.returned (.tuple #[.float .f64 9223372036854775809, .int .i8 (-1 : Int)])) p3) ∧
(d4 = false →
 R (.returned (.tuple #[.float .f64 1, .int .i8 (1 : Int)])) p3)) ∧
((decide (n3 = (0 : Int))) = false →
 F1081_j17 B R m3 n3 p3))
def F1081 (B : World) (R : Po) (e4 : OA) (h : Heap) : Prop :=
(false = true →
 False) ∧
(false = false →
 isP e4 fun f4 g4 =>
 iP f4 g4 fun i4 j4 =>
 isP (some ⟨i4, j4 + 3, none⟩) fun k4 l4 => ∃ m4, cI h k4 l4 .u8 m4 ∧
((decide (m4 = (1 : Int))) = true →
 isP e4 fun n4 o4 =>
 iP n4 o4 fun p4 q4 =>
 isP (some ⟨p4, q4 + 6, none⟩) fun r4 s4 => ∃ t4, cI h r4 s4 .i32 t4 ∧
((decide ((IntKind.i32.wrap (t4 - (1 : Int))) < (-1022 : Int))) = true →
((decide ((IntKind.i64.wrap ((1075 : Int) + (IntKind.i64.wrap (IntKind.i32.wrap (t4 - (1 : Int)))))) < (0 : Int))) = true →
 F1081_j9 B R e4 (IntKind.i64.wrap ((1075 : Int) + (IntKind.i64.wrap (IntKind.i32.wrap (t4 - (1 : Int)))))) true h) ∧
((decide ((IntKind.i64.wrap ((1075 : Int) + (IntKind.i64.wrap (IntKind.i32.wrap (t4 - (1 : Int)))))) < (0 : Int))) = false →
((decide ((IntKind.i64.wrap ((1075 : Int) + (IntKind.i64.wrap (IntKind.i32.wrap (t4 - (1 : Int)))))) = (0 : Int))) = true →
 isP e4 fun u4 v4 =>
 iP u4 v4 fun w4 x4 =>
 isP (some ⟨w4, x4 + 5, none⟩) fun y4 z4 => ∃ a5 b5 c5, cS h y4 z4 a5 b5 c5 ∧
 isP e4 fun d5 e5 =>
 iP d5 e5 fun f5 g5 =>
 isP (some ⟨f5, g5 + 5, none⟩) fun i5 j5 => ∃ k5 l5 m5, cS h i5 j5 k5 l5 m5 ∧
 Ec B 126 #[.slice a5 b5 c5, .int .u64 (IntKind.u64.wrap ((IntKind.u64.wrap ((IntKind.u64.wrap (l5 : Int)) * (64 : Int))) - (1 : Int)))] (retE (fun n5 o5 => ∃ p5, n5 = .int .u64 p5 ∧
 F1081_j9 B R e4 (IntKind.i64.wrap ((1075 : Int) + (IntKind.i64.wrap (IntKind.i32.wrap (t4 - (1 : Int)))))) (decide (p5 = (0 : Int))) o5)
(fun _ _ => False)) h) ∧
((decide ((IntKind.i64.wrap ((1075 : Int) + (IntKind.i64.wrap (IntKind.i32.wrap (t4 - (1 : Int)))))) = (0 : Int))) = false →
 F1081_j9 B R e4 (IntKind.i64.wrap ((1075 : Int) + (IntKind.i64.wrap (IntKind.i32.wrap (t4 - (1 : Int)))))) false h))) ∧
((decide ((IntKind.i32.wrap (t4 - (1 : Int))) < (-1022 : Int))) = false →
 F1081_j17 B R e4 (53 : Int) h)) ∧
((decide (m4 = (1 : Int))) = false →
((decide (m4 = (0 : Int))) = true →
 isP e4 fun q5 r5 =>
 iP q5 r5 fun s5 t5 =>
 isP (some ⟨s5, t5 + 4, none⟩) fun u5 v5 => ∃ w5, cell? h ⟨u5, v5, none⟩ = some (.bool w5) ∧
(w5 = true →
 False) ∧
(w5 = false →
 R (.returned (.tuple #[.float .f64 0, .int .i8 (0 : Int)])) h)) ∧
((decide (m4 = (0 : Int))) = false →
 False)))
def F1081_L : Nat → List (Nat × TypeDesc) := fun _ => []
def F1081_J (B : World) (R : Po) : Nat → Option JT := fun i => match i with
  | 9 => some ⟨[(0, .pointer 0), (5, .int .i64), (51, .bool)], fun s v h => match s, v with
    | [], [.pointer m3, .int _ n3, .bool o3] => F1081_j9 B R m3 n3 o3 h
    | _, _ => False⟩
  | 17 => some ⟨[(0, .pointer 0), (5, .int .i64)], fun s v h => match s, v with
    | [], [.pointer o2, .int _ p2] => F1081_j17 B R o2 p2 h
    | _, _ => False⟩
  | 22 => some ⟨[(0, .pointer 0), (4, .int .i32), (7, .pointer 0), (78, .bool)], fun s v h => match s, v with
    | [], [.pointer o1, .int _ p1, .pointer q1, .bool r1] => F1081_j22 B R o1 p1 q1 r1 h
    | _, _ => False⟩
  | 28 => some ⟨[(4, .int .i32), (7, .pointer 0), (8, .int .u64), (9, .int .u64)], fun s v h => match s, v with
    | [], [.int _ o0, .pointer p0, .int _ q0, .int _ r0] => F1081_j28 B R o0 p0 q0 r0 h
    | _, _ => False⟩
  | 33 => some ⟨[(7, .pointer 0), (8, .int .u64), (9, .int .u64), (10, .int .u64)], fun s v h => match s, v with
    | [], [.pointer a0, .int _ b0, .int _ c0, .int _ d0] => F1081_j33 B R a0 b0 c0 d0 h
    | _, _ => False⟩
  | _ => none
theorem F1081_ok {B : World} {R : Ending → Heap → Prop} (e4 : OA) {h : Heap} (H : F1081 B R e4 h) : Ec B 85 #[.pointer e4] R h :=
 Ej Tryz.func85 (by kernel_rfl) (by kernel_rfl) (by kernel_rfl) F1081_L (F1081_J B R) [1, 36, 39, 40, 41, 42, 43] (by kernel_rfl) (by kernel_rfl) H

/-- (*math/big.Float).Set -/
def F1098_j13 (B : World) (R : Po) (a0 : OA) (b0 : Heap) : Prop :=
 R (.returned (.pointer a0)) b0
def F1098_j12 (B : World) (R : Po) (c0 : OA) (d0 : Bool) (e0 : Heap) : Prop :=
(d0 = true →
 Ec B 156 #[.pointer c0, .int .u64 (0 : Int)] (retE (fun f0 g0 => f0 = .tuple #[] ∧
 F1098_j13 B R c0 g0)
(pk R)) e0) ∧
(d0 = false →
 F1098_j13 B R c0 e0)
def F1098_j9 (B : World) (R : Po) (i0 j0 : OA) (k0 : Heap) : Prop :=
 isP i0 fun l0 m0 =>
 iP l0 m0 fun n0 o0 =>
 iP n0 o0 fun p0 q0 => ∃ r0, cI k0 p0 q0 .u32 r0 ∧
((decide (r0 = (0 : Int))) = true →
 False) ∧
((decide (r0 = (0 : Int))) = false →
 isP i0 fun s0 t0 =>
 iP s0 t0 fun u0 v0 =>
 iP u0 v0 fun w0 x0 => ∃ y0, cI k0 w0 x0 .u32 y0 ∧
 isP j0 fun z0 a1 =>
 iP z0 a1 fun b1 c1 =>
 iP b1 c1 fun d1 e1 => ∃ f1, cI k0 d1 e1 .u32 f1 ∧
 F1098_j12 B R i0 (decide (y0 < f1)) k0)
def F1098 (B : World) (R : Po) (g1 i1 : OA) (h : Heap) : Prop :=
(false = true →
 False) ∧
(false = false →
 isP g1 fun j1 k1 =>
 iP j1 k1 fun l1 m1 =>
 isP (some ⟨l1, m1 + 2, none⟩) fun n1 o1 => stC h n1 o1 (.int .i8 (0 : Int)) fun p1 =>
 pEq p1 g1 i1 fun q1 =>
((!q1) = true →
 isP i1 fun r1 s1 =>
 iP r1 s1 fun t1 u1 =>
 isP (some ⟨t1, u1 + 3, none⟩) fun v1 w1 => ∃ x1, cI p1 v1 w1 .u8 x1 ∧
 isP g1 fun y1 z1 =>
 iP y1 z1 fun a2 b2 =>
 isP (some ⟨a2, b2 + 3, none⟩) fun c2 d2 => stC p1 c2 d2 (.int .u8 x1) fun e2 =>
 isP i1 fun f2 g2 =>
 iP f2 g2 fun i2 j2 =>
 isP (some ⟨i2, j2 + 4, none⟩) fun k2 l2 => ∃ m2, cell? e2 ⟨k2, l2, none⟩ = some (.bool m2) ∧
 isP g1 fun n2 o2 =>
 iP n2 o2 fun p2 q2 =>
 isP (some ⟨p2, q2 + 4, none⟩) fun r2 s2 => stC e2 r2 s2 (.bool m2) fun t2 =>
 isP i1 fun u2 v2 =>
 iP u2 v2 fun w2 x2 =>
 isP (some ⟨w2, x2 + 3, none⟩) fun y2 z2 => ∃ a3, cI t2 y2 z2 .u8 a3 ∧
((decide (a3 = (1 : Int))) = true →
 isP i1 fun b3 c3 =>
 iP b3 c3 fun d3 e3 =>
 isP (some ⟨d3, e3 + 6, none⟩) fun f3 g3 => ∃ i3, cI t2 f3 g3 .i32 i3 ∧
 isP g1 fun j3 k3 =>
 iP j3 k3 fun l3 m3 =>
 isP (some ⟨l3, m3 + 6, none⟩) fun n3 o3 => stC t2 n3 o3 (.int .i32 i3) fun p3 =>
 isP g1 fun q3 r3 =>
 iP q3 r3 fun s3 t3 =>
 isP (some ⟨s3, t3 + 5, none⟩) fun u3 v3 => ∃ w3 x3 y3, cS p3 u3 v3 w3 x3 y3 ∧
 isP i1 fun z3 a4 =>
 iP z3 a4 fun b4 c4 =>
 isP (some ⟨b4, c4 + 5, none⟩) fun d4 e4 => ∃ f4 g4 i4, cS p3 d4 e4 f4 g4 i4 ∧
 Ec B 121 #[.slice w3 x3 y3, .slice f4 g4 i4] (retE (fun j4 k4 => ∃ l4 m4 n4, j4 = .slice l4 m4 n4 ∧
 isP g1 fun o4 p4 =>
 iP o4 p4 fun q4 r4 =>
 isP (some ⟨q4, r4 + 5, none⟩) fun s4 t4 => stC k4 s4 t4 (.slice l4 m4 n4) fun u4 =>
 F1098_j9 B R g1 i1 u4)
(fun _ _ => False)) p3) ∧
((decide (a3 = (1 : Int))) = false →
 F1098_j9 B R g1 i1 t2)) ∧
((!q1) = false →
 F1098_j13 B R g1 p1))
def F1098_L : Nat → List (Nat × TypeDesc) := fun _ => []
def F1098_J (B : World) (R : Po) : Nat → Option JT := fun i => match i with
  | 9 => some ⟨[(0, .pointer 0), (1, .pointer 0)], fun s v h => match s, v with
    | [], [.pointer i0, .pointer j0] => F1098_j9 B R i0 j0 h
    | _, _ => False⟩
  | 12 => some ⟨[(0, .pointer 0), (71, .bool)], fun s v h => match s, v with
    | [], [.pointer c0, .bool d0] => F1098_j12 B R c0 d0 h
    | _, _ => False⟩
  | 13 => some ⟨[(0, .pointer 0)], fun s v h => match s, v with
    | [], [.pointer a0] => F1098_j13 B R a0 h
    | _, _ => False⟩
  | _ => none
theorem F1098_ok {B : World} {R : Ending → Heap → Prop} (g1 i1 : OA) {h : Heap} (H : F1098 B R g1 i1 h) : Ec B 127 #[.pointer g1, .pointer i1] R h :=
 Ej Tryz.func127 (by kernel_rfl) (by kernel_rfl) (by kernel_rfl) F1098_L (F1098_J B R) [1, 10] (by kernel_rfl) (by kernel_rfl) H

/-- (math/big.nat).sticky -/
def F1097 (B : World) (R : Po) (a0 : OA) (b0 c0 : Nat) (d0 : Int) (h : Heap) : Prop :=
(64 : Int) ≠ 0 ∧
((decide ((IntKind.u64.wrap (b0 : Int)) ≤ (IntKind.u64.wrap (Int.tdiv d0 (64 : Int))))) = true →
((decide ((b0 : Int) = (0 : Int))) = true →
 R (.returned (.int .u64 (0 : Int))) h) ∧
((decide ((b0 : Int) = (0 : Int))) = false →
 R (.returned (.int .u64 (1 : Int))) h)) ∧
((decide ((IntKind.u64.wrap (b0 : Int)) ≤ (IntKind.u64.wrap (Int.tdiv d0 (64 : Int))))) = false →
 slW b0 c0 none (some (.int .u64 (IntKind.u64.wrap (Int.tdiv d0 (64 : Int))))) none fun e0 f0 g0 =>
∃ i0 : Lp, ∃ j0, i0 j0 [.slice a0 b0 c0, .int .u64 d0, .int .u64 (IntKind.u64.wrap (Int.tdiv d0 (64 : Int))), .slice (slP a0 e0 g0 1) (f0 - e0) (g0 - e0), .int .i64 ((f0 - e0 : Nat) : Int), .int .i64 (0 : Int)] h ∧
∀ (k0 : Nat) (l0 : Heap) (m0 : OA) (n0 o0 : Nat) (p0 q0 : Int) (r0 : OA) (s0 t0 : Nat) (u0 v0 : Int), i0 k0 [.slice m0 n0 o0, .int .u64 p0, .int .u64 q0, .slice r0 s0 t0, .int .i64 u0, .int .i64 v0] l0 → ∀ _r : Nat → Value,
((decide (v0 < u0)) = true →
 ixW r0 s0 v0 1 fun w0 x0 =>
 iP w0 x0 fun y0 z0 => ∃ a1, cI l0 y0 z0 .u64 a1 ∧
((!decide (a1 = (0 : Int))) = true →
 R (.returned (.int .u64 (1 : Int))) l0) ∧
((!decide (a1 = (0 : Int))) = false →
 ∃ b1, b1 < k0 ∧ i0 b1 [.slice m0 n0 o0, .int .u64 p0, .int .u64 q0, .slice r0 s0 t0, .int .i64 u0, .int .i64 (IntKind.i64.wrap (v0 + (1 : Int)))] l0)) ∧
((decide (v0 < u0)) = false →
 ixW m0 n0 q0 1 fun c1 d1 =>
 iP c1 d1 fun e1 f1 => ∃ g1, cI l0 e1 f1 .u64 g1 ∧
(64 : Int) ≠ 0 ∧
0 ≤ (IntKind.u64.wrap ((64 : Int) - (Int.tmod p0 (64 : Int)))) ∧
((!decide ((IntKind.u64.wrap (g1 * 2 ^ min (Int.toNat (IntKind.u64.wrap ((64 : Int) - (Int.tmod p0 (64 : Int))))) IntKind.u64.bits)) = (0 : Int))) = true →
 R (.returned (.int .u64 (1 : Int))) l0) ∧
((!decide ((IntKind.u64.wrap (g1 * 2 ^ min (Int.toNat (IntKind.u64.wrap ((64 : Int) - (Int.tmod p0 (64 : Int))))) IntKind.u64.bits)) = (0 : Int))) = false →
 R (.returned (.int .u64 (0 : Int))) l0)))
def F1097_L : Nat → List (Nat × TypeDesc) := fun i => match i with
  | 7 => [(0, .slice 0), (1, .int .u64), (5, .int .u64), (20, .slice 0), (21, .int .i64), (22, .int .i64)]
  | _ => []
theorem F1097_ok {B : World} {R : Ending → Heap → Prop} (a0 : OA) (b0 c0 : Nat) (d0 : Int) {h : Heap} (H : F1097 B R a0 b0 c0 d0 h) : Ec B 126 #[.slice a0 b0 c0, .int .u64 d0] R h :=
 Ek Tryz.func126 (by kernel_rfl) (by kernel_rfl) (by kernel_rfl) F1097_L [] (by kernel_rfl) H

/-- (math/big.nat).bit -/
def F1128 (B : World) (R : Po) (a0 : OA) (b0 c0 : Nat) (d0 : Int) (h : Heap) : Prop :=
(64 : Int) ≠ 0 ∧
((decide ((IntKind.u64.wrap (b0 : Int)) ≤ (IntKind.u64.wrap (Int.tdiv d0 (64 : Int))))) = true →
 R (.returned (.int .u64 (0 : Int))) h) ∧
((decide ((IntKind.u64.wrap (b0 : Int)) ≤ (IntKind.u64.wrap (Int.tdiv d0 (64 : Int))))) = false →
 ixW a0 b0 (IntKind.u64.wrap (Int.tdiv d0 (64 : Int))) 1 fun e0 f0 =>
 iP e0 f0 fun g0 i0 => ∃ j0, cI h g0 i0 .u64 j0 ∧
(64 : Int) ≠ 0 ∧
0 ≤ (Int.tmod d0 (64 : Int)) ∧
 R (.returned (.int .u64 (bitsI .and .u64 (Int.fdiv j0 (2 ^ min (Int.toNat (Int.tmod d0 (64 : Int))) IntKind.u64.bits)) (1 : Int)))) h)
def F1128_L : Nat → List (Nat × TypeDesc) := fun _ => []
theorem F1128_ok {B : World} {R : Ending → Heap → Prop} (a0 : OA) (b0 c0 : Nat) (d0 : Int) {h : Heap} (H : F1128 B R a0 b0 c0 d0 h) : Ec B 175 #[.slice a0 b0 c0, .int .u64 d0] R h :=
 Ek Tryz.func175 (by kernel_rfl) (by kernel_rfl) (by kernel_rfl) F1128_L [] (by kernel_rfl) H

/-- math/big.msb64 -/
def F1099_j10 (B : World) (R : Po) (a0 : Int) (b0 : Heap) : Prop :=
 R (.returned (.int .u64 a0)) b0
def F1099_j5 (B : World) (R : Po) (c0 : OA) (d0 e0 : Nat) (f0 : Int) (g0 : Bool) (i0 : Heap) : Prop :=
(g0 = true →
 R (.panicked [{ v := .iface 9 (.string ⟨#[120, 32, 110, 111, 116, 32, 110, 111, 114, 109, 97, 108, 105, 122, 101, 100]⟩), recovered := false }]) i0) ∧
(g0 = false →
((decide ((64 : Int) = (32 : Int))) = true →
 ixW c0 d0 f0 1 fun j0 k0 =>
 iP j0 k0 fun l0 m0 => ∃ n0, cI i0 l0 m0 .u64 n0 ∧
0 ≤ (32 : Int) ∧
((decide ((0 : Int) < f0)) = true →
 ixW c0 d0 (IntKind.i64.wrap (f0 - (1 : Int))) 1 fun o0 p0 =>
 iP o0 p0 fun q0 r0 => ∃ s0, cI i0 q0 r0 .u64 s0 ∧
 F1099_j10 B R (bitsI .or .u64 (IntKind.u64.wrap (n0 * 2 ^ min (Int.toNat (32 : Int)) IntKind.u64.bits)) s0) i0) ∧
((decide ((0 : Int) < f0)) = false →
 F1099_j10 B R (IntKind.u64.wrap (n0 * 2 ^ min (Int.toNat (32 : Int)) IntKind.u64.bits)) i0)) ∧
((decide ((64 : Int) = (32 : Int))) = false →
((decide ((64 : Int) = (64 : Int))) = true →
 ixW c0 d0 f0 1 fun t0 u0 =>
 iP t0 u0 fun v0 w0 => ∃ x0, cI i0 v0 w0 .u64 x0 ∧
 R (.returned (.int .u64 x0)) i0) ∧
((decide ((64 : Int) = (64 : Int))) = false →
 R (.panicked [{ v := .iface 9 (.string ⟨#[117, 110, 114, 101, 97, 99, 104, 97, 98, 108, 101]⟩), recovered := false }]) i0)))
def F1099 (B : World) (R : Po) (y0 : OA) (z0 a1 : Nat) (h : Heap) : Prop :=
((decide ((IntKind.i64.wrap ((z0 : Int) - (1 : Int))) < (0 : Int))) = true →
 R (.returned (.int .u64 (0 : Int))) h) ∧
((decide ((IntKind.i64.wrap ((z0 : Int) - (1 : Int))) < (0 : Int))) = false →
(false = true →
 ixW y0 z0 (IntKind.i64.wrap ((z0 : Int) - (1 : Int))) 1 fun b1 c1 =>
 iP b1 c1 fun d1 e1 => ∃ f1, cI h d1 e1 .u64 f1 ∧
 F1099_j5 B R y0 z0 a1 (IntKind.i64.wrap ((z0 : Int) - (1 : Int))) (decide ((bitsI .and .u64 f1 (9223372036854775808 : Int)) = (0 : Int))) h) ∧
(false = false →
 F1099_j5 B R y0 z0 a1 (IntKind.i64.wrap ((z0 : Int) - (1 : Int))) false h))
def F1099_L : Nat → List (Nat × TypeDesc) := fun _ => []
def F1099_J (B : World) (R : Po) : Nat → Option JT := fun i => match i with
  | 5 => some ⟨[(0, .slice 0), (3, .int .i64), (17, .bool)], fun s v h => match s, v with
    | [], [.slice c0 d0 e0, .int _ f0, .bool g0] => F1099_j5 B R c0 d0 e0 f0 g0 h
    | _, _ => False⟩
  | 10 => some ⟨[(4, .int .u64)], fun s v h => match s, v with
    | [], [.int _ a0] => F1099_j10 B R a0 h
    | _, _ => False⟩
  | _ => none
theorem F1099_ok {B : World} {R : Ending → Heap → Prop} (y0 : OA) (z0 a1 : Nat) {h : Heap} (H : F1099 B R y0 z0 a1 h) : Ec B 128 #[.slice y0 z0 a1] R h :=
 Ej Tryz.func128 (by kernel_rfl) (by kernel_rfl) (by kernel_rfl) F1099_L (F1099_J B R) [] (by kernel_rfl) (by kernel_rfl) H

/-- math/big.nlz -/
def F1108 (B : World) (R : Po) (a0 : Int) (h : Heap) : Prop :=
 Ec B 174 #[.int .u64 a0] (retE (fun b0 c0 => ∃ d0, b0 = .int .i64 d0 ∧
 R (.returned (.int .u64 (IntKind.u64.wrap d0))) c0)
(pk R)) h
def F1108_L : Nat → List (Nat × TypeDesc) := fun _ => []
theorem F1108_ok {B : World} {R : Ending → Heap → Prop} (a0 : Int) {h : Heap} (H : F1108 B R a0 h) : Ec B 153 #[.int .u64 a0] R h :=
 Ek Tryz.func153 (by kernel_rfl) (by kernel_rfl) (by kernel_rfl) F1108_L [] (by kernel_rfl) H

/-- math/big.makeAcc -/
def F1109 (B : World) (R : Po) (a0 : Bool) (h : Heap) : Prop :=
(a0 = true →
 R (.returned (.int .i8 (1 : Int))) h) ∧
(a0 = false →
 R (.returned (.int .i8 (-1 : Int))) h)
def F1109_L : Nat → List (Nat × TypeDesc) := fun _ => []
theorem F1109_ok {B : World} {R : Ending → Heap → Prop} (a0 : Bool) {h : Heap} (H : F1109 B R a0 h) : Ec B 155 #[.bool a0] R h :=
 Ek Tryz.func155 (by kernel_rfl) (by kernel_rfl) (by kernel_rfl) F1109_L [] (by kernel_rfl) H

/-- math/bits.LeadingZeros -/
def F1127 (B : World) (R : Po) (a0 : Int) (h : Heap) : Prop :=
 Ec B 170 #[.int .u64 a0] (retE (fun b0 c0 => ∃ d0, b0 = .int .i64 d0 ∧
 R (.returned (.int .i64 (IntKind.i64.wrap ((64 : Int) - d0)))) c0)
(pk R)) h
def F1127_L : Nat → List (Nat × TypeDesc) := fun _ => []
theorem F1127_ok {B : World} {R : Ending → Heap → Prop} (a0 : Int) {h : Heap} (H : F1127 B R a0 h) : Ec B 174 #[.int .u64 a0] R h :=
 Ek Tryz.func174 (by kernel_rfl) (by kernel_rfl) (by kernel_rfl) F1127_L [] (by kernel_rfl) H

end Go.Proofs
