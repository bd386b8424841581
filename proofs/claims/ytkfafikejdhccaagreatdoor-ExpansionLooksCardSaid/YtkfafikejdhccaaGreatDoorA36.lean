import Derived.Test.YtkfafikejdhccaaGreatDoorA20
/- Here stand lemmas: what compressing and looking come to (written by program). -/
set_option linter.unusedVariables false
namespace Go.Proofs
open Go Go.Eng
/-- plumb/expansion.Compress -/
def F46_j131 (B : World) (R : Po) (a0 b0 : OA) (c0 : Lp) (d0 : Nat) (e0 : OA) (f0 g0 : Nat) (i0 j0 : OA) (k0 : Int) (l0 : OA) (m0 n0 : Nat) (o0 p0 q0 r0 : Int) (s0 t0 : OA) (u0 : Heap) : Prop :=
([{ target := .fn (.func 86) #[], args := #[.pointer s0, .pointer t0] }] : List Deferred) = [{ target := .fn (.func 86) #[], args := #[.pointer a0, .pointer b0] }] ∧ ∃ v0, v0 < d0 ∧ c0 v0 [.slice e0 f0 g0, .pointer i0, .pointer j0, .int .i64 k0, .slice l0 m0 n0, .int .i64 o0, .int .i64 p0, .int .i64 q0, .int .i64 (IntKind.i64.wrap (r0 + (1 : Int)))] u0
def F46_j24 (B : World) (R : Po) (w0 : OA) (x0 y0 : Nat) (z0 a1 : OA) (b1 : Int) (c1 : Bool) (a0 b0 : OA) (d1 : Heap) : Prop :=
(c1 = true →
 isP z0 fun e1 f1 => stC d1 e1 f1 (.slice none 0 0) fun g1 =>
 isP a1 fun i1 j1 => stC g1 i1 j1 (.int .i64 b1) fun k1 =>
 Enters Tryz.prog 86 ∧ FnD Tryz.prog B 86 #[.pointer a0, .pointer b0] .returning (dfE fun l1 m1 => lvW (fun n1 => isP z0 fun o1 p1 => ∃ q1 r1 s1, cS n1 o1 p1 q1 r1 s1 ∧
 isP a1 fun t1 u1 => ∃ v1, cI n1 t1 u1 .i64 v1 ∧
 R (.returned (.tuple #[.slice q1 r1 s1, .int .i64 v1])) n1) (pk R) l1 m1) k1) ∧
(c1 = false →
 0 ≤ (x0 : Int) ∧ (x0 : Int) ≤ (x0 : Int) ∧ 8 * (x0 : Int) ≤ 281474976710656 ∧ (x0 : Int) < 9223372036854775808 ∧
 alW d1 (.cells (mkCells #[.int .i64 0] (Int.toNat (x0 : Int) * 1)) 3) fun w1 x1 =>
 ixW w0 x0 (IntKind.i64.wrap ((x0 : Int) - (1 : Int))) 1 fun y1 z1 =>
 iP y1 z1 fun a2 b2 => ∃ c2, cI x1 a2 b2 .i64 c2 ∧
∃ c0 : Lp, ∃ d2, c0 d2 [.slice w0 x0 y0, .pointer z0, .pointer a1, .int .i64 (x0 : Int), .slice (some ⟨w1, 0, none⟩) (Int.toNat (x0 : Int)) (Int.toNat (x0 : Int)), .int .i64 (x0 : Int), .int .i64 c2, .int .i64 (IntKind.i64.wrap ((x0 : Int) - (1 : Int))), .int .i64 (0 : Int)] x1 ∧
∀ (d0 : Nat) (e2 : Heap) (f2 : OA) (g2 i2 : Nat) (j2 k2 : OA) (l2 : Int) (m2 : OA) (n2 o2 : Nat) (p2 q2 r2 s2 : Int), c0 d0 [.slice f2 g2 i2, .pointer j2, .pointer k2, .int .i64 l2, .slice m2 n2 o2, .int .i64 p2, .int .i64 q2, .int .i64 r2, .int .i64 s2] e2 → ∀ _r : Nat → Value,
((decide (s2 < r2)) = true →
 ixW f2 g2 (IntKind.i64.wrap ((IntKind.i64.wrap (l2 - (2 : Int))) - s2)) 1 fun t2 u2 =>
 iP t2 u2 fun v2 w2 => ∃ x2, cI e2 v2 w2 .i64 x2 ∧
 Ec B 20 #[.int .i64 q2, .int .i64 x2] (retE (fun y2 z2 => ∃ a3 b3 c3, y2 = .tuple #[.int .i64 a3, .int .i64 b3, .bool c3] ∧
 Ec B 107 #[.int .i64 a3, .int .i64 b3, .bool c3] (retE (fun d3 e3 => ∃ f3 g3, d3 = .tuple #[.int .i64 f3, .int .i64 g3] ∧
 Ec B 17 #[.int .i64 g3] (retE (fun i3 j3 => ∃ k3, i3 = .int .i64 k3 ∧
((!decide (k3 = (0 : Int))) = true →
 ixW m2 n2 (IntKind.i64.wrap (p2 - (1 : Int))) 1 fun l3 m3 =>
 iP l3 m3 fun n3 o3 => stC j3 n3 o3 (.int .i64 f3) fun p3 =>
 F46_j131 B R a0 b0 c0 d0 f2 g2 i2 j2 k2 l2 m2 n2 o2 (IntKind.i64.wrap (p2 - (1 : Int))) g3 r2 s2 a0 b0 p3) ∧
((!decide (k3 = (0 : Int))) = false →
 F46_j131 B R a0 b0 c0 d0 f2 g2 i2 j2 k2 l2 m2 n2 o2 p2 f3 r2 s2 a0 b0 j3))
(fun q3 r3 => Enters Tryz.prog 86 ∧ FnD Tryz.prog B 86 #[.pointer a0, .pointer b0] (.panicking q3) (dfE fun s3 t3 => lvW (fun u3 => isP j2 fun v3 w3 => ∃ x3 y3 z3, cS u3 v3 w3 x3 y3 z3 ∧
 isP k2 fun a4 b4 => ∃ c4, cI u3 a4 b4 .i64 c4 ∧
 R (.returned (.tuple #[.slice x3 y3 z3, .int .i64 c4])) u3) (pk R) s3 t3) r3)) e3)
(fun d4 e4 => Enters Tryz.prog 86 ∧ FnD Tryz.prog B 86 #[.pointer a0, .pointer b0] (.panicking d4) (dfE fun f4 g4 => lvW (fun i4 => isP j2 fun j4 k4 => ∃ l4 m4 n4, cS i4 j4 k4 l4 m4 n4 ∧
 isP k2 fun o4 p4 => ∃ q4, cI i4 o4 p4 .i64 q4 ∧
 R (.returned (.tuple #[.slice l4 m4 n4, .int .i64 q4])) i4) (pk R) f4 g4) e4)) z2)
(fun r4 s4 => Enters Tryz.prog 86 ∧ FnD Tryz.prog B 86 #[.pointer a0, .pointer b0] (.panicking r4) (dfE fun t4 u4 => lvW (fun v4 => isP j2 fun w4 x4 => ∃ y4 z4 a5, cS v4 w4 x4 y4 z4 a5 ∧
 isP k2 fun b5 c5 => ∃ d5, cI v4 b5 c5 .i64 d5 ∧
 R (.returned (.tuple #[.slice y4 z4 a5, .int .i64 d5])) v4) (pk R) t4 u4) s4)) e2) ∧
((decide (s2 < r2)) = false →
 ixW m2 n2 (IntKind.i64.wrap (p2 - (1 : Int))) 1 fun e5 f5 =>
 iP e5 f5 fun g5 i5 => stC e2 g5 i5 (.int .i64 q2) fun j5 =>
 ixW m2 n2 (IntKind.i64.wrap (p2 - (1 : Int))) 1 fun k5 l5 =>
 iP k5 l5 fun m5 n5 => ∃ o5, cI j5 m5 n5 .i64 o5 ∧
 slW n2 o2 (some (.int .i64 (IntKind.i64.wrap ((IntKind.i64.wrap (p2 - (1 : Int))) + (1 : Int))))) none none fun p5 q5 r5 =>
∃ s5 : Lp, ∃ t5, s5 t5 [.pointer j2, .pointer k2, .int .i64 o5, .slice none 0 0, .slice (slP m2 p5 r5 1) (q5 - p5) (r5 - p5), .int .i64 ((q5 - p5 : Nat) : Int), .int .i64 (0 : Int)] j5 ∧
∀ (u5 : Nat) (v5 : Heap) (w5 x5 : OA) (y5 : Int) (z5 : OA) (a6 b6 : Nat) (c6 : OA) (d6 e6 : Nat) (f6 g6 : Int), s5 u5 [.pointer w5, .pointer x5, .int .i64 y5, .slice z5 a6 b6, .slice c6 d6 e6, .int .i64 f6, .int .i64 g6] v5 → ∀ _r : Nat → Value,
((decide (g6 < f6)) = true →
 ixW c6 d6 g6 1 fun i6 j6 =>
 iP i6 j6 fun k6 l6 => ∃ m6, cI v5 k6 l6 .i64 m6 ∧
 Ec B 20 #[.int .i64 m6, .int .i64 y5] (retE (fun n6 o6 => ∃ p6 q6 r6, n6 = .tuple #[.int .i64 p6, .int .i64 q6, .bool r6] ∧
 Ec B 107 #[.int .i64 p6, .int .i64 q6, .bool r6] (retE (fun s6 t6 => ∃ u6 v6, s6 = .tuple #[.int .i64 u6, .int .i64 v6] ∧
 Ec B 108 #[.slice z5 a6 b6, .int .i64 v6] (retE (fun w6 x6 => ∃ y6 z6 a7, w6 = .slice y6 z6 a7 ∧
([{ target := .fn (.func 86) #[], args := #[.pointer a0, .pointer b0] }] : List Deferred) = [{ target := .fn (.func 86) #[], args := #[.pointer a0, .pointer b0] }] ∧ ∃ b7, b7 < u5 ∧ s5 b7 [.pointer w5, .pointer x5, .int .i64 u6, .slice y6 z6 a7, .slice c6 d6 e6, .int .i64 f6, .int .i64 (IntKind.i64.wrap (g6 + (1 : Int)))] x6)
(fun c7 d7 => Enters Tryz.prog 86 ∧ FnD Tryz.prog B 86 #[.pointer a0, .pointer b0] (.panicking c7) (dfE fun e7 f7 => lvW (fun g7 => isP w5 fun i7 j7 => ∃ k7 l7 m7, cS g7 i7 j7 k7 l7 m7 ∧
 isP x5 fun n7 o7 => ∃ p7, cI g7 n7 o7 .i64 p7 ∧
 R (.returned (.tuple #[.slice k7 l7 m7, .int .i64 p7])) g7) (pk R) e7 f7) d7)) t6)
(fun q7 r7 => Enters Tryz.prog 86 ∧ FnD Tryz.prog B 86 #[.pointer a0, .pointer b0] (.panicking q7) (dfE fun s7 t7 => lvW (fun u7 => isP w5 fun v7 w7 => ∃ x7 y7 z7, cS u7 v7 w7 x7 y7 z7 ∧
 isP x5 fun a8 b8 => ∃ c8, cI u7 a8 b8 .i64 c8 ∧
 R (.returned (.tuple #[.slice x7 y7 z7, .int .i64 c8])) u7) (pk R) s7 t7) r7)) o6)
(fun d8 e8 => Enters Tryz.prog 86 ∧ FnD Tryz.prog B 86 #[.pointer a0, .pointer b0] (.panicking d8) (dfE fun f8 g8 => lvW (fun i8 => isP w5 fun j8 k8 => ∃ l8 m8 n8, cS i8 j8 k8 l8 m8 n8 ∧
 isP x5 fun o8 p8 => ∃ q8, cI i8 o8 p8 .i64 q8 ∧
 R (.returned (.tuple #[.slice l8 m8 n8, .int .i64 q8])) i8) (pk R) f8 g8) e8)) v5) ∧
((decide (g6 < f6)) = false →
 Ec B 108 #[.slice z5 a6 b6, .int .i64 y5] (retE (fun r8 s8 => ∃ t8 u8 v8, r8 = .slice t8 u8 v8 ∧
 Ec B 89 #[.slice t8 u8 v8] (retE (fun w8 x8 => ∃ y8 z8 a9 b9, w8 = .tuple #[.slice y8 z8 a9, .int .i64 b9] ∧
 isP w5 fun c9 d9 => stC x8 c9 d9 (.slice y8 z8 a9) fun e9 =>
 isP x5 fun f9 g9 => stC e9 f9 g9 (.int .i64 b9) fun i9 =>
 Enters Tryz.prog 86 ∧ FnD Tryz.prog B 86 #[.pointer a0, .pointer b0] .returning (dfE fun j9 k9 => lvW (fun l9 => isP w5 fun m9 n9 => ∃ o9 p9 q9, cS l9 m9 n9 o9 p9 q9 ∧
 isP x5 fun r9 s9 => ∃ t9, cI l9 r9 s9 .i64 t9 ∧
 R (.returned (.tuple #[.slice o9 p9 q9, .int .i64 t9])) l9) (pk R) j9 k9) i9)
(fun u9 v9 => Enters Tryz.prog 86 ∧ FnD Tryz.prog B 86 #[.pointer a0, .pointer b0] (.panicking u9) (dfE fun w9 x9 => lvW (fun y9 => isP w5 fun z9 a10 => ∃ b10 c10 d10, cS y9 z9 a10 b10 c10 d10 ∧
 isP x5 fun e10 f10 => ∃ g10, cI y9 e10 f10 .i64 g10 ∧
 R (.returned (.tuple #[.slice b10 c10 d10, .int .i64 g10])) y9) (pk R) w9 x9) v9)) s8)
(fun i10 j10 => Enters Tryz.prog 86 ∧ FnD Tryz.prog B 86 #[.pointer a0, .pointer b0] (.panicking i10) (dfE fun k10 l10 => lvW (fun m10 => isP w5 fun n10 o10 => ∃ p10 q10 r10, cS m10 n10 o10 p10 q10 r10 ∧
 isP x5 fun s10 t10 => ∃ u10, cI m10 s10 t10 .i64 u10 ∧
 R (.returned (.tuple #[.slice p10 q10 r10, .int .i64 u10])) m10) (pk R) k10 l10) j10)) v5)))
def F46 (B : World) (R : Po) (v10 : OA) (w10 x10 : Nat) (h : Heap) : Prop :=
 alW h (.cells #[.slice none 0 0] 27) fun y10 z10 =>
 alW z10 (.cells #[.int .i64 0] 30) fun a11 b11 =>
 alW b11 (.cells #[.slice v10 w10 x10] 27) fun c11 d11 =>
 Ec B 87 #[.slice (some ⟨c11, 0, none⟩) 1 1] (retE (fun e11 f11 => ∃ g11, e11 = .int .i64 g11 ∧
((!decide (g11 = (0 : Int))) = true →
 F46_j24 B R v10 w10 x10 (some ⟨y10, 0, none⟩) (some ⟨a11, 0, none⟩) g11 true (some ⟨y10, 0, none⟩) (some ⟨a11, 0, none⟩) f11) ∧
((!decide (g11 = (0 : Int))) = false →
 F46_j24 B R v10 w10 x10 (some ⟨y10, 0, none⟩) (some ⟨a11, 0, none⟩) g11 (decide ((w10 : Int) = (0 : Int))) (some ⟨y10, 0, none⟩) (some ⟨a11, 0, none⟩) f11))
(fun i11 j11 => Enters Tryz.prog 86 ∧ FnD Tryz.prog B 86 #[.pointer (some ⟨y10, 0, none⟩), .pointer (some ⟨a11, 0, none⟩)] (.panicking i11) (dfE fun k11 l11 => lvW (fun m11 => iP y10 0 fun n11 o11 => ∃ p11 q11 r11, cS m11 n11 o11 p11 q11 r11 ∧
 iP a11 0 fun s11 t11 => ∃ u11, cI m11 s11 t11 .i64 u11 ∧
 R (.returned (.tuple #[.slice p11 q11 r11, .int .i64 u11])) m11) (pk R) k11 l11) j11)) d11
def F46_L : Nat → List (Nat × TypeDesc) := fun i => match i with
  | 10 => [(0, .slice 0), (2, .pointer 0), (3, .pointer 0), (5, .int .i64), (6, .slice 0), (7, .int .i64), (8, .int .i64), (39, .int .i64), (40, .int .i64)]
  | 24 => [(2, .pointer 0), (3, .pointer 0), (8, .int .i64), (12, .slice 0), (84, .slice 0), (85, .int .i64), (86, .int .i64)]
  | _ => []
theorem F46_ok {B : World} {R : Ending → Heap → Prop} (v10 : OA) (w10 x10 : Nat) {h : Heap} (H : F46 B R v10 w10 x10 h) : Ec B 46 #[.slice v10 w10 x10] R h :=
 Ed Tryz.func46 (by kernel_rfl) (by kernel_rfl) (by kernel_rfl) F46_L [] (by kernel_rfl) H

/-- plumb/expansion.Sign -/
def F47 (B : World) (R : Po) (a0 : OA) (b0 c0 : Nat) (h : Heap) : Prop :=
 alW h (.cells #[.slice a0 b0 c0] 27) fun d0 e0 =>
 Ec B 87 #[.slice (some ⟨d0, 0, none⟩) 1 1] (retE (fun f0 g0 => ∃ i0, f0 = .int .i64 i0 ∧
((!decide (i0 = (0 : Int))) = true →
 R (.returned (.tuple #[.int .i64 (0 : Int), .int .i64 i0])) g0) ∧
((!decide (i0 = (0 : Int))) = false →
((decide ((b0 : Int) = (0 : Int))) = true →
 R (.returned (.tuple #[.int .i64 (0 : Int), .int .i64 (0 : Int)])) g0) ∧
((decide ((b0 : Int) = (0 : Int))) = false →
 ixW a0 b0 (IntKind.i64.wrap ((b0 : Int) - (1 : Int))) 1 fun j0 k0 =>
 iP j0 k0 fun l0 m0 => ∃ n0, cI g0 l0 m0 .i64 n0 ∧
((decide (n0 < (0 : Int))) = true →
 R (.returned (.tuple #[.int .i64 (-1 : Int), .int .i64 (0 : Int)])) g0) ∧
((decide (n0 < (0 : Int))) = false →
 R (.returned (.tuple #[.int .i64 (1 : Int), .int .i64 (0 : Int)])) g0))))
(pk R)) e0
def F47_L : Nat → List (Nat × TypeDesc) := fun _ => []
theorem F47_ok {B : World} {R : Ending → Heap → Prop} (a0 : OA) (b0 c0 : Nat) {h : Heap} (H : F47 B R a0 b0 c0 h) : Ec B 47 #[.slice a0 b0 c0] R h :=
 Ek Tryz.func47 (by kernel_rfl) (by kernel_rfl) (by kernel_rfl) F47_L [] (by kernel_rfl) H

/-- plumb/expansion.Estimate -/
def F100 (B : World) (R : Po) (a0 : OA) (b0 c0 : Nat) (h : Heap) : Prop :=
 alW h (.cells #[.slice a0 b0 c0] 27) fun d0 e0 =>
 Ec B 87 #[.slice (some ⟨d0, 0, none⟩) 1 1] (retE (fun f0 g0 => ∃ i0, f0 = .int .i64 i0 ∧
((!decide (i0 = (0 : Int))) = true →
 R (.returned (.tuple #[.int .i64 (0 : Int), .int .i64 i0])) g0) ∧
((!decide (i0 = (0 : Int))) = false →
 ∃ j0 : Lp, ∃ k0, j0 k0 [.float .f64 0, .slice a0 b0 c0, .int .i64 (b0 : Int), .int .i64 (0 : Int)] g0 ∧
∀ (l0 : Nat) (m0 : Heap) (n0 : Nat) (o0 : OA) (p0 q0 : Nat) (r0 s0 : Int), j0 l0 [.float .f64 n0, .slice o0 p0 q0, .int .i64 r0, .int .i64 s0] m0 → ∀ _r : Nat → Value,
((decide (s0 < r0)) = true →
 ixW o0 p0 s0 1 fun t0 u0 =>
 iP t0 u0 fun v0 w0 => ∃ x0, cI m0 v0 w0 .i64 x0 ∧
 Ec B 54 #[.int .i64 x0] (retE (fun y0 z0 => ∃ a1, y0 = .float .f64 a1 ∧
 flW .f64 (FloatKind.f64.format.add n0 a1) n0 a1 fun b1 =>
∃ c1, c1 < l0 ∧ j0 c1 [.float .f64 b1, .slice o0 p0 q0, .int .i64 r0, .int .i64 (IntKind.i64.wrap (s0 + (1 : Int)))] z0)
(pk R)) m0) ∧
((decide (s0 < r0)) = false →
 Ec B 56 #[.float .f64 n0] (retE (fun d1 e1 => ∃ f1, d1 = .int .i64 f1 ∧
 R (.returned (.tuple #[.int .i64 f1, .int .i64 (0 : Int)])) e1)
(pk R)) m0)))
(pk R)) e0
def F100_L : Nat → List (Nat × TypeDesc) := fun i => match i with
  | 6 => [(5, .float .f64), (14, .slice 0), (15, .int .i64), (16, .int .i64)]
  | _ => []
theorem F100_ok {B : World} {R : Ending → Heap → Prop} (a0 : OA) (b0 c0 : Nat) {h : Heap} (H : F100 B R a0 b0 c0 h) : Ec B 100 #[.slice a0 b0 c0] R h :=
 Ek Tryz.func100 (by kernel_rfl) (by kernel_rfl) (by kernel_rfl) F100_L [] (by kernel_rfl) H

/-- plumb/expansion.Exact -/
def F95 (B : World) (R : Po) (a0 : OA) (b0 c0 : Nat) (h : Heap) : Prop :=
 alW h (.cells #[.bool false, .slice none 0 0, .int .i64 0] 29) fun d0 e0 =>
 alW e0 (.cells #[.slice a0 b0 c0] 27) fun f0 g0 =>
 Ec B 87 #[.slice (some ⟨f0, 0, none⟩) 1 1] (retE (fun i0 j0 => ∃ k0, i0 = .int .i64 k0 ∧
((!decide (k0 = (0 : Int))) = true →
 iP d0 0 fun l0 m0 => stC j0 l0 m0 (.bool false) fun n0 =>
 stC n0 l0 (m0 + 1) (.slice none 0 0) fun o0 =>
 stC o0 l0 (m0 + 1 + 1) (.int .i64 0) fun p0 =>
 iP d0 0 fun q0 r0 =>
∃ s0, cell? p0 ⟨q0, r0, none⟩ = some (.bool s0) ∧
∃ t0 u0 v0, cell? p0 ⟨q0, r0 + 1, none⟩ = some (.slice t0 u0 v0) ∧
∃ w0, cell? p0 ⟨q0, r0 + 1 + 1, none⟩ = some (.int .i64 w0) ∧
 R (.returned (.tuple #[.agg #[.bool s0, .slice t0 u0 v0, .int .i64 w0], .int .i64 k0])) p0) ∧
((!decide (k0 = (0 : Int))) = false →
 0 ≤ (b0 : Int) ∧ (b0 : Int) ≤ (b0 : Int) ∧ 40 * (b0 : Int) ≤ 281474976710656 ∧ (b0 : Int) < 9223372036854775808 ∧
 alW j0 (.cells (mkCells #[.bool false, .slice none 0 0, .int .i64 0] (Int.toNat (b0 : Int) * 3)) 29) fun x0 y0 =>
∃ z0 : Lp, ∃ a1, z0 a1 [.slice a0 b0 c0, .pointer (some ⟨d0, 0, none⟩), .slice (some ⟨x0, 0, none⟩) (Int.toNat (b0 : Int)) (Int.toNat (b0 : Int)), .int .i64 (b0 : Int), .int .i64 (0 : Int)] y0 ∧
∀ (b1 : Nat) (c1 : Heap) (d1 : OA) (e1 f1 : Nat) (g1 i1 : OA) (j1 k1 : Nat) (l1 m1 : Int), z0 b1 [.slice d1 e1 f1, .pointer g1, .slice i1 j1 k1, .int .i64 l1, .int .i64 m1] c1 → ∀ _r : Nat → Value,
((decide (m1 < l1)) = true →
 ixW d1 e1 m1 1 fun n1 o1 =>
 iP n1 o1 fun p1 q1 => ∃ r1, cI c1 p1 q1 .i64 r1 ∧
 Ec B 21 #[.int .i64 r1] (retE (fun s1 t1 => ∃ u1 v1 w1 x1 y1 z1, s1 = .tuple #[.agg #[.bool u1, .slice v1 w1 x1, .int .i64 y1], .int .i64 z1] ∧
 ixW i1 j1 m1 3 fun a2 b2 =>
 iP a2 b2 fun c2 d2 => stC t1 c2 d2 (.bool u1) fun e2 =>
 stC e2 c2 (d2 + 1) (.slice v1 w1 x1) fun f2 =>
 stC f2 c2 (d2 + 1 + 1) (.int .i64 y1) fun g2 =>
∃ i2, i2 < b1 ∧ z0 i2 [.slice d1 e1 f1, .pointer g1, .slice i1 j1 k1, .int .i64 l1, .int .i64 (IntKind.i64.wrap (m1 + (1 : Int)))] g2)
(pk R)) c1) ∧
((decide (m1 < l1)) = false →
 Ec B 119 #[.slice i1 j1 k1] (retE (fun j2 k2 => ∃ l2 m2 n2 o2 p2 q2, j2 = .tuple #[.agg #[.bool l2, .slice m2 n2 o2, .int .i64 p2], .int .i64 q2] ∧
 isP g1 fun r2 s2 => stC k2 r2 s2 (.bool l2) fun t2 =>
 stC t2 r2 (s2 + 1) (.slice m2 n2 o2) fun u2 =>
 stC u2 r2 (s2 + 1 + 1) (.int .i64 p2) fun v2 =>
 isP g1 fun w2 x2 =>
∃ y2, cell? v2 ⟨w2, x2, none⟩ = some (.bool y2) ∧
∃ z2 a3 b3, cell? v2 ⟨w2, x2 + 1, none⟩ = some (.slice z2 a3 b3) ∧
∃ c3, cell? v2 ⟨w2, x2 + 1 + 1, none⟩ = some (.int .i64 c3) ∧
 R (.returned (.tuple #[.agg #[.bool y2, .slice z2 a3 b3, .int .i64 c3], .int .i64 q2])) v2)
(pk R)) c1)))
(pk R)) g0
def F95_L : Nat → List (Nat × TypeDesc) := fun i => match i with
  | 6 => [(0, .slice 0), (2, .pointer 0), (5, .slice 0), (18, .int .i64), (19, .int .i64)]
  | _ => []
theorem F95_ok {B : World} {R : Ending → Heap → Prop} (a0 : OA) (b0 c0 : Nat) {h : Heap} (H : F95 B R a0 b0 c0 h) : Ec B 95 #[.slice a0 b0 c0] R h :=
 Ek Tryz.func95 (by kernel_rfl) (by kernel_rfl) (by kernel_rfl) F95_L [] (by kernel_rfl) H

/-- plumb/plumbref7.Compress -/
def F101_j73 (B : World) (R : Po) (a0 : Lp) (b0 : Nat) (c0 : OA) (d0 e0 : Nat) (f0 g0 : OA) (i0 j0 : Nat) (k0 l0 : Int) (m0 : Heap) : Prop :=
 ∃ n0, n0 < b0 ∧ a0 n0 [.slice c0 d0 e0, .pointer f0, .slice g0 i0 j0, .int .i64 k0, .int .i64 (IntKind.i64.wrap (l0 - (1 : Int)))] m0
def F101_j54 (B : World) (R : Po) (a0 : Lp) (b0 : Nat) (o0 : OA) (p0 q0 : Nat) (r0 s0 : OA) (t0 u0 : Nat) (v0 w0 x0 : Int) (y0 : Heap) : Prop :=
 Ec B 84 #[.int .i64 x0] (retE (fun z0 a1 => ∃ b1, z0 = .int .i64 b1 ∧
((!decide (b1 = (0 : Int))) = true →
 alW a1 (.cells #[.int .i64 w0] 3) fun c1 d1 =>
 apW d1 s0 t0 u0 (some ⟨c1, 0, none⟩) 1 1 8 3 #[.int .i64 0] fun e1 f1 g1 i1 =>
 F101_j73 B R a0 b0 o0 p0 q0 r0 e1 f1 g1 x0 v0 i1) ∧
((!decide (b1 = (0 : Int))) = false →
 F101_j73 B R a0 b0 o0 p0 q0 r0 s0 t0 u0 w0 v0 a1))
(pk R)) y0
def F101_j37 (B : World) (R : Po) (a0 : Lp) (b0 : Nat) (j1 : OA) (k1 l1 : Nat) (m1 n1 : OA) (o1 p1 : Nat) (q1 r1 s1 : Int) (t1 : OA) (u1 : Bool) (v1 : Heap) : Prop :=
 isP t1 fun w1 x1 =>
 iP w1 x1 fun y1 z1 =>
 isP (some ⟨y1, z1 + 1, none⟩) fun a2 b2 => stC v1 a2 b2 (.bool u1) fun c2 =>
 F101_j54 B R a0 b0 j1 k1 l1 m1 n1 o1 p1 q1 r1 s1 c2
def F101_j124 (B : World) (R : Po) (a0 : Lp) (b0 : Nat) (d2 : Lp) (e2 : Nat) (f2 g2 : OA) (i2 j2 : Nat) (k2 l2 m2 : Int) (n2 : Heap) : Prop :=
 Ec B 154 #[.pointer f2, .int .i64 m2] (retE (fun o2 p2 => o2 = .tuple #[] ∧
∃ q2, q2 < e2 ∧ d2 q2 [.pointer f2, .slice g2 i2 j2, .int .i64 l2, .int .i64 (IntKind.i64.wrap (k2 - (1 : Int)))] p2)
(pk R)) n2
def F101_j108 (B : World) (R : Po) (a0 : Lp) (b0 : Nat) (d2 : Lp) (e2 : Nat) (r2 s2 : OA) (t2 u2 : Nat) (v2 w2 x2 : Int) (y2 : OA) (z2 : Bool) (a3 : Heap) : Prop :=
 isP y2 fun b3 c3 =>
 iP b3 c3 fun d3 e3 =>
 isP (some ⟨d3, e3 + 1, none⟩) fun f3 g3 => stC a3 f3 g3 (.bool z2) fun i3 =>
 F101_j124 B R a0 b0 d2 e2 r2 s2 t2 u2 v2 w2 x2 i3
def F101 (B : World) (R : Po) (j3 : OA) (k3 l3 : Nat) (h : Heap) : Prop :=
((decide ((k3 : Int) = (0 : Int))) = true →
 R (.returned (.tuple #[.slice none 0 0, .int .i64 (0 : Int)])) h) ∧
((decide ((k3 : Int) = (0 : Int))) = false →
 alW h (.cells #[.slice none 0 0, .bool false] 142) fun m3 n3 =>
 ixW j3 k3 (IntKind.i64.wrap ((k3 : Int) - (1 : Int))) 1 fun o3 p3 =>
 iP o3 p3 fun q3 r3 => ∃ s3, cI n3 q3 r3 .i64 s3 ∧
∃ a0 : Lp, ∃ t3, a0 t3 [.slice j3 k3 l3, .pointer (some ⟨m3, 0, none⟩), .slice none 0 0, .int .i64 s3, .int .i64 (IntKind.i64.wrap ((k3 : Int) - (2 : Int)))] n3 ∧
∀ (b0 : Nat) (u3 : Heap) (v3 : OA) (w3 x3 : Nat) (y3 z3 : OA) (a4 b4 : Nat) (c4 d4 : Int), a0 b0 [.slice v3 w3 x3, .pointer y3, .slice z3 a4 b4, .int .i64 c4, .int .i64 d4] u3 → ∀ _r : Nat → Value,
((decide ((0 : Int) ≤ d4)) = true →
 ixW v3 w3 d4 1 fun e4 f4 =>
 iP e4 f4 fun g4 i4 => ∃ j4, cI u3 g4 i4 .i64 j4 ∧
 Ec B 72 #[.int .i64 c4, .int .i64 j4] (retE (fun k4 l4 => ∃ m4 n4 o4, k4 = .tuple #[.int .i64 m4, .int .i64 n4, .bool o4] ∧
 isP y3 fun p4 q4 =>
 iP p4 q4 fun r4 s4 =>
 isP (some ⟨r4, s4 + 1, none⟩) fun t4 u4 => ∃ v4, cell? l4 ⟨t4, u4, none⟩ = some (.bool v4) ∧
(v4 = true →
 F101_j37 B R a0 b0 v3 w3 x3 y3 z3 a4 b4 d4 m4 n4 y3 true l4) ∧
(v4 = false →
 F101_j37 B R a0 b0 v3 w3 x3 y3 z3 a4 b4 d4 m4 n4 y3 (!o4) l4))
(pk R)) u3) ∧
((decide ((0 : Int) ≤ d4)) = false →
 ∃ d2 : Lp, ∃ w4, d2 w4 [.pointer y3, .slice z3 a4 b4, .int .i64 c4, .int .i64 (IntKind.i64.wrap ((a4 : Int) - (1 : Int)))] u3 ∧
∀ (e2 : Nat) (x4 : Heap) (y4 z4 : OA) (a5 b5 : Nat) (c5 d5 : Int), d2 e2 [.pointer y4, .slice z4 a5 b5, .int .i64 c5, .int .i64 d5] x4 → ∀ _r : Nat → Value,
((decide ((0 : Int) ≤ d5)) = true →
 ixW z4 a5 d5 1 fun e5 f5 =>
 iP e5 f5 fun g5 i5 => ∃ j5, cI x4 g5 i5 .i64 j5 ∧
 Ec B 72 #[.int .i64 j5, .int .i64 c5] (retE (fun k5 l5 => ∃ m5 n5 o5, k5 = .tuple #[.int .i64 m5, .int .i64 n5, .bool o5] ∧
 isP y4 fun p5 q5 =>
 iP p5 q5 fun r5 s5 =>
 isP (some ⟨r5, s5 + 1, none⟩) fun t5 u5 => ∃ v5, cell? l5 ⟨t5, u5, none⟩ = some (.bool v5) ∧
(v5 = true →
 F101_j108 B R a0 b0 d2 e2 y4 z4 a5 b5 d5 m5 n5 y4 true l5) ∧
(v5 = false →
 F101_j108 B R a0 b0 d2 e2 y4 z4 a5 b5 d5 m5 n5 y4 (!o5) l5))
(pk R)) x4) ∧
((decide ((0 : Int) ≤ d5)) = false →
 Ec B 154 #[.pointer y4, .int .i64 c5] (retE (fun w5 x5 => w5 = .tuple #[] ∧
 Ec B 147 #[.pointer y4] (retE (fun y5 z5 => ∃ a6 b6 c6 d6, y5 = .tuple #[.slice a6 b6 c6, .int .i64 d6] ∧
 R (.returned (.tuple #[.slice a6 b6 c6, .int .i64 d6])) z5)
(pk R)) x5)
(pk R)) x4)))
def F101_L : Nat → List (Nat × TypeDesc) := fun i => match i with
  | 7 => [(0, .slice 0), (4, .pointer 0), (5, .slice 0), (6, .int .i64), (7, .int .i64)]
  | 16 => [(4, .pointer 0), (5, .slice 0), (6, .int .i64), (11, .int .i64)]
  | _ => []
theorem F101_ok {B : World} {R : Ending → Heap → Prop} (j3 : OA) (k3 l3 : Nat) {h : Heap} (H : F101 B R j3 k3 l3 h) : Ec B 101 #[.slice j3 k3 l3] R h :=
 Ek Tryz.func101 (by kernel_rfl) (by kernel_rfl) (by kernel_rfl) F101_L [] (by kernel_rfl) H

/-- plumb/plumbref7.Sign -/
def F102 (B : World) (R : Po) (a0 : OA) (b0 c0 : Nat) (h : Heap) : Prop :=
((decide ((b0 : Int) = (0 : Int))) = true →
 R (.returned (.int .i64 (0 : Int))) h) ∧
((decide ((b0 : Int) = (0 : Int))) = false →
 ixW a0 b0 (IntKind.i64.wrap ((b0 : Int) - (1 : Int))) 1 fun d0 e0 =>
 iP d0 e0 fun f0 g0 => ∃ i0, cI h f0 g0 .i64 i0 ∧
((decide (i0 < (0 : Int))) = true →
 R (.returned (.int .i64 (-1 : Int))) h) ∧
((decide (i0 < (0 : Int))) = false →
 R (.returned (.int .i64 (1 : Int))) h))
def F102_L : Nat → List (Nat × TypeDesc) := fun _ => []
theorem F102_ok {B : World} {R : Ending → Heap → Prop} (a0 : OA) (b0 c0 : Nat) {h : Heap} (H : F102 B R a0 b0 c0 h) : Ec B 102 #[.slice a0 b0 c0] R h :=
 Ek Tryz.func102 (by kernel_rfl) (by kernel_rfl) (by kernel_rfl) F102_L [] (by kernel_rfl) H

/-- plumb/plumbref7.Estimate -/
def F103 (B : World) (R : Po) (a0 : OA) (b0 c0 : Nat) (h : Heap) : Prop :=
 ∃ d0 : Lp, ∃ e0, d0 e0 [.slice a0 b0 c0, .int .i64 (0 : Int), .int .i64 (0 : Int)] h ∧
∀ (f0 : Nat) (g0 : Heap) (i0 : OA) (j0 k0 : Nat) (l0 m0 : Int), d0 f0 [.slice i0 j0 k0, .int .i64 l0, .int .i64 m0] g0 → ∀ _r : Nat → Value,
((decide (m0 < (j0 : Int))) = true →
 ixW i0 j0 m0 1 fun n0 o0 =>
 iP n0 o0 fun p0 q0 => ∃ r0, cI g0 p0 q0 .i64 r0 ∧
 Ec B 155 #[.int .i64 l0, .int .i64 r0] (retE (fun s0 t0 => ∃ u0, s0 = .int .i64 u0 ∧
∃ v0, v0 < f0 ∧ d0 v0 [.slice i0 j0 k0, .int .i64 u0, .int .i64 (IntKind.i64.wrap (m0 + (1 : Int)))] t0)
(pk R)) g0) ∧
((decide (m0 < (j0 : Int))) = false →
 R (.returned (.int .i64 l0)) g0)
def F103_L : Nat → List (Nat × TypeDesc) := fun i => match i with
  | 3 => [(0, .slice 0), (3, .int .i64), (4, .int .i64)]
  | _ => []
theorem F103_ok {B : World} {R : Ending → Heap → Prop} (a0 : OA) (b0 c0 : Nat) {h : Heap} (H : F103 B R a0 b0 c0 h) : Ec B 103 #[.slice a0 b0 c0] R h :=
 Ek Tryz.func103 (by kernel_rfl) (by kernel_rfl) (by kernel_rfl) F103_L [] (by kernel_rfl) H

/-- plumb/plumbref7.Exact -/
def F105_j43 (B : World) (R : Po) (a0 : Lp) (b0 : Nat) (c0 : OA) (d0 e0 : Nat) (f0 g0 : OA) (i0 : Int) (j0 : Heap) : Prop :=
 ∃ k0, k0 < b0 ∧ a0 k0 [.slice c0 d0 e0, .pointer f0, .pointer g0, .int .i64 (IntKind.i64.wrap (i0 + (1 : Int)))] j0
def F105 (B : World) (R : Po) (l0 : OA) (m0 n0 : Nat) (h : Heap) : Prop :=
 alW h (.cells #[.bool false, .slice none 0 0, .int .i64 0] 29) fun o0 p0 =>
 alW p0 (.cells #[.bool false, .slice none 0 0, .int .i64 0] 29) fun q0 r0 =>
∃ a0 : Lp, ∃ s0, a0 s0 [.slice l0 m0 n0, .pointer (some ⟨o0, 0, none⟩), .pointer (some ⟨q0, 0, none⟩), .int .i64 (0 : Int)] r0 ∧
∀ (b0 : Nat) (t0 : Heap) (u0 : OA) (v0 w0 : Nat) (x0 y0 : OA) (z0 : Int), a0 b0 [.slice u0 v0 w0, .pointer x0, .pointer y0, .int .i64 z0] t0 → ∀ _r : Nat → Value,
((decide (z0 < (v0 : Int))) = true →
 isP y0 fun a1 b1 =>
∃ c1, cell? t0 ⟨a1, b1, none⟩ = some (.bool c1) ∧
∃ d1 e1 f1, cell? t0 ⟨a1, b1 + 1, none⟩ = some (.slice d1 e1 f1) ∧
∃ g1, cell? t0 ⟨a1, b1 + 1 + 1, none⟩ = some (.int .i64 g1) ∧
 ixW u0 v0 z0 1 fun i1 j1 =>
 iP i1 j1 fun k1 l1 => ∃ m1, cI t0 k1 l1 .i64 m1 ∧
 Ec B 114 #[.int .i64 m1] (retE (fun n1 o1 => ∃ p1 q1 r1 s1 t1, n1 = .agg #[.bool p1, .slice q1 r1 s1, .int .i64 t1] ∧
 sameCells t0 o1 a1 b1 3 ∧ Ec B 133 #[.agg #[.bool c1, .slice d1 e1 f1, .int .i64 g1], .agg #[.bool p1, .slice q1 r1 s1, .int .i64 t1]] (retE (fun u1 v1 => ∃ w1 x1 y1 z1 a2, u1 = .agg #[.bool w1, .slice x1 y1 z1, .int .i64 a2] ∧
 isP y0 fun b2 c2 => stC v1 b2 c2 (.bool w1) fun d2 =>
 stC d2 b2 (c2 + 1) (.slice x1 y1 z1) fun e2 =>
 stC e2 b2 (c2 + 1 + 1) (.int .i64 a2) fun f2 =>
 F105_j43 B R a0 b0 u0 v0 w0 x0 y0 z0 f2)
(fun _ _ => False)) o1)
(fun _ _ => False)) t0) ∧
((decide (z0 < (v0 : Int))) = false →
 isP y0 fun g2 i2 =>
∃ j2, cell? t0 ⟨g2, i2, none⟩ = some (.bool j2) ∧
∃ k2 l2 m2, cell? t0 ⟨g2, i2 + 1, none⟩ = some (.slice k2 l2 m2) ∧
∃ n2, cell? t0 ⟨g2, i2 + 1 + 1, none⟩ = some (.int .i64 n2) ∧
 isP x0 fun o2 p2 => stC t0 o2 p2 (.bool j2) fun q2 =>
 stC q2 o2 (p2 + 1) (.slice k2 l2 m2) fun r2 =>
 stC r2 o2 (p2 + 1 + 1) (.int .i64 n2) fun s2 =>
 isP x0 fun t2 u2 =>
∃ v2, cell? s2 ⟨t2, u2, none⟩ = some (.bool v2) ∧
∃ w2 x2 y2, cell? s2 ⟨t2, u2 + 1, none⟩ = some (.slice w2 x2 y2) ∧
∃ z2, cell? s2 ⟨t2, u2 + 1 + 1, none⟩ = some (.int .i64 z2) ∧
 R (.returned (.agg #[.bool v2, .slice w2 x2 y2, .int .i64 z2])) s2)
def F105_L : Nat → List (Nat × TypeDesc) := fun i => match i with
  | 3 => [(0, .slice 0), (2, .pointer 0), (3, .pointer 0), (4, .int .i64)]
  | _ => []
theorem F105_ok {B : World} {R : Ending → Heap → Prop} (l0 : OA) (m0 n0 : Nat) {h : Heap} (H : F105 B R l0 m0 n0 h) : Ec B 105 #[.slice l0 m0 n0] R h :=
 Ek Tryz.func105 (by kernel_rfl) (by kernel_rfl) (by kernel_rfl) F105_L [] (by kernel_rfl) H

/-- plumb/plumblaw7.looks -/
def F45_j135 (B : World) (R : Po) (a0 : Bool) (b0 : Heap) : Prop :=
 R (.returned (.bool a0)) b0
def F45_j132 (B : World) (R : Po) (c0 : Bool) (d0 : Heap) : Prop :=
 F45_j135 B R c0 d0
def F45_j128 (B : World) (R : Po) (e0 : OA) (f0 g0 : Nat) (i0 : Bool) (j0 : Heap) : Prop :=
(i0 = true →
 F45_j132 B R (decide ((f0 : Int) = (0 : Int))) j0) ∧
(i0 = false →
 F45_j132 B R false j0)
def F45_j118 (B : World) (R : Po) (k0 l0 : OA) (m0 n0 : Nat) (o0 : Bool) (p0 : Heap) : Prop :=
(o0 = true →
 isP k0 fun q0 r0 =>
 isP (some ⟨q0, r0 + 2, none⟩) fun s0 t0 => ∃ u0, cI p0 s0 t0 .i64 u0 ∧
 F45_j128 B R l0 m0 n0 (decide (u0 = (0 : Int))) p0) ∧
(o0 = false →
 F45_j128 B R l0 m0 n0 false p0)
def F45_j108 (B : World) (R : Po) (v0 w0 : OA) (x0 y0 : Nat) (z0 : Bool) (a1 : Heap) : Prop :=
(z0 = true →
 isP v0 fun b1 c1 =>
 isP (some ⟨b1, c1 + 1, none⟩) fun d1 e1 => ∃ f1 g1 i1, cS a1 d1 e1 f1 g1 i1 ∧
 F45_j118 B R v0 w0 x0 y0 (decide ((g1 : Int) = (0 : Int))) a1) ∧
(z0 = false →
 F45_j118 B R v0 w0 x0 y0 false a1)
def F45_j98 (B : World) (R : Po) (j1 k1 : OA) (l1 m1 : Nat) (n1 : Bool) (o1 : Heap) : Prop :=
(n1 = true →
 isP j1 fun p1 q1 =>
 iP p1 q1 fun r1 s1 => ∃ t1, cell? o1 ⟨r1, s1, none⟩ = some (.bool t1) ∧
 F45_j108 B R j1 k1 l1 m1 (!t1) o1) ∧
(n1 = false →
 F45_j108 B R j1 k1 l1 m1 false o1)
def F45_j92 (B : World) (R : Po) (u1 : Int) (v1 w1 : OA) (x1 y1 : Nat) (z1 : Bool) (a2 : Heap) : Prop :=
(z1 = true →
 F45_j98 B R v1 w1 x1 y1 (decide (u1 = (0 : Int))) a2) ∧
(z1 = false →
 F45_j98 B R v1 w1 x1 y1 false a2)
def F45_j85 (B : World) (R : Po) (b2 c2 : Int) (d2 e2 : OA) (f2 g2 : Nat) (i2 : Bool) (j2 : Heap) : Prop :=
(i2 = true →
 F45_j92 B R c2 d2 e2 f2 g2 (decide (b2 = (0 : Int))) j2) ∧
(i2 = false →
 F45_j92 B R c2 d2 e2 f2 g2 false j2)
def F45_j77 (B : World) (R : Po) (k2 l2 : Int) (m2 n2 : OA) (o2 p2 : Nat) (q2 : Int) (r2 : Bool) (s2 : Heap) : Prop :=
(r2 = true →
 F45_j85 B R k2 l2 m2 n2 o2 p2 (decide (q2 = (1 : Int))) s2) ∧
(r2 = false →
 F45_j85 B R k2 l2 m2 n2 o2 p2 false s2)
def F45_j68 (B : World) (R : Po) (t2 u2 : Int) (v2 : OA) (w2 : Int) (x2 : OA) (y2 z2 : Nat) (a3 : Int) (b3 : Bool) (c3 : Heap) : Prop :=
(b3 = true →
 F45_j77 B R t2 u2 v2 x2 y2 z2 a3 (decide (w2 = (1 : Int))) c3) ∧
(b3 = false →
 F45_j77 B R t2 u2 v2 x2 y2 z2 a3 false c3)
def F45_j266 (B : World) (R : Po) (d3 : Bool) (e3 : Heap) : Prop :=
 R (.returned (.bool d3)) e3
def F45_j263 (B : World) (R : Po) (f3 : Bool) (g3 : Heap) : Prop :=
 F45_j266 B R f3 g3
def F45_j252 (B : World) (R : Po) (i3 j3 : OA) (k3 l3 : Nat) (m3 : OA) (n3 o3 : Nat) (p3 : Bool) (q3 : Heap) : Prop :=
(p3 = true →
 Ec B 106 #[.pointer i3, .slice j3 k3 l3, .slice m3 n3 o3] (retE (fun r3 s3 => ∃ t3, r3 = .bool t3 ∧
 F45_j263 B R t3 s3)
(fun _ _ => False)) q3) ∧
(p3 = false →
 F45_j263 B R false q3)
def F45_j244 (B : World) (R : Po) (u3 v3 : OA) (w3 x3 : Nat) (y3 : Int) (z3 : OA) (a4 b4 : Nat) (c4 : Int) (d4 : Bool) (e4 : Heap) : Prop :=
(d4 = true →
 F45_j252 B R u3 v3 w3 x3 z3 a4 b4 (decide (y3 = c4)) e4) ∧
(d4 = false →
 F45_j252 B R u3 v3 w3 x3 z3 a4 b4 false e4)
def F45_j217 (B : World) (R : Po) (f4 g4 : OA) (i4 j4 : Nat) (k4 l4 : OA) (m4 n4 : Nat) (o4 : Int) (p4 : OA) (q4 r4 : Nat) (s4 : Int) (t4 : Bool) (u4 : Heap) : Prop :=
(t4 = true →
 isP k4 fun v4 w4 =>
 isP (some ⟨v4, w4 + 1, none⟩) fun x4 y4 => ∃ z4 a5 b5, cS u4 x4 y4 z4 a5 b5 ∧
 Ec B 105 #[.slice g4 i4 j4] (retE (fun c5 d5 => ∃ e5 f5 g5 i5 j5, c5 = .agg #[.bool e5, .slice f5 g5 i5, .int .i64 j5] ∧
 sameCells u4 d5 x4 y4 1 ∧ Ec B 106 #[.pointer f4, .slice z4 a5 b5, .slice f5 g5 i5] (retE (fun k5 l5 => ∃ m5, k5 = .bool m5 ∧
 F45_j244 B R f4 l4 m4 n4 o4 p4 q4 r4 s4 m5 l5)
(fun _ _ => False)) d5)
(fun _ _ => False)) u4) ∧
(t4 = false →
 F45_j244 B R f4 l4 m4 n4 o4 p4 q4 r4 s4 false u4)
def F45_j190 (B : World) (R : Po) (n5 o5 : OA) (p5 q5 : Nat) (r5 s5 : OA) (t5 u5 : Nat) (v5 : Int) (w5 : OA) (x5 y5 : Nat) (z5 : Int) (a6 : Bool) (b6 : Heap) : Prop :=
(a6 = true →
 isP r5 fun c6 d6 =>
∃ e6, cell? b6 ⟨c6, d6, none⟩ = some (.bool e6) ∧
∃ f6 g6 i6, cell? b6 ⟨c6, d6 + 1, none⟩ = some (.slice f6 g6 i6) ∧
∃ j6, cell? b6 ⟨c6, d6 + 1 + 1, none⟩ = some (.int .i64 j6) ∧
 Ec B 105 #[.slice o5 p5 q5] (retE (fun k6 l6 => ∃ m6 n6 o6 p6 q6, k6 = .agg #[.bool m6, .slice n6 o6 p6, .int .i64 q6] ∧
 sameCells b6 l6 c6 d6 3 ∧ Ec B 104 #[.agg #[.bool e6, .slice f6 g6 i6, .int .i64 j6], .agg #[.bool m6, .slice n6 o6 p6, .int .i64 q6]] (retE (fun r6 s6 => ∃ t6, r6 = .bool t6 ∧
 F45_j217 B R n5 o5 p5 q5 r5 s5 t5 u5 v5 w5 x5 y5 z5 t6 s6)
(fun _ _ => False)) l6)
(fun _ _ => False)) b6) ∧
(a6 = false →
 F45_j217 B R n5 o5 p5 q5 r5 s5 t5 u5 v5 w5 x5 y5 z5 false b6)
def F45_j179 (B : World) (R : Po) (u6 v6 : OA) (w6 x6 : Nat) (y6 : OA) (z6 : Int) (a7 : OA) (b7 c7 : Nat) (d7 : Int) (e7 : OA) (f7 g7 : Nat) (i7 : Int) (j7 : Bool) (k7 : Heap) : Prop :=
(j7 = true →
 F45_j190 B R u6 v6 w6 x6 y6 a7 b7 c7 d7 e7 f7 g7 i7 (decide (z6 = (0 : Int))) k7) ∧
(j7 = false →
 F45_j190 B R u6 v6 w6 x6 y6 a7 b7 c7 d7 e7 f7 g7 i7 false k7)
def F45_j162 (B : World) (R : Po) (l7 m7 : OA) (n7 o7 : Nat) (p7 : Int) (q7 : OA) (r7 : Int) (s7 : OA) (t7 u7 : Nat) (v7 : Int) (w7 : OA) (x7 y7 : Nat) (z7 : Int) (a8 : Bool) (b8 : Heap) : Prop :=
(a8 = true →
 Ec B 103 #[.slice m7 n7 o7] (retE (fun c8 d8 => ∃ e8, c8 = .int .i64 e8 ∧
 F45_j179 B R l7 m7 n7 o7 q7 r7 s7 t7 u7 v7 w7 x7 y7 z7 (decide (p7 = e8)) d8)
(fun _ _ => False)) b8) ∧
(a8 = false →
 F45_j179 B R l7 m7 n7 o7 q7 r7 s7 t7 u7 v7 w7 x7 y7 z7 false b8)
def F45_j149 (B : World) (R : Po) (f8 g8 : OA) (i8 j8 : Nat) (k8 l8 : Int) (m8 : OA) (n8 : Int) (o8 : OA) (p8 q8 : Nat) (r8 : Int) (s8 : OA) (t8 u8 : Nat) (v8 : Int) (w8 : Bool) (x8 : Heap) : Prop :=
(w8 = true →
 F45_j162 B R f8 g8 i8 j8 k8 m8 n8 o8 p8 q8 r8 s8 t8 u8 v8 (decide (l8 = (0 : Int))) x8) ∧
(w8 = false →
 F45_j162 B R f8 g8 i8 j8 k8 m8 n8 o8 p8 q8 r8 s8 t8 u8 v8 false x8)
def F45_j54 (B : World) (R : Po) (y8 z8 : OA) (a9 b9 : Nat) (c9 : Bool) (d9 e9 f9 g9 : Int) (i9 : OA) (j9 : Int) (k9 : OA) (l9 m9 : Nat) (n9 : Int) (o9 : Bool) (p9 : Heap) : Prop :=
(o9 = true →
 R (.returned (.bool false)) p9) ∧
(o9 = false →
((!c9) = true →
((decide (e9 = (1 : Int))) = true →
 F45_j68 B R d9 f9 i9 j9 k9 l9 m9 n9 (decide (g9 = (1 : Int))) p9) ∧
((decide (e9 = (1 : Int))) = false →
 F45_j68 B R d9 f9 i9 j9 k9 l9 m9 n9 false p9)) ∧
((!c9) = false →
 Ec B 101 #[.slice z8 a9 b9] (retE (fun q9 r9 => ∃ s9 t9 u9 v9, q9 = .tuple #[.slice s9 t9 u9, .int .i64 v9] ∧
((decide (e9 = (0 : Int))) = true →
 Ec B 102 #[.slice z8 a9 b9] (retE (fun w9 x9 => ∃ y9, w9 = .int .i64 y9 ∧
 F45_j149 B R y8 z8 a9 b9 f9 g9 i9 j9 k9 l9 m9 n9 s9 t9 u9 v9 (decide (d9 = y9)) x9)
(fun _ _ => False)) r9) ∧
((decide (e9 = (0 : Int))) = false →
 F45_j149 B R y8 z8 a9 b9 f9 g9 i9 j9 k9 l9 m9 n9 s9 t9 u9 v9 false r9))
(pk R)) p9))
def F45 (B : World) (R : Po) (z9 a10 : OA) (b10 c10 : Nat) (h : Heap) : Prop :=
 Ec B 77 #[.slice a10 b10 c10] (retE (fun d10 e10 => ∃ f10 g10 i10, d10 = .slice f10 g10 i10 ∧
 slW g10 i10 none (some (.int .i64 (b10 : Int))) none fun j10 k10 l10 =>
 Ec B 78 #[.slice a10 b10 c10] (retE (fun m10 n10 => ∃ o10, m10 = .bool o10 ∧
 Ec B 47 #[.slice (slP f10 j10 l10 1) (k10 - j10) (l10 - j10)] (retE (fun p10 q10 => ∃ r10 s10, p10 = .tuple #[.int .i64 r10, .int .i64 s10] ∧
 Ec B 100 #[.slice (slP f10 j10 l10 1) (k10 - j10) (l10 - j10)] (retE (fun t10 u10 => ∃ v10 w10, t10 = .tuple #[.int .i64 v10, .int .i64 w10] ∧
 Ec B 95 #[.slice (slP f10 j10 l10 1) (k10 - j10) (l10 - j10)] (retE (fun x10 y10 => ∃ z10 a11 b11 c11 d11 e11, x10 = .tuple #[.agg #[.bool z10, .slice a11 b11 c11, .int .i64 d11], .int .i64 e11] ∧
 alW y10 (.cells #[.bool false, .slice none 0 0, .int .i64 0] 29) fun f11 g11 =>
 iP f11 0 fun i11 j11 => stC g11 i11 j11 (.bool z10) fun k11 =>
 stC k11 i11 (j11 + 1) (.slice a11 b11 c11) fun l11 =>
 stC l11 i11 (j11 + 1 + 1) (.int .i64 d11) fun m11 =>
 Ec B 46 #[.slice (slP f10 j10 l10 1) (k10 - j10) (l10 - j10)] (retE (fun n11 o11 => ∃ p11 q11 r11 s11, n11 = .tuple #[.slice p11 q11 r11, .int .i64 s11] ∧
 Ec B 37 #[.slice (slP f10 j10 l10 1) (k10 - j10) (l10 - j10)] (retE (fun t11 u11 => ∃ v11, t11 = .bool v11 ∧
((!(v11 == o10)) = true →
 F45_j54 B R z9 a10 b10 c10 o10 r10 s10 v10 w10 (some ⟨f11, 0, none⟩) e11 p11 q11 r11 s11 true u11) ∧
((!(v11 == o10)) = false →
 Ec B 81 #[.slice f10 g10 i10, .slice a10 b10 c10] (retE (fun w11 x11 => ∃ y11, w11 = .bool y11 ∧
 F45_j54 B R z9 a10 b10 c10 o10 r10 s10 v10 w10 (some ⟨f11, 0, none⟩) e11 p11 q11 r11 s11 (!y11) x11)
(pk R)) u11))
(pk R)) o11)
(pk R)) m11)
(pk R)) u10)
(pk R)) q10)
(pk R)) n10)
(pk R)) e10)
(pk R)) h
def F45_L : Nat → List (Nat × TypeDesc) := fun _ => []
theorem F45_ok {B : World} {R : Ending → Heap → Prop} (z9 a10 : OA) (b10 c10 : Nat) {h : Heap} (H : F45 B R z9 a10 b10 c10 h) : Ec B 45 #[.pointer z9, .slice a10 b10 c10] R h :=
 Ek Tryz.func45 (by kernel_rfl) (by kernel_rfl) (by kernel_rfl) F45_L [] (by kernel_rfl) H

/-- plumb/plumblaw7.ExpansionLooks -/
def F13_j21 (B : World) (R : Po) (a0 : Bool) (b0 : Heap) : Prop :=
 R (.returned (.bool a0)) b0
def F13_j18 (B : World) (R : Po) (c0 : Bool) (d0 : Heap) : Prop :=
 F13_j21 B R c0 d0
def F13_j9 (B : World) (R : Po) (e0 : OA) (f0 : Bool) (g0 : Heap) : Prop :=
(f0 = true →
 Ec B 31 #[.pointer e0] (retE (fun i0 j0 => ∃ k0, i0 = .bool k0 ∧
 F13_j18 B R k0 j0)
(pk R)) g0) ∧
(f0 = false →
 F13_j18 B R false g0)
def F13 (B : World) (R : Po) (l0 : OA) (m0 n0 : Nat) (h : Heap) : Prop :=
 alW h (.cells #[.slice none 0 0, .slice none 0 0] 46) fun o0 p0 =>
 Ec B 29 #[] (retE (fun q0 r0 => ∃ s0, q0 = .bool s0 ∧
(s0 = true →
((decide ((4200 : Int) < (m0 : Int))) = true →
 F13_j9 B R (some ⟨o0, 0, none⟩) true r0) ∧
((decide ((4200 : Int) < (m0 : Int))) = false →
 Ec B 45 #[.pointer (some ⟨o0, 0, none⟩), .slice l0 m0 n0] (retE (fun t0 u0 => ∃ v0, t0 = .bool v0 ∧
 F13_j9 B R (some ⟨o0, 0, none⟩) v0 u0)
(pk R)) r0)) ∧
(s0 = false →
 F13_j9 B R (some ⟨o0, 0, none⟩) false r0))
(pk R)) p0
def F13_L : Nat → List (Nat × TypeDesc) := fun _ => []
theorem F13_ok {B : World} {R : Ending → Heap → Prop} (l0 : OA) (m0 n0 : Nat) {h : Heap} (H : F13 B R l0 m0 n0 h) : Ec B 13 #[.slice l0 m0 n0] R h :=
 Ek Tryz.func13 (by kernel_rfl) (by kernel_rfl) (by kernel_rfl) F13_L [] (by kernel_rfl) H
end Go.Proofs
