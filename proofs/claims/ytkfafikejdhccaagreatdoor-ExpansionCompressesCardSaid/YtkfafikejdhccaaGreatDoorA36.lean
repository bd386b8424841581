import Derived.Test.YtkfafikejdhccaaGreatDoorA20
/- Here stand lemmas: what compressing and looking come to (written by program). -/
set_option linter.unusedVariables false
namespace Go.Proofs
open Go Go.Eng
/-- plumb/expansion.Compress -/
def F46_j131 (B : World) (R : Po) (a0 b0 : OA) (c0 : Lp) (d0 : Nat) (e0 : OA) (f0 g0 : Nat) (i0 j0 : OA) (k0 : Int) (l0 : OA) (m0 n0 : Nat) (o0 p0 q0 r0 : Int) (s0 t0 : OA) (u0 : Heap) : Prop :=
([{ target := .fn (.func 86) #[], args := #[.pointer s0, .pointer t0] }] : List Deferred) = [{ target := .fn (.func 86) #[], args := #[.pointer a0, .pointer b0] }] ∧ ∃ v0, v0 < d0 ∧ c0 v0 [.slice e0 f0 g0, .pointer i0, .pointer j0, .int .i64 k0, .slice l0 m0 n0, .int .i64 o0, .int .i64 p0, .int .i64 q0, .int .i64 (IntKind.i64.wrap (r0 + (1 : Int)))] u0
def F46_j24 (B : World) (R : Po) (w0 : OA) (x0 y0 : Nat) (z0 a1 : OA) (b1 : Int) (c1 : Bool) (a0 b0 : OA) (d1 : Heap) : Prop :=
(c1 = true →
 isP z0 fun e1 f1 => stC d1 e1 f1 (.slice none 0 0) fun g1 =>
 isP a1 fun i1 j1 => stC g1 i1 j1 (.int .i64 b1) fun k1 =>
 Enters Tryz.prog 86 ∧ FnD Tryz.prog B 86 #[.pointer a0, .pointer b0] .returning (dfE fun l1 m1 => lvW (fun n1 => isP z0 fun o1 p1 => ∃ q1 r1 s1, cS n1 o1 p1 q1 r1 s1 ∧
 isP a1 fun t1 u1 => ∃ v1, cI n1 t1 u1 .i64 v1 ∧
 R (.returned (.tuple #[.slice q1 r1 s1, .int .i64 v1])) n1) (pk R) l1 m1) k1) ∧
(c1 = false →
 0 ≤ (x0 : Int) ∧ (x0 : Int) ≤ (x0 : Int) ∧ 8 * (x0 : Int) ≤ 281474976710656 ∧ (x0 : Int) < 9223372036854775808 ∧
 alW d1 (.cells (mkCells #[.int .i64 0] (Int.toNat (x0 : Int) * 1)) 3) fun w1 x1 =>
 ixW w0 x0 (IntKind.i64.wrap ((x0 : Int) - (1 : Int))) 1 fun y1 z1 =>
 iP y1 z1 fun a2 b2 => ∃ c2, cI x1 a2 b2 .i64 c2 ∧
∃ c0 : Lp, ∃ d2, c0 d2 [.slice w0 x0 y0, .pointer z0, .pointer a1, .int .i64 (x0 : Int), .slice (some ⟨w1, 0, none⟩) (Int.toNat (x0 : Int)) (Int.toNat (x0 : Int)), .int .i64 (x0 : Int), .int .i64 c2, .int .i64 (IntKind.i64.wrap ((x0 : Int) - (1 : Int))), .int .i64 (0 : Int)] x1 ∧
∀ (d0 : Nat) (e2 : Heap) (f2 : OA) (g2 i2 : Nat) (j2 k2 : OA) (l2 : Int) (m2 : OA) (n2 o2 : Nat) (p2 q2 r2 s2 : Int), c0 d0 [.slice f2 g2 i2, .pointer j2, .pointer k2, .int .i64 l2, .slice m2 n2 o2, .int .i64 p2, .int .i64 q2, .int .i64 r2, .int .i64 s2] e2 → ∀ _r : Nat → Value,
((decide (s2 < r2)) = true →
 ixW f2 g2 (IntKind.i64.wrap ((IntKind.i64.wrap (l2 - (2 : Int))) - s2)) 1 fun t2 u2 =>
 iP t2 u2 fun v2 w2 => ∃ x2, cI e2 v2 w2 .i64 x2 ∧
 Ec B 20 #[.int .i64 q2, .int .i64 x2] (retE (fun y2 z2 => ∃ a3 b3 c3, y2 = .tuple #[.int .i64 a3, .int .i64 b3, .bool c3] ∧
 Ec B 107 #[.int .i64 a3, .int .i64 b3, .bool c3] (retE (fun d3 e3 => ∃ f3 g3, d3 = .tuple #[.int .i64 f3, .int .i64 g3] ∧
 Ec B 17 #[.int .i64 g3] (retE (fun i3 j3 => ∃ k3, i3 = .int .i64 k3 ∧
((!decide (k3 = (0 : Int))) = true →
 ixW m2 n2 (IntKind.i64.wrap (p2 - (1 : Int))) 1 fun l3 m3 =>
 iP l3 m3 fun n3 o3 => stC j3 n3 o3 (.int .i64 f3) fun p3 =>
 F46_j131 B R a0 b0 c0 d0 f2 g2 i2 j2 k2 l2 m2 n2 o2 (IntKind.i64.wrap (p2 - (1 : Int))) g3 r2 s2 a0 b0 p3) ∧
((!decide (k3 = (0 : Int))) = false →
 F46_j131 B R a0 b0 c0 d0 f2 g2 i2 j2 k2 l2 m2 n2 o2 p2 f3 r2 s2 a0 b0 j3))
(fun q3 r3 => Enters Tryz.prog 86 ∧ FnD Tryz.prog B 86 #[.pointer a0, .pointer b0] (.panicking q3) (dfE fun s3 t3 => lvW (fun u3 => isP j2 fun v3 w3 => ∃ x3 y3 z3, cS u3 v3 w3 x3 y3 z3 ∧
 isP k2 fun a4 b4 => ∃ c4, cI u3 a4 b4 .i64 c4 ∧
 R (.returned (.tuple #[.slice x3 y3 z3, .int .i64 c4])) u3) (pk R) s3 t3) r3)) e3)
(fun d4 e4 => Enters Tryz.prog 86 ∧ FnD Tryz.prog B 86 #[.pointer a0, .pointer b0] (.panicking d4) (dfE fun f4 g4 => lvW (fun i4 => isP j2 fun j4 k4 => ∃ l4 m4 n4, cS i4 j4 k4 l4 m4 n4 ∧
 isP k2 fun o4 p4 => ∃ q4, cI i4 o4 p4 .i64 q4 ∧
 R (.returned (.tuple #[.slice l4 m4 n4, .int .i64 q4])) i4) (pk R) f4 g4) e4)) z2)
(fun r4 s4 => Enters Tryz.prog 86 ∧ FnD Tryz.prog B 86 #[.pointer a0, .pointer b0] (.panicking r4) (dfE fun t4 u4 => lvW (fun v4 => isP j2 fun w4 x4 => ∃ y4 z4 a5, cS v4 w4 x4 y4 z4 a5 ∧
 isP k2 fun b5 c5 => ∃ d5, cI v4 b5 c5 .i64 d5 ∧
 R (.returned (.tuple #[.slice y4 z4 a5, .int .i64 d5])) v4) (pk R) t4 u4) s4)) e2) ∧
((decide (s2 < r2)) = false →
 ixW m2 n2 (IntKind.i64.wrap (p2 - (1 : Int))) 1 fun e5 f5 =>
 iP e5 f5 fun g5 i5 => stC e2 g5 i5 (.int .i64 q2) fun j5 =>
 ixW m2 n2 (IntKind.i64.wrap (p2 - (1 : Int))) 1 fun k5 l5 =>
 iP k5 l5 fun m5 n5 => ∃ o5, cI j5 m5 n5 .i64 o5 ∧
 slW n2 o2 (some (.int .i64 (IntKind.i64.wrap ((IntKind.i64.wrap (p2 - (1 : Int))) + (1 : Int))))) none none fun p5 q5 r5 =>
∃ s5 : Lp, ∃ t5, s5 t5 [.pointer j2, .pointer k2, .int .i64 o5, .slice none 0 0, .slice (slP m2 p5 r5 1) (q5 - p5) (r5 - p5), .int .i64 ((q5 - p5 : Nat) : Int), .int .i64 (0 : Int)] j5 ∧
∀ (u5 : Nat) (v5 : Heap) (w5 x5 : OA) (y5 : Int) (z5 : OA) (a6 b6 : Nat) (c6 : OA) (d6 e6 : Nat) (f6 g6 : Int), s5 u5 [.pointer w5, .pointer x5, .int .i64 y5, .slice z5 a6 b6, .slice c6 d6 e6, .int .i64 f6, .int .i64 g6] v5 → ∀ _r : Nat → Value,
((decide (g6 < f6)) = true →
 ixW c6 d6 g6 1 fun i6 j6 =>
 iP i6 j6 fun k6 l6 => ∃ m6, cI v5 k6 l6 .i64 m6 ∧
 Ec B 20 #[.int .i64 m6, .int .i64 y5] (retE (fun n6 o6 => ∃ p6 q6 r6, n6 = .tuple #[.int .i64 p6, .int .i64 q6, .bool r6] ∧
 Ec B 107 #[.int .i64 p6, .int .i64 q6, .bool r6] (retE (fun s6 t6 => ∃ u6 v6, s6 = .tuple #[.int .i64 u6, .int .i64 v6] ∧
 Ec B 108 #[.slice z5 a6 b6, .int .i64 v6] (retE (fun w6 x6 => ∃ y6 z6 a7, w6 = .slice y6 z6 a7 ∧
([{ target := .fn (.func 86) #[], args := #[.pointer a0, .pointer b0] }] : List Deferred) = [{ target := .fn (.func 86) #[], args := #[.pointer a0, .pointer b0] }] ∧ ∃ b7, b7 < u5 ∧ s5 b7 [.pointer w5, .pointer x5, .int .i64 u6, .slice y6 z6 a7, .slice c6 d6 e6, .int .i64 f6, .int .i64 (IntKind.i64.wrap (g6 + (1 : Int)))] x6)
(fun c7 d7 => Enters Tryz.prog 86 ∧ FnD Tryz.prog B 86 #[.pointer a0, .pointer b0] (.panicking c7) (dfE fun e7 f7 => lvW (fun g7 => isP w5 fun i7 j7 => ∃ k7 l7 m7, cS g7 i7 j7 k7 l7 m7 ∧
 isP x5 fun n7 o7 => ∃ p7, cI g7 n7 o7 .i64 p7 ∧
 R (.returned (.tuple #[.slice k7 l7 m7, .int .i64 p7])) g7) (pk R) e7 f7) d7)) t6)
(fun q7 r7 => Enters Tryz.prog 86 ∧ FnD Tryz.prog B 86 #[.pointer a0, .pointer b0] (.panicking q7) (dfE fun s7 t7 => lvW (fun u7 => isP w5 fun v7 w7 => ∃ x7 y7 z7, cS u7 v7 w7 x7 y7 z7 ∧
 isP x5 fun a8 b8 => ∃ c8, cI u7 a8 b8 .i64 c8 ∧
 R (.returned (.tuple #[.slice x7 y7 z7, .int .i64 c8])) u7) (pk R) s7 t7) r7)) o6)
(fun d8 e8 => Enters Tryz.prog 86 ∧ FnD Tryz.prog B 86 #[.pointer a0, .pointer b0] (.panicking d8) (dfE fun f8 g8 => lvW (fun i8 => isP w5 fun j8 k8 => ∃ l8 m8 n8, cS i8 j8 k8 l8 m8 n8 ∧
 isP x5 fun o8 p8 => ∃ q8, cI i8 o8 p8 .i64 q8 ∧
 R (.returned (.tuple #[.slice l8 m8 n8, .int .i64 q8])) i8) (pk R) f8 g8) e8)) v5) ∧
((decide (g6 < f6)) = false →
 Ec B 108 #[.slice z5 a6 b6, .int .i64 y5] (retE (fun r8 s8 => ∃ t8 u8 v8, r8 = .slice t8 u8 v8 ∧
 Ec B 89 #[.slice t8 u8 v8] (retE (fun w8 x8 => ∃ y8 z8 a9 b9, w8 = .tuple #[.slice y8 z8 a9, .int .i64 b9] ∧
 isP w5 fun c9 d9 => stC x8 c9 d9 (.slice y8 z8 a9) fun e9 =>
 isP x5 fun f9 g9 => stC e9 f9 g9 (.int .i64 b9) fun i9 =>
 Enters Tryz.prog 86 ∧ FnD Tryz.prog B 86 #[.pointer a0, .pointer b0] .returning (dfE fun j9 k9 => lvW (fun l9 => isP w5 fun m9 n9 => ∃ o9 p9 q9, cS l9 m9 n9 o9 p9 q9 ∧
 isP x5 fun r9 s9 => ∃ t9, cI l9 r9 s9 .i64 t9 ∧
 R (.returned (.tuple #[.slice o9 p9 q9, .int .i64 t9])) l9) (pk R) j9 k9) i9)
(fun u9 v9 => Enters Tryz.prog 86 ∧ FnD Tryz.prog B 86 #[.pointer a0, .pointer b0] (.panicking u9) (dfE fun w9 x9 => lvW (fun y9 => isP w5 fun z9 a10 => ∃ b10 c10 d10, cS y9 z9 a10 b10 c10 d10 ∧
 isP x5 fun e10 f10 => ∃ g10, cI y9 e10 f10 .i64 g10 ∧
 R (.returned (.tuple #[.slice b10 c10 d10, .int .i64 g10])) y9) (pk R) w9 x9) v9)) s8)
(fun i10 j10 => Enters Tryz.prog 86 ∧ FnD Tryz.prog B 86 #[.pointer a0, .pointer b0] (.panicking i10) (dfE fun k10 l10 => lvW (fun m10 => isP w5 fun n10 o10 => ∃ p10 q10 r10, cS m10 n10 o10 p10 q10 r10 ∧
 isP x5 fun s10 t10 => ∃ u10, cI m10 s10 t10 .i64 u10 ∧
 R (.returned (.tuple #[.slice p10 q10 r10, .int .i64 u10])) m10) (pk R) k10 l10) j10)) v5)))
def F46 (B : World) (R : Po) (v10 : OA) (w10 x10 : Nat) (h : Heap) : Prop :=
 alW h (.cells #[.slice none 0 0] 27) fun y10 z10 =>
 alW z10 (.cells #[.int .i64 0] 30) fun a11 b11 =>
 alW b11 (.cells #[.slice v10 w10 x10] 27) fun c11 d11 =>
 Ec B 87 #[.slice (some ⟨c11, 0, none⟩) 1 1] (retE (fun e11 f11 => ∃ g11, e11 = .int .i64 g11 ∧
((!decide (g11 = (0 : Int))) = true →
 F46_j24 B R v10 w10 x10 (some ⟨y10, 0, none⟩) (some ⟨a11, 0, none⟩) g11 true (some ⟨y10, 0, none⟩) (some ⟨a11, 0, none⟩) f11) ∧
((!decide (g11 = (0 : Int))) = false →
 F46_j24 B R v10 w10 x10 (some ⟨y10, 0, none⟩) (some ⟨a11, 0, none⟩) g11 (decide ((w10 : Int) = (0 : Int))) (some ⟨y10, 0, none⟩) (some ⟨a11, 0, none⟩) f11))
(fun i11 j11 => Enters Tryz.prog 86 ∧ FnD Tryz.prog B 86 #[.pointer (some ⟨y10, 0, none⟩), .pointer (some ⟨a11, 0, none⟩)] (.panicking i11) (dfE fun k11 l11 => lvW (fun m11 => iP y10 0 fun n11 o11 => ∃ p11 q11 r11, cS m11 n11 o11 p11 q11 r11 ∧
 iP a11 0 fun s11 t11 => ∃ u11, cI m11 s11 t11 .i64 u11 ∧
 R (.returned (.tuple #[.slice p11 q11 r11, .int .i64 u11])) m11) (pk R) k11 l11) j11)) d11
def F46_L : Nat → List (Nat × TypeDesc) := fun i => match i with
  | 10 => [(0, .slice 0), (2, .pointer 0), (3, .pointer 0), (5, .int .i64), (6, .slice 0), (7, .int .i64), (8, .int .i64), (39, .int .i64), (40, .int .i64)]
  | 24 => [(2, .pointer 0), (3, .pointer 0), (8, .int .i64), (12, .slice 0), (84, .slice 0), (85, .int .i64), (86, .int .i64)]
  | _ => []
theorem F46_ok {B : World} {R : Ending → Heap → Prop} (v10 : OA) (w10 x10 : Nat) {h : Heap} (H : F46 B R v10 w10 x10 h) : Ec B 46 #[.slice v10 w10 x10] R h :=
 Ed Tryz.func46 (by kernel_rfl) (by kernel_rfl) (by kernel_rfl) F46_L [] (by kernel_rfl) H

/-- plumb/expansion.Sign -/
def F47 (B : World) (R : Po) (a0 : OA) (b0 c0 : Nat) (h : Heap) : Prop :=
 alW h (.cells #[.slice a0 b0 c0] 27) fun d0 e0 =>
 Ec B 87 #[.slice (some ⟨d0, 0, none⟩) 1 1] (retE (fun f0 g0 => ∃ i0, f0 = .int .i64 i0 ∧
((!decide (i0 = (0 : Int))) = true →
 R (.returned (.tuple #[.int .i64 (0 : Int), .int .i64 i0])) g0) ∧
((!decide (i0 = (0 : Int))) = false →
((decide ((b0 : Int) = (0 : Int))) = true →
 R (.returned (.tuple #[.int .i64 (0 : Int), .int .i64 (0 : Int)])) g0) ∧
((decide ((b0 : Int) = (0 : Int))) = false →
 ixW a0 b0 (IntKind.i64.wrap ((b0 : Int) - (1 : Int))) 1 fun j0 k0 =>
 iP j0 k0 fun l0 m0 => ∃ n0, cI g0 l0 m0 .i64 n0 ∧
((decide (n0 < (0 : Int))) = true →
 R (.returned (.tuple #[.int .i64 (-1 : Int), .int .i64 (0 : Int)])) g0) ∧
((decide (n0 < (0 : Int))) = false →
 R (.returned (.tuple #[.int .i64 (1 : Int), .int .i64 (0 : Int)])) g0))))
(pk R)) e0
def F47_L : Nat → List (Nat × TypeDesc) := fun _ => []
theorem F47_ok {B : World} {R : Ending → Heap → Prop} (a0 : OA) (b0 c0 : Nat) {h : Heap} (H : F47 B R a0 b0 c0 h) : Ec B 47 #[.slice a0 b0 c0] R h :=
 Ek Tryz.func47 (by kernel_rfl) (by kernel_rfl) (by kernel_rfl) F47_L [] (by kernel_rfl) H

/-- plumb/expansion.Exact -/
def F95 (B : World) (R : Po) (a0 : OA) (b0 c0 : Nat) (h : Heap) : Prop :=
 alW h (.cells #[.bool false, .slice none 0 0, .int .i64 0] 29) fun d0 e0 =>
 alW e0 (.cells #[.slice a0 b0 c0] 27) fun f0 g0 =>
 Ec B 87 #[.slice (some ⟨f0, 0, none⟩) 1 1] (retE (fun i0 j0 => ∃ k0, i0 = .int .i64 k0 ∧
((!decide (k0 = (0 : Int))) = true →
 iP d0 0 fun l0 m0 => stC j0 l0 m0 (.bool false) fun n0 =>
 stC n0 l0 (m0 + 1) (.slice none 0 0) fun o0 =>
 stC o0 l0 (m0 + 1 + 1) (.int .i64 0) fun p0 =>
 iP d0 0 fun q0 r0 =>
∃ s0, cell? p0 ⟨q0, r0, none⟩ = some (.bool s0) ∧
∃ t0 u0 v0, cell? p0 ⟨q0, r0 + 1, none⟩ = some (.slice t0 u0 v0) ∧
∃ w0, cell? p0 ⟨q0, r0 + 1 + 1, none⟩ = some (.int .i64 w0) ∧
 R (.returned (.tuple #[.agg #[.bool s0, .slice t0 u0 v0, .int .i64 w0], .int .i64 k0])) p0) ∧
((!decide (k0 = (0 : Int))) = false →
 0 ≤ (b0 : Int) ∧ (b0 : Int) ≤ (b0 : Int) ∧ 40 * (b0 : Int) ≤ 281474976710656 ∧ (b0 : Int) < 9223372036854775808 ∧
 alW j0 (.cells (mkCells #[.bool false, .slice none 0 0, .int .i64 0] (Int.toNat (b0 : Int) * 3)) 29) fun x0 y0 =>
∃ z0 : Lp, ∃ a1, z0 a1 [.slice a0 b0 c0, .pointer (some ⟨d0, 0, none⟩), .slice (some ⟨x0, 0, none⟩) (Int.toNat (b0 : Int)) (Int.toNat (b0 : Int)), .int .i64 (b0 : Int), .int .i64 (0 : Int)] y0 ∧
∀ (b1 : Nat) (c1 : Heap) (d1 : OA) (e1 f1 : Nat) (g1 i1 : OA) (j1 k1 : Nat) (l1 m1 : Int), z0 b1 [.slice d1 e1 f1, .pointer g1, .slice i1 j1 k1, .int .i64 l1, .int .i64 m1] c1 → ∀ _r : Nat → Value,
((decide (m1 < l1)) = true →
 ixW d1 e1 m1 1 fun n1 o1 =>
 iP n1 o1 fun p1 q1 => ∃ r1, cI c1 p1 q1 .i64 r1 ∧
 Ec B 21 #[.int .i64 r1] (retE (fun s1 t1 => ∃ u1 v1 w1 x1 y1 z1, s1 = .tuple #[.agg #[.bool u1, .slice v1 w1 x1, .int .i64 y1], .int .i64 z1] ∧
 ixW i1 j1 m1 3 fun a2 b2 =>
 iP a2 b2 fun c2 d2 => stC t1 c2 d2 (.bool u1) fun e2 =>
 stC e2 c2 (d2 + 1) (.slice v1 w1 x1) fun f2 =>
 stC f2 c2 (d2 + 1 + 1) (.int .i64 y1) fun g2 =>
∃ i2, i2 < b1 ∧ z0 i2 [.slice d1 e1 f1, .pointer g1, .slice i1 j1 k1, .int .i64 l1, .int .i64 (IntKind.i64.wrap (m1 + (1 : Int)))] g2)
(pk R)) c1) ∧
((decide (m1 < l1)) = false →
 Ec B 119 #[.slice i1 j1 k1] (retE (fun j2 k2 => ∃ l2 m2 n2 o2 p2 q2, j2 = .tuple #[.agg #[.bool l2, .slice m2 n2 o2, .int .i64 p2], .int .i64 q2] ∧
 isP g1 fun r2 s2 => stC k2 r2 s2 (.bool l2) fun t2 =>
 stC t2 r2 (s2 + 1) (.slice m2 n2 o2) fun u2 =>
 stC u2 r2 (s2 + 1 + 1) (.int .i64 p2) fun v2 =>
 isP g1 fun w2 x2 =>
∃ y2, cell? v2 ⟨w2, x2, none⟩ = some (.bool y2) ∧
∃ z2 a3 b3, cell? v2 ⟨w2, x2 + 1, none⟩ = some (.slice z2 a3 b3) ∧
∃ c3, cell? v2 ⟨w2, x2 + 1 + 1, none⟩ = some (.int .i64 c3) ∧
 R (.returned (.tuple #[.agg #[.bool y2, .slice z2 a3 b3, .int .i64 c3], .int .i64 q2])) v2)
(pk R)) c1)))
(pk R)) g0
def F95_L : Nat → List (Nat × TypeDesc) := fun i => match i with
  | 6 => [(0, .slice 0), (2, .pointer 0), (5, .slice 0), (18, .int .i64), (19, .int .i64)]
  | _ => []
theorem F95_ok {B : World} {R : Ending → Heap → Prop} (a0 : OA) (b0 c0 : Nat) {h : Heap} (H : F95 B R a0 b0 c0 h) : Ec B 95 #[.slice a0 b0 c0] R h :=
 Ek Tryz.func95 (by kernel_rfl) (by kernel_rfl) (by kernel_rfl) F95_L [] (by kernel_rfl) H

end Go.Proofs
