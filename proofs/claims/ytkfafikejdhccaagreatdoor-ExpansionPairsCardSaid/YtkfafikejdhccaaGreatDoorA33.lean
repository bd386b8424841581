import Derived.Test.YtkfafikejdhccaaGreatDoorA20
/- Here stand lemmas: what further functions come to (written by program). -/
set_option linter.unusedVariables false
namespace Go.Proofs
open Go Go.Eng
/-- plumb/expansion.Diff -/
def F43 (B : World) (R : Po) (a0 : OA) (b0 c0 : Nat) (d0 : OA) (e0 f0 : Nat) (h : Heap) : Prop :=
 alW h (.cells #[.slice none 0 0] 27) fun g0 i0 =>
 alW i0 (.cells #[.int .i64 0] 30) fun j0 k0 =>
 alW k0 (.cells #[.slice a0 b0 c0, .slice d0 e0 f0] 27) fun l0 m0 =>
 Ec B 87 #[.slice (some ⟨l0, 0, none⟩) 2 2] (retE (fun n0 o0 => ∃ p0, n0 = .int .i64 p0 ∧
((!decide (p0 = (0 : Int))) = true →
 iP g0 0 fun q0 r0 => stC o0 q0 r0 (.slice none 0 0) fun s0 =>
 iP j0 0 fun t0 u0 => stC s0 t0 u0 (.int .i64 p0) fun v0 =>
 Enters Tryz.prog 86 ∧ FnD Tryz.prog B 86 #[.pointer (some ⟨g0, 0, none⟩), .pointer (some ⟨j0, 0, none⟩)] .returning (dfE fun w0 x0 => lvW (fun y0 => iP g0 0 fun z0 a1 => ∃ b1 c1 d1, cS y0 z0 a1 b1 c1 d1 ∧
 iP j0 0 fun e1 f1 => ∃ g1, cI y0 e1 f1 .i64 g1 ∧
 R (.returned (.tuple #[.slice b1 c1 d1, .int .i64 g1])) y0) (pk R) w0 x0) v0) ∧
((!decide (p0 = (0 : Int))) = false →
 0 ≤ (e0 : Int) ∧ (e0 : Int) ≤ (e0 : Int) ∧ 8 * (e0 : Int) ≤ 281474976710656 ∧ (e0 : Int) < 9223372036854775808 ∧
 alW o0 (.cells (mkCells #[.int .i64 0] (Int.toNat (e0 : Int) * 1)) 3) fun i1 j1 =>
∃ k1 : Lp, ∃ l1, k1 l1 [.slice a0 b0 c0, .slice d0 e0 f0, .pointer (some ⟨g0, 0, none⟩), .pointer (some ⟨j0, 0, none⟩), .slice (some ⟨i1, 0, none⟩) (Int.toNat (e0 : Int)) (Int.toNat (e0 : Int)), .int .i64 (e0 : Int), .int .i64 (0 : Int)] j1 ∧
∀ (m1 : Nat) (n1 : Heap) (o1 : OA) (p1 q1 : Nat) (r1 : OA) (s1 t1 : Nat) (u1 v1 w1 : OA) (x1 y1 : Nat) (z1 a2 : Int), k1 m1 [.slice o1 p1 q1, .slice r1 s1 t1, .pointer u1, .pointer v1, .slice w1 x1 y1, .int .i64 z1, .int .i64 a2] n1 → ∀ _r : Nat → Value,
((decide (a2 < z1)) = true →
 ixW r1 s1 a2 1 fun b2 c2 =>
 iP b2 c2 fun d2 e2 => ∃ f2, cI n1 d2 e2 .i64 f2 ∧
 Ec B 99 #[.int .i64 f2] (retE (fun g2 i2 => ∃ j2, g2 = .int .i64 j2 ∧
 ixW w1 x1 a2 1 fun k2 l2 =>
 iP k2 l2 fun m2 n2 => stC i2 m2 n2 (.int .i64 j2) fun o2 =>
([{ target := .fn (.func 86) #[], args := #[.pointer (some ⟨g0, 0, none⟩), .pointer (some ⟨j0, 0, none⟩)] }] : List Deferred) = [{ target := .fn (.func 86) #[], args := #[.pointer (some ⟨g0, 0, none⟩), .pointer (some ⟨j0, 0, none⟩)] }] ∧ ∃ p2, p2 < m1 ∧ k1 p2 [.slice o1 p1 q1, .slice r1 s1 t1, .pointer u1, .pointer v1, .slice w1 x1 y1, .int .i64 z1, .int .i64 (IntKind.i64.wrap (a2 + (1 : Int)))] o2)
(fun q2 r2 => Enters Tryz.prog 86 ∧ FnD Tryz.prog B 86 #[.pointer (some ⟨g0, 0, none⟩), .pointer (some ⟨j0, 0, none⟩)] (.panicking q2) (dfE fun s2 t2 => lvW (fun u2 => isP u1 fun v2 w2 => ∃ x2 y2 z2, cS u2 v2 w2 x2 y2 z2 ∧
 isP v1 fun a3 b3 => ∃ c3, cI u2 a3 b3 .i64 c3 ∧
 R (.returned (.tuple #[.slice x2 y2 z2, .int .i64 c3])) u2) (pk R) s2 t2) r2)) n1) ∧
((decide (a2 < z1)) = false →
 Ec B 92 #[.slice o1 p1 q1, .slice w1 x1 y1] (retE (fun d3 e3 => ∃ f3 g3 i3, d3 = .slice f3 g3 i3 ∧
 Ec B 89 #[.slice f3 g3 i3] (retE (fun j3 k3 => ∃ l3 m3 n3 o3, j3 = .tuple #[.slice l3 m3 n3, .int .i64 o3] ∧
 isP u1 fun p3 q3 => stC k3 p3 q3 (.slice l3 m3 n3) fun r3 =>
 isP v1 fun s3 t3 => stC r3 s3 t3 (.int .i64 o3) fun u3 =>
 Enters Tryz.prog 86 ∧ FnD Tryz.prog B 86 #[.pointer (some ⟨g0, 0, none⟩), .pointer (some ⟨j0, 0, none⟩)] .returning (dfE fun v3 w3 => lvW (fun x3 => isP u1 fun y3 z3 => ∃ a4 b4 c4, cS x3 y3 z3 a4 b4 c4 ∧
 isP v1 fun d4 e4 => ∃ f4, cI x3 d4 e4 .i64 f4 ∧
 R (.returned (.tuple #[.slice a4 b4 c4, .int .i64 f4])) x3) (pk R) v3 w3) u3)
(fun g4 i4 => Enters Tryz.prog 86 ∧ FnD Tryz.prog B 86 #[.pointer (some ⟨g0, 0, none⟩), .pointer (some ⟨j0, 0, none⟩)] (.panicking g4) (dfE fun j4 k4 => lvW (fun l4 => isP u1 fun m4 n4 => ∃ o4 p4 q4, cS l4 m4 n4 o4 p4 q4 ∧
 isP v1 fun r4 s4 => ∃ t4, cI l4 r4 s4 .i64 t4 ∧
 R (.returned (.tuple #[.slice o4 p4 q4, .int .i64 t4])) l4) (pk R) j4 k4) i4)) e3)
(fun u4 v4 => Enters Tryz.prog 86 ∧ FnD Tryz.prog B 86 #[.pointer (some ⟨g0, 0, none⟩), .pointer (some ⟨j0, 0, none⟩)] (.panicking u4) (dfE fun w4 x4 => lvW (fun y4 => isP u1 fun z4 a5 => ∃ b5 c5 d5, cS y4 z4 a5 b5 c5 d5 ∧
 isP v1 fun e5 f5 => ∃ g5, cI y4 e5 f5 .i64 g5 ∧
 R (.returned (.tuple #[.slice b5 c5 d5, .int .i64 g5])) y4) (pk R) w4 x4) v4)) n1)))
(fun i5 j5 => Enters Tryz.prog 86 ∧ FnD Tryz.prog B 86 #[.pointer (some ⟨g0, 0, none⟩), .pointer (some ⟨j0, 0, none⟩)] (.panicking i5) (dfE fun k5 l5 => lvW (fun m5 => iP g0 0 fun n5 o5 => ∃ p5 q5 r5, cS m5 n5 o5 p5 q5 r5 ∧
 iP j0 0 fun s5 t5 => ∃ u5, cI m5 s5 t5 .i64 u5 ∧
 R (.returned (.tuple #[.slice p5 q5 r5, .int .i64 u5])) m5) (pk R) k5 l5) j5)) m0
def F43_L : Nat → List (Nat × TypeDesc) := fun i => match i with
  | 7 => [(0, .slice 0), (1, .slice 0), (4, .pointer 0), (5, .pointer 0), (7, .slice 0), (20, .int .i64), (21, .int .i64)]
  | _ => []
theorem F43_ok {B : World} {R : Ending → Heap → Prop} (a0 : OA) (b0 c0 : Nat) (d0 : OA) (e0 f0 : Nat) {h : Heap} (H : F43 B R a0 b0 c0 d0 e0 f0 h) : Ec B 43 #[.slice a0 b0 c0, .slice d0 e0 f0] R h :=
 Ed Tryz.func43 (by kernel_rfl) (by kernel_rfl) (by kernel_rfl) F43_L [] (by kernel_rfl) H

/-- plumb/expansion.Product -/
def F40 (B : World) (R : Po) (a0 : OA) (b0 c0 : Nat) (d0 : OA) (e0 f0 : Nat) (h : Heap) : Prop :=
 alW h (.cells #[.slice none 0 0] 27) fun g0 i0 =>
 alW i0 (.cells #[.int .i64 0] 30) fun j0 k0 =>
 alW k0 (.cells #[.slice a0 b0 c0, .slice d0 e0 f0] 27) fun l0 m0 =>
 Ec B 87 #[.slice (some ⟨l0, 0, none⟩) 2 2] (retE (fun n0 o0 => ∃ p0, n0 = .int .i64 p0 ∧
((!decide (p0 = (0 : Int))) = true →
 iP g0 0 fun q0 r0 => stC o0 q0 r0 (.slice none 0 0) fun s0 =>
 iP j0 0 fun t0 u0 => stC s0 t0 u0 (.int .i64 p0) fun v0 =>
 Enters Tryz.prog 86 ∧ FnD Tryz.prog B 86 #[.pointer (some ⟨g0, 0, none⟩), .pointer (some ⟨j0, 0, none⟩)] .returning (dfE fun w0 x0 => lvW (fun y0 => iP g0 0 fun z0 a1 => ∃ b1 c1 d1, cS y0 z0 a1 b1 c1 d1 ∧
 iP j0 0 fun e1 f1 => ∃ g1, cI y0 e1 f1 .i64 g1 ∧
 R (.returned (.tuple #[.slice b1 c1 d1, .int .i64 g1])) y0) (pk R) w0 x0) v0) ∧
((!decide (p0 = (0 : Int))) = false →
 ∃ i1 : Lp, ∃ j1, i1 j1 [.slice a0 b0 c0, .pointer (some ⟨g0, 0, none⟩), .pointer (some ⟨j0, 0, none⟩), .slice none 0 0, .slice d0 e0 f0, .int .i64 (e0 : Int), .int .i64 (0 : Int)] o0 ∧
∀ (k1 : Nat) (l1 : Heap) (m1 : OA) (n1 o1 : Nat) (p1 q1 r1 : OA) (s1 t1 : Nat) (u1 : OA) (v1 w1 : Nat) (x1 y1 : Int), i1 k1 [.slice m1 n1 o1, .pointer p1, .pointer q1, .slice r1 s1 t1, .slice u1 v1 w1, .int .i64 x1, .int .i64 y1] l1 → ∀ _r : Nat → Value,
((decide (y1 < x1)) = true →
 ixW u1 v1 y1 1 fun z1 a2 =>
 iP z1 a2 fun b2 c2 => ∃ d2, cI l1 b2 c2 .i64 d2 ∧
 Ec B 91 #[.slice m1 n1 o1, .int .i64 d2] (retE (fun e2 f2 => ∃ g2 i2 j2, e2 = .slice g2 i2 j2 ∧
 Ec B 92 #[.slice r1 s1 t1, .slice g2 i2 j2] (retE (fun k2 l2 => ∃ m2 n2 o2, k2 = .slice m2 n2 o2 ∧
([{ target := .fn (.func 86) #[], args := #[.pointer (some ⟨g0, 0, none⟩), .pointer (some ⟨j0, 0, none⟩)] }] : List Deferred) = [{ target := .fn (.func 86) #[], args := #[.pointer (some ⟨g0, 0, none⟩), .pointer (some ⟨j0, 0, none⟩)] }] ∧ ∃ p2, p2 < k1 ∧ i1 p2 [.slice m1 n1 o1, .pointer p1, .pointer q1, .slice m2 n2 o2, .slice u1 v1 w1, .int .i64 x1, .int .i64 (IntKind.i64.wrap (y1 + (1 : Int)))] l2)
(fun q2 r2 => Enters Tryz.prog 86 ∧ FnD Tryz.prog B 86 #[.pointer (some ⟨g0, 0, none⟩), .pointer (some ⟨j0, 0, none⟩)] (.panicking q2) (dfE fun s2 t2 => lvW (fun u2 => isP p1 fun v2 w2 => ∃ x2 y2 z2, cS u2 v2 w2 x2 y2 z2 ∧
 isP q1 fun a3 b3 => ∃ c3, cI u2 a3 b3 .i64 c3 ∧
 R (.returned (.tuple #[.slice x2 y2 z2, .int .i64 c3])) u2) (pk R) s2 t2) r2)) f2)
(fun d3 e3 => Enters Tryz.prog 86 ∧ FnD Tryz.prog B 86 #[.pointer (some ⟨g0, 0, none⟩), .pointer (some ⟨j0, 0, none⟩)] (.panicking d3) (dfE fun f3 g3 => lvW (fun i3 => isP p1 fun j3 k3 => ∃ l3 m3 n3, cS i3 j3 k3 l3 m3 n3 ∧
 isP q1 fun o3 p3 => ∃ q3, cI i3 o3 p3 .i64 q3 ∧
 R (.returned (.tuple #[.slice l3 m3 n3, .int .i64 q3])) i3) (pk R) f3 g3) e3)) l1) ∧
((decide (y1 < x1)) = false →
 Ec B 89 #[.slice r1 s1 t1] (retE (fun r3 s3 => ∃ t3 u3 v3 w3, r3 = .tuple #[.slice t3 u3 v3, .int .i64 w3] ∧
 isP p1 fun x3 y3 => stC s3 x3 y3 (.slice t3 u3 v3) fun z3 =>
 isP q1 fun a4 b4 => stC z3 a4 b4 (.int .i64 w3) fun c4 =>
 Enters Tryz.prog 86 ∧ FnD Tryz.prog B 86 #[.pointer (some ⟨g0, 0, none⟩), .pointer (some ⟨j0, 0, none⟩)] .returning (dfE fun d4 e4 => lvW (fun f4 => isP p1 fun g4 i4 => ∃ j4 k4 l4, cS f4 g4 i4 j4 k4 l4 ∧
 isP q1 fun m4 n4 => ∃ o4, cI f4 m4 n4 .i64 o4 ∧
 R (.returned (.tuple #[.slice j4 k4 l4, .int .i64 o4])) f4) (pk R) d4 e4) c4)
(fun p4 q4 => Enters Tryz.prog 86 ∧ FnD Tryz.prog B 86 #[.pointer (some ⟨g0, 0, none⟩), .pointer (some ⟨j0, 0, none⟩)] (.panicking p4) (dfE fun r4 s4 => lvW (fun t4 => isP p1 fun u4 v4 => ∃ w4 x4 y4, cS t4 u4 v4 w4 x4 y4 ∧
 isP q1 fun z4 a5 => ∃ b5, cI t4 z4 a5 .i64 b5 ∧
 R (.returned (.tuple #[.slice w4 x4 y4, .int .i64 b5])) t4) (pk R) r4 s4) q4)) l1)))
(fun c5 d5 => Enters Tryz.prog 86 ∧ FnD Tryz.prog B 86 #[.pointer (some ⟨g0, 0, none⟩), .pointer (some ⟨j0, 0, none⟩)] (.panicking c5) (dfE fun e5 f5 => lvW (fun g5 => iP g0 0 fun i5 j5 => ∃ k5 l5 m5, cS g5 i5 j5 k5 l5 m5 ∧
 iP j0 0 fun n5 o5 => ∃ p5, cI g5 n5 o5 .i64 p5 ∧
 R (.returned (.tuple #[.slice k5 l5 m5, .int .i64 p5])) g5) (pk R) e5 f5) d5)) m0
def F40_L : Nat → List (Nat × TypeDesc) := fun i => match i with
  | 7 => [(0, .slice 0), (4, .pointer 0), (5, .pointer 0), (7, .slice 0), (17, .slice 0), (18, .int .i64), (19, .int .i64)]
  | _ => []
theorem F40_ok {B : World} {R : Ending → Heap → Prop} (a0 : OA) (b0 c0 : Nat) (d0 : OA) (e0 f0 : Nat) {h : Heap} (H : F40 B R a0 b0 c0 d0 e0 f0 h) : Ec B 40 #[.slice a0 b0 c0, .slice d0 e0 f0] R h :=
 Ed Tryz.func40 (by kernel_rfl) (by kernel_rfl) (by kernel_rfl) F40_L [] (by kernel_rfl) H

/-- plumb/plumblaw7.pairs -/
def F42_j132 (B : World) (R : Po) (a0 : Bool) (b0 : Heap) : Prop :=
 R (.returned (.bool a0)) b0
def F42_j173 (B : World) (R : Po) (c0 : Bool) (d0 : Heap) : Prop :=
 R (.returned (.bool c0)) d0
def F42_j105 (B : World) (R : Po) (e0 f0 : OA) (g0 i0 : Nat) (j0 : OA) (k0 l0 : Nat) (m0 : OA) (n0 o0 : Nat) (p0 : Int) (q0 : OA) (r0 s0 : Nat) (t0 : Int) (u0 : OA) (v0 w0 : Nat) (x0 : Int) (y0 : Bool) (z0 : Heap) : Prop :=
(y0 = true →
 Ec B 85 #[.pointer e0, .slice m0 n0 o0, .int .i64 p0, .int .i64 (1 : Int), .slice none 0 0, .int .i64 (0 : Int)] (retE (fun a1 b1 => ∃ c1, a1 = .bool c1 ∧
(c1 = true →
 Ec B 85 #[.pointer e0, .slice q0 r0 s0, .int .i64 t0, .int .i64 (1 : Int), .slice none 0 0, .int .i64 (0 : Int)] (retE (fun d1 e1 => ∃ f1, d1 = .bool f1 ∧
(f1 = true →
 Ec B 85 #[.pointer e0, .slice u0 v0 w0, .int .i64 x0, .int .i64 (1 : Int), .slice none 0 0, .int .i64 (0 : Int)] (retE (fun g1 i1 => ∃ j1, g1 = .bool j1 ∧
 F42_j132 B R j1 i1)
(pk R)) e1) ∧
(f1 = false →
 F42_j132 B R false e1))
(pk R)) b1) ∧
(c1 = false →
(false = true →
 Ec B 85 #[.pointer e0, .slice u0 v0 w0, .int .i64 x0, .int .i64 (1 : Int), .slice none 0 0, .int .i64 (0 : Int)] (retE (fun k1 l1 => ∃ m1, k1 = .bool m1 ∧
 F42_j132 B R m1 l1)
(pk R)) b1) ∧
(false = false →
 F42_j132 B R false b1)))
(pk R)) z0) ∧
(y0 = false →
 Ec B 96 #[.slice f0 g0 i0, .slice j0 k0 l0] (retE (fun n1 o1 => ∃ p1 q1 r1 s1, n1 = .tuple #[.slice p1 q1 r1, .int .i64 s1] ∧
 Ec B 97 #[.slice f0 g0 i0, .slice j0 k0 l0] (retE (fun t1 u1 => ∃ v1 w1 x1 y1, t1 = .tuple #[.slice v1 w1 x1, .int .i64 y1] ∧
 Ec B 98 #[.slice f0 g0 i0, .slice j0 k0 l0] (retE (fun z1 a2 => ∃ b2 c2 d2 e2, z1 = .tuple #[.slice b2 c2 d2, .int .i64 e2] ∧
 Ec B 85 #[.pointer e0, .slice m0 n0 o0, .int .i64 p0, .int .i64 (0 : Int), .slice p1 q1 r1, .int .i64 s1] (retE (fun f2 g2 => ∃ i2, f2 = .bool i2 ∧
(i2 = true →
 Ec B 85 #[.pointer e0, .slice q0 r0 s0, .int .i64 t0, .int .i64 (0 : Int), .slice v1 w1 x1, .int .i64 y1] (retE (fun j2 k2 => ∃ l2, j2 = .bool l2 ∧
(l2 = true →
 Ec B 85 #[.pointer e0, .slice u0 v0 w0, .int .i64 x0, .int .i64 (0 : Int), .slice b2 c2 d2, .int .i64 e2] (retE (fun m2 n2 => ∃ o2, m2 = .bool o2 ∧
 F42_j173 B R o2 n2)
(pk R)) k2) ∧
(l2 = false →
 F42_j173 B R false k2))
(pk R)) g2) ∧
(i2 = false →
(false = true →
 Ec B 85 #[.pointer e0, .slice u0 v0 w0, .int .i64 x0, .int .i64 (0 : Int), .slice b2 c2 d2, .int .i64 e2] (retE (fun p2 q2 => ∃ r2, p2 = .bool r2 ∧
 F42_j173 B R r2 q2)
(pk R)) g2) ∧
(false = false →
 F42_j173 B R false g2)))
(pk R)) a2)
(pk R)) u1)
(pk R)) o1)
(pk R)) z0)
def F42_j88 (B : World) (R : Po) (s2 t2 : OA) (u2 v2 : Nat) (w2 : OA) (x2 y2 : Nat) (z2 : OA) (a3 b3 : Nat) (c3 : Int) (d3 : OA) (e3 f3 : Nat) (g3 : Int) (i3 : OA) (j3 k3 : Nat) (l3 : Int) (m3 : Bool) (n3 : Heap) : Prop :=
(m3 = true →
 R (.returned (.bool false)) n3) ∧
(m3 = false →
 Ec B 78 #[.slice t2 u2 v2] (retE (fun o3 p3 => ∃ q3, o3 = .bool q3 ∧
((!q3) = true →
 F42_j105 B R s2 t2 u2 v2 w2 x2 y2 z2 a3 b3 c3 d3 e3 f3 g3 i3 j3 k3 l3 true p3) ∧
((!q3) = false →
 Ec B 78 #[.slice w2 x2 y2] (retE (fun r3 s3 => ∃ t3, r3 = .bool t3 ∧
 F42_j105 B R s2 t2 u2 v2 w2 x2 y2 z2 a3 b3 c3 d3 e3 f3 g3 i3 j3 k3 l3 (!t3) s3)
(pk R)) p3))
(pk R)) n3)
def F42_j70 (B : World) (R : Po) (u3 v3 : OA) (w3 x3 : Nat) (y3 : OA) (z3 a4 : Nat) (b4 : OA) (c4 d4 : Nat) (e4 : OA) (f4 g4 : Nat) (i4 : OA) (j4 k4 : Nat) (l4 : Int) (m4 : OA) (n4 o4 : Nat) (p4 : Int) (q4 : OA) (r4 s4 : Nat) (t4 : Int) (u4 : Heap) : Prop :=
 Ec B 81 #[.slice b4 c4 d4, .slice v3 w3 x3] (retE (fun v4 w4 => ∃ x4, v4 = .bool x4 ∧
((!x4) = true →
 F42_j88 B R u3 v3 w3 x3 y3 z3 a4 i4 j4 k4 l4 m4 n4 o4 p4 q4 r4 s4 t4 true w4) ∧
((!x4) = false →
 Ec B 81 #[.slice e4 f4 g4, .slice y3 z3 a4] (retE (fun y4 z4 => ∃ a5, y4 = .bool a5 ∧
 F42_j88 B R u3 v3 w3 x3 y3 z3 a4 i4 j4 k4 l4 m4 n4 o4 p4 q4 r4 s4 t4 (!a5) z4)
(pk R)) w4))
(pk R)) u4
def F42_j47 (B : World) (R : Po) (b5 c5 : OA) (d5 e5 : Nat) (f5 : OA) (g5 i5 : Nat) (j5 : OA) (k5 l5 : Nat) (m5 : OA) (n5 o5 : Nat) (p5 : OA) (q5 r5 : Nat) (s5 : Int) (t5 : OA) (u5 v5 : Nat) (w5 : Int) (x5 : Heap) : Prop :=
 slW k5 l5 none (some (.int .i64 (d5 : Int))) none fun y5 z5 a6 =>
 slW n5 o5 none (some (.int .i64 (g5 : Int))) none fun b6 c6 d6 =>
 Ec B 40 #[.slice (slP j5 y5 a6 1) (z5 - y5) (a6 - y5), .slice (slP m5 b6 d6 1) (c6 - b6) (d6 - b6)] (retE (fun e6 f6 => ∃ g6 i6 j6 k6, e6 = .tuple #[.slice g6 i6 j6, .int .i64 k6] ∧
 F42_j70 B R b5 c5 d5 e5 f5 g5 i5 j5 k5 l5 m5 n5 o5 p5 q5 r5 s5 t5 u5 v5 w5 g6 i6 j6 k6 f6)
(fun _ _ => False)) x5
def F42_j26 (B : World) (R : Po) (l6 m6 : OA) (n6 o6 : Nat) (p6 : OA) (q6 r6 : Nat) (s6 : OA) (t6 u6 : Nat) (v6 : OA) (w6 x6 : Nat) (y6 : OA) (z6 a7 : Nat) (b7 : Int) (c7 : Heap) : Prop :=
 slW t6 u6 none (some (.int .i64 (n6 : Int))) none fun d7 e7 f7 =>
 slW w6 x6 none (some (.int .i64 (q6 : Int))) none fun g7 i7 j7 =>
 Ec B 43 #[.slice (slP s6 d7 f7 1) (e7 - d7) (f7 - d7), .slice (slP v6 g7 j7 1) (i7 - g7) (j7 - g7)] (retE (fun k7 l7 => ∃ m7 n7 o7 p7, k7 = .tuple #[.slice m7 n7 o7, .int .i64 p7] ∧
 F42_j47 B R l6 m6 n6 o6 p6 q6 r6 s6 t6 u6 v6 w6 x6 y6 z6 a7 b7 m7 n7 o7 p7 l7)
(fun _ _ => False)) c7
def F42 (B : World) (R : Po) (q7 r7 : OA) (s7 t7 : Nat) (u7 : OA) (v7 w7 : Nat) (h : Heap) : Prop :=
 Ec B 77 #[.slice r7 s7 t7] (retE (fun x7 y7 => ∃ z7 a8 b8, x7 = .slice z7 a8 b8 ∧
 Ec B 77 #[.slice u7 v7 w7] (retE (fun c8 d8 => ∃ e8 f8 g8, c8 = .slice e8 f8 g8 ∧
 slW a8 b8 none (some (.int .i64 (s7 : Int))) none fun i8 j8 k8 =>
 slW f8 g8 none (some (.int .i64 (v7 : Int))) none fun l8 m8 n8 =>
 Ec B 36 #[.slice (slP z7 i8 k8 1) (j8 - i8) (k8 - i8), .slice (slP e8 l8 n8 1) (m8 - l8) (n8 - l8)] (retE (fun o8 p8 => ∃ q8 r8 s8 t8, o8 = .tuple #[.slice q8 r8 s8, .int .i64 t8] ∧
 F42_j26 B R q7 r7 s7 t7 u7 v7 w7 z7 a8 b8 e8 f8 g8 q8 r8 s8 t8 p8)
(fun _ _ => False)) d8)
(pk R)) y7)
(pk R)) h
def F42_L : Nat → List (Nat × TypeDesc) := fun _ => []
theorem F42_ok {B : World} {R : Ending → Heap → Prop} (q7 r7 : OA) (s7 t7 : Nat) (u7 : OA) (v7 w7 : Nat) {h : Heap} (H : F42 B R q7 r7 s7 t7 u7 v7 w7 h) : Ec B 42 #[.pointer q7, .slice r7 s7 t7, .slice u7 v7 w7] R h :=
 Ek Tryz.func42 (by kernel_rfl) (by kernel_rfl) (by kernel_rfl) F42_L [] (by kernel_rfl) H

/-- plumb/plumblaw7.ExpansionPairs -/
def F11_j36 (B : World) (R : Po) (a0 : Bool) (b0 : Heap) : Prop :=
 R (.returned (.bool a0)) b0
def F11_j5 (B : World) (R : Po) (c0 : OA) (d0 e0 : Nat) (f0 : OA) (g0 i0 : Nat) (j0 : OA) (k0 : Bool) (l0 : Heap) : Prop :=
(k0 = true →
 Ec B 29 #[] (retE (fun m0 n0 => ∃ o0, m0 = .bool o0 ∧
 R (.returned (.bool o0)) n0)
(pk R)) l0) ∧
(k0 = false →
 Ec B 29 #[] (retE (fun p0 q0 => ∃ r0, p0 = .bool r0 ∧
(r0 = true →
 Ec B 42 #[.pointer j0, .slice c0 d0 e0, .slice f0 g0 i0] (retE (fun s0 t0 => ∃ u0, s0 = .bool u0 ∧
(u0 = true →
 Ec B 42 #[.pointer j0, .slice f0 g0 i0, .slice c0 d0 e0] (retE (fun v0 w0 => ∃ x0, v0 = .bool x0 ∧
(x0 = true →
 Ec B 31 #[.pointer j0] (retE (fun y0 z0 => ∃ a1, y0 = .bool a1 ∧
 F11_j36 B R a1 z0)
(pk R)) w0) ∧
(x0 = false →
 F11_j36 B R false w0))
(pk R)) t0) ∧
(u0 = false →
(false = true →
 Ec B 31 #[.pointer j0] (retE (fun b1 c1 => ∃ d1, b1 = .bool d1 ∧
 F11_j36 B R d1 c1)
(pk R)) t0) ∧
(false = false →
 F11_j36 B R false t0)))
(pk R)) q0) ∧
(r0 = false →
(false = true →
 Ec B 42 #[.pointer j0, .slice f0 g0 i0, .slice c0 d0 e0] (retE (fun e1 f1 => ∃ g1, e1 = .bool g1 ∧
(g1 = true →
 Ec B 31 #[.pointer j0] (retE (fun i1 j1 => ∃ k1, i1 = .bool k1 ∧
 F11_j36 B R k1 j1)
(pk R)) f1) ∧
(g1 = false →
 F11_j36 B R false f1))
(pk R)) q0) ∧
(false = false →
(false = true →
 Ec B 31 #[.pointer j0] (retE (fun l1 m1 => ∃ n1, l1 = .bool n1 ∧
 F11_j36 B R n1 m1)
(pk R)) q0) ∧
(false = false →
 F11_j36 B R false q0))))
(pk R)) l0)
def F11 (B : World) (R : Po) (o1 : OA) (p1 q1 : Nat) (r1 : OA) (s1 t1 : Nat) (h : Heap) : Prop :=
 alW h (.cells #[.slice none 0 0, .slice none 0 0] 46) fun u1 v1 =>
((decide ((400 : Int) < (IntKind.i64.wrap ((p1 : Int) * (s1 : Int))))) = true →
(true = true →
 F11_j5 B R o1 p1 q1 r1 s1 t1 (some ⟨u1, 0, none⟩) true v1) ∧
(true = false →
 F11_j5 B R o1 p1 q1 r1 s1 t1 (some ⟨u1, 0, none⟩) (decide ((120 : Int) < (s1 : Int))) v1)) ∧
((decide ((400 : Int) < (IntKind.i64.wrap ((p1 : Int) * (s1 : Int))))) = false →
((decide ((120 : Int) < (p1 : Int))) = true →
 F11_j5 B R o1 p1 q1 r1 s1 t1 (some ⟨u1, 0, none⟩) true v1) ∧
((decide ((120 : Int) < (p1 : Int))) = false →
 F11_j5 B R o1 p1 q1 r1 s1 t1 (some ⟨u1, 0, none⟩) (decide ((120 : Int) < (s1 : Int))) v1))
def F11_L : Nat → List (Nat × TypeDesc) := fun _ => []
theorem F11_ok {B : World} {R : Ending → Heap → Prop} (o1 : OA) (p1 q1 : Nat) (r1 : OA) (s1 t1 : Nat) {h : Heap} (H : F11 B R o1 p1 q1 r1 s1 t1 h) : Ec B 11 #[.slice o1 p1 q1, .slice r1 s1 t1] R h :=
 Ek Tryz.func11 (by kernel_rfl) (by kernel_rfl) (by kernel_rfl) F11_L [] (by kernel_rfl) H
end Go.Proofs
