import Derived.Test.YtkfafikejdhccaaGreatDoorA20
/- Here stand lemmas: what pairs, sums and differences come to (written by program). -/
set_option linter.unusedVariables false
namespace Go.Proofs
open Go Go.Eng
/-- plumb/expansion.Product -/
def F40 (B : World) (R : Po) (a0 : OA) (b0 c0 : Nat) (d0 : OA) (e0 f0 : Nat) (h : Heap) : Prop :=
 alW h (.cells #[.slice none 0 0] 27) fun g0 i0 =>
 alW i0 (.cells #[.int .i64 0] 30) fun j0 k0 =>
 alW k0 (.cells #[.slice a0 b0 c0, .slice d0 e0 f0] 27) fun l0 m0 =>
 Ec B 87 #[.slice (some ⟨l0, 0, none⟩) 2 2] (retE (fun n0 o0 => ∃ p0, n0 = .int .i64 p0 ∧
((!decide (p0 = (0 : Int))) = true →
 iP g0 0 fun q0 r0 => stC o0 q0 r0 (.slice none 0 0) fun s0 =>
 iP j0 0 fun t0 u0 => stC s0 t0 u0 (.int .i64 p0) fun v0 =>
 Enters Tryz.prog 86 ∧ FnD Tryz.prog B 86 #[.pointer (some ⟨g0, 0, none⟩), .pointer (some ⟨j0, 0, none⟩)] .returning (dfE fun w0 x0 => lvW (fun y0 => iP g0 0 fun z0 a1 => ∃ b1 c1 d1, cS y0 z0 a1 b1 c1 d1 ∧
 iP j0 0 fun e1 f1 => ∃ g1, cI y0 e1 f1 .i64 g1 ∧
 R (.returned (.tuple #[.slice b1 c1 d1, .int .i64 g1])) y0) (pk R) w0 x0) v0) ∧
((!decide (p0 = (0 : Int))) = false →
 ∃ i1 : Lp, ∃ j1, i1 j1 [.slice a0 b0 c0, .pointer (some ⟨g0, 0, none⟩), .pointer (some ⟨j0, 0, none⟩), .slice none 0 0, .slice d0 e0 f0, .int .i64 (e0 : Int), .int .i64 (0 : Int)] o0 ∧
∀ (k1 : Nat) (l1 : Heap) (m1 : OA) (n1 o1 : Nat) (p1 q1 r1 : OA) (s1 t1 : Nat) (u1 : OA) (v1 w1 : Nat) (x1 y1 : Int), i1 k1 [.slice m1 n1 o1, .pointer p1, .pointer q1, .slice r1 s1 t1, .slice u1 v1 w1, .int .i64 x1, .int .i64 y1] l1 → ∀ _r : Nat → Value,
((decide (y1 < x1)) = true →
 ixW u1 v1 y1 1 fun z1 a2 =>
 iP z1 a2 fun b2 c2 => ∃ d2, cI l1 b2 c2 .i64 d2 ∧
 Ec B 91 #[.slice m1 n1 o1, .int .i64 d2] (retE (fun e2 f2 => ∃ g2 i2 j2, e2 = .slice g2 i2 j2 ∧
 Ec B 92 #[.slice r1 s1 t1, .slice g2 i2 j2] (retE (fun k2 l2 => ∃ m2 n2 o2, k2 = .slice m2 n2 o2 ∧
([{ target := .fn (.func 86) #[], args := #[.pointer (some ⟨g0, 0, none⟩), .pointer (some ⟨j0, 0, none⟩)] }] : List Deferred) = [{ target := .fn (.func 86) #[], args := #[.pointer (some ⟨g0, 0, none⟩), .pointer (some ⟨j0, 0, none⟩)] }] ∧ ∃ p2, p2 < k1 ∧ i1 p2 [.slice m1 n1 o1, .pointer p1, .pointer q1, .slice m2 n2 o2, .slice u1 v1 w1, .int .i64 x1, .int .i64 (IntKind.i64.wrap (y1 + (1 : Int)))] l2)
(fun q2 r2 => Enters Tryz.prog 86 ∧ FnD Tryz.prog B 86 #[.pointer (some ⟨g0, 0, none⟩), .pointer (some ⟨j0, 0, none⟩)] (.panicking q2) (dfE fun s2 t2 => lvW (fun u2 => isP p1 fun v2 w2 => ∃ x2 y2 z2, cS u2 v2 w2 x2 y2 z2 ∧
 isP q1 fun a3 b3 => ∃ c3, cI u2 a3 b3 .i64 c3 ∧
 R (.returned (.tuple #[.slice x2 y2 z2, .int .i64 c3])) u2) (pk R) s2 t2) r2)) f2)
(fun d3 e3 => Enters Tryz.prog 86 ∧ FnD Tryz.prog B 86 #[.pointer (some ⟨g0, 0, none⟩), .pointer (some ⟨j0, 0, none⟩)] (.panicking d3) (dfE fun f3 g3 => lvW (fun i3 => isP p1 fun j3 k3 => ∃ l3 m3 n3, cS i3 j3 k3 l3 m3 n3 ∧
 isP q1 fun o3 p3 => ∃ q3, cI i3 o3 p3 .i64 q3 ∧
 R (.returned (.tuple #[.slice l3 m3 n3, .int .i64 q3])) i3) (pk R) f3 g3) e3)) l1) ∧
((decide (y1 < x1)) = false →
 Ec B 89 #[.slice r1 s1 t1] (retE (fun r3 s3 => ∃ t3 u3 v3 w3, r3 = .tuple #[.slice t3 u3 v3, .int .i64 w3] ∧
 isP p1 fun x3 y3 => stC s3 x3 y3 (.slice t3 u3 v3) fun z3 =>
 isP q1 fun a4 b4 => stC z3 a4 b4 (.int .i64 w3) fun c4 =>
 Enters Tryz.prog 86 ∧ FnD Tryz.prog B 86 #[.pointer (some ⟨g0, 0, none⟩), .pointer (some ⟨j0, 0, none⟩)] .returning (dfE fun d4 e4 => lvW (fun f4 => isP p1 fun g4 i4 => ∃ j4 k4 l4, cS f4 g4 i4 j4 k4 l4 ∧
 isP q1 fun m4 n4 => ∃ o4, cI f4 m4 n4 .i64 o4 ∧
 R (.returned (.tuple #[.slice j4 k4 l4, .int .i64 o4])) f4) (pk R) d4 e4) c4)
(fun p4 q4 => Enters Tryz.prog 86 ∧ FnD Tryz.prog B 86 #[.pointer (some ⟨g0, 0, none⟩), .pointer (some ⟨j0, 0, none⟩)] (.panicking p4) (dfE fun r4 s4 => lvW (fun t4 => isP p1 fun u4 v4 => ∃ w4 x4 y4, cS t4 u4 v4 w4 x4 y4 ∧
 isP q1 fun z4 a5 => ∃ b5, cI t4 z4 a5 .i64 b5 ∧
 R (.returned (.tuple #[.slice w4 x4 y4, .int .i64 b5])) t4) (pk R) r4 s4) q4)) l1)))
(fun c5 d5 => Enters Tryz.prog 86 ∧ FnD Tryz.prog B 86 #[.pointer (some ⟨g0, 0, none⟩), .pointer (some ⟨j0, 0, none⟩)] (.panicking c5) (dfE fun e5 f5 => lvW (fun g5 => iP g0 0 fun i5 j5 => ∃ k5 l5 m5, cS g5 i5 j5 k5 l5 m5 ∧
 iP j0 0 fun n5 o5 => ∃ p5, cI g5 n5 o5 .i64 p5 ∧
 R (.returned (.tuple #[.slice k5 l5 m5, .int .i64 p5])) g5) (pk R) e5 f5) d5)) m0
def F40_L : Nat → List (Nat × TypeDesc) := fun i => match i with
  | 7 => [(0, .slice 0), (4, .pointer 0), (5, .pointer 0), (7, .slice 0), (17, .slice 0), (18, .int .i64), (19, .int .i64)]
  | _ => []
theorem F40_ok {B : World} {R : Ending → Heap → Prop} (a0 : OA) (b0 c0 : Nat) (d0 : OA) (e0 f0 : Nat) {h : Heap} (H : F40 B R a0 b0 c0 d0 e0 f0 h) : Ec B 40 #[.slice a0 b0 c0, .slice d0 e0 f0] R h :=
 Ed Tryz.func40 (by kernel_rfl) (by kernel_rfl) (by kernel_rfl) F40_L [] (by kernel_rfl) H

end Go.Proofs
