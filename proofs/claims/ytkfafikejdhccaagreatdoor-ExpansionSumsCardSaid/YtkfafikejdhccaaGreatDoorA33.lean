import Derived.Test.YtkfafikejdhccaaGreatDoorA20
/- Here stand lemmas: what pairs, sums and differences come to (written by program). -/
set_option linter.unusedVariables false
namespace Go.Proofs
open Go Go.Eng
/-- plumb/expansion.Diff -/
def F43 (B : World) (R : Po) (a0 : OA) (b0 c0 : Nat) (d0 : OA) (e0 f0 : Nat) (h : Heap) : Prop :=
 alW h (.cells #[.slice none 0 0] 27) fun g0 i0 =>
 alW i0 (.cells #[.int .i64 0] 30) fun j0 k0 =>
 alW k0 (.cells #[.slice a0 b0 c0, .slice d0 e0 f0] 27) fun l0 m0 =>
 Ec B 87 #[.slice (some ⟨l0, 0, none⟩) 2 2] (retE (fun n0 o0 => ∃ p0, n0 = .int .i64 p0 ∧
((!decide (p0 = (0 : Int))) = true →
 iP g0 0 fun q0 r0 => stC o0 q0 r0 (.slice none 0 0) fun s0 =>
 iP j0 0 fun t0 u0 => stC s0 t0 u0 (.int .i64 p0) fun v0 =>
 Enters Tryz.prog 86 ∧ FnD Tryz.prog B 86 #[.pointer (some ⟨g0, 0, none⟩), .pointer (some ⟨j0, 0, none⟩)] .returning (dfE fun w0 x0 => lvW (fun y0 => iP g0 0 fun z0 a1 => ∃ b1 c1 d1, cS y0 z0 a1 b1 c1 d1 ∧
 iP j0 0 fun e1 f1 => ∃ g1, cI y0 e1 f1 .i64 g1 ∧
 R (.returned (.tuple #[.slice b1 c1 d1, .int .i64 g1])) y0) (pk R) w0 x0) v0) ∧
((!decide (p0 = (0 : Int))) = false →
 0 ≤ (e0 : Int) ∧ (e0 : Int) ≤ (e0 : Int) ∧ 8 * (e0 : Int) ≤ 281474976710656 ∧ (e0 : Int) < 9223372036854775808 ∧
 alW o0 (.cells (mkCells #[.int .i64 0] (Int.toNat (e0 : Int) * 1)) 3) fun i1 j1 =>
∃ k1 : Lp, ∃ l1, k1 l1 [.slice a0 b0 c0, .slice d0 e0 f0, .pointer (some ⟨g0, 0, none⟩), .pointer (some ⟨j0, 0, none⟩), .slice (some ⟨i1, 0, none⟩) (Int.toNat (e0 : Int)) (Int.toNat (e0 : Int)), .int .i64 (e0 : Int), .int .i64 (0 : Int)] j1 ∧
∀ (m1 : Nat) (n1 : Heap) (o1 : OA) (p1 q1 : Nat) (r1 : OA) (s1 t1 : Nat) (u1 v1 w1 : OA) (x1 y1 : Nat) (z1 a2 : Int), k1 m1 [.slice o1 p1 q1, .slice r1 s1 t1, .pointer u1, .pointer v1, .slice w1 x1 y1, .int .i64 z1, .int .i64 a2] n1 → ∀ _r : Nat → Value,
((decide (a2 < z1)) = true →
 ixW r1 s1 a2 1 fun b2 c2 =>
 iP b2 c2 fun d2 e2 => ∃ f2, cI n1 d2 e2 .i64 f2 ∧
 Ec B 99 #[.int .i64 f2] (retE (fun g2 i2 => ∃ j2, g2 = .int .i64 j2 ∧
 ixW w1 x1 a2 1 fun k2 l2 =>
 iP k2 l2 fun m2 n2 => stC i2 m2 n2 (.int .i64 j2) fun o2 =>
([{ target := .fn (.func 86) #[], args := #[.pointer (some ⟨g0, 0, none⟩), .pointer (some ⟨j0, 0, none⟩)] }] : List Deferred) = [{ target := .fn (.func 86) #[], args := #[.pointer (some ⟨g0, 0, none⟩), .pointer (some ⟨j0, 0, none⟩)] }] ∧ ∃ p2, p2 < m1 ∧ k1 p2 [.slice o1 p1 q1, .slice r1 s1 t1, .pointer u1, .pointer v1, .slice w1 x1 y1, .int .i64 z1, .int .i64 (IntKind.i64.wrap (a2 + (1 : Int)))] o2)
(fun q2 r2 => Enters Tryz.prog 86 ∧ FnD Tryz.prog B 86 #[.pointer (some ⟨g0, 0, none⟩), .pointer (some ⟨j0, 0, none⟩)] (.panicking q2) (dfE fun s2 t2 => lvW (fun u2 => isP u1 fun v2 w2 => ∃ x2 y2 z2, cS u2 v2 w2 x2 y2 z2 ∧
 isP v1 fun a3 b3 => ∃ c3, cI u2 a3 b3 .i64 c3 ∧
 R (.returned (.tuple #[.slice x2 y2 z2, .int .i64 c3])) u2) (pk R) s2 t2) r2)) n1) ∧
((decide (a2 < z1)) = false →
 Ec B 92 #[.slice o1 p1 q1, .slice w1 x1 y1] (retE (fun d3 e3 => ∃ f3 g3 i3, d3 = .slice f3 g3 i3 ∧
 Ec B 89 #[.slice f3 g3 i3] (retE (fun j3 k3 => ∃ l3 m3 n3 o3, j3 = .tuple #[.slice l3 m3 n3, .int .i64 o3] ∧
 isP u1 fun p3 q3 => stC k3 p3 q3 (.slice l3 m3 n3) fun r3 =>
 isP v1 fun s3 t3 => stC r3 s3 t3 (.int .i64 o3) fun u3 =>
 Enters Tryz.prog 86 ∧ FnD Tryz.prog B 86 #[.pointer (some ⟨g0, 0, none⟩), .pointer (some ⟨j0, 0, none⟩)] .returning (dfE fun v3 w3 => lvW (fun x3 => isP u1 fun y3 z3 => ∃ a4 b4 c4, cS x3 y3 z3 a4 b4 c4 ∧
 isP v1 fun d4 e4 => ∃ f4, cI x3 d4 e4 .i64 f4 ∧
 R (.returned (.tuple #[.slice a4 b4 c4, .int .i64 f4])) x3) (pk R) v3 w3) u3)
(fun g4 i4 => Enters Tryz.prog 86 ∧ FnD Tryz.prog B 86 #[.pointer (some ⟨g0, 0, none⟩), .pointer (some ⟨j0, 0, none⟩)] (.panicking g4) (dfE fun j4 k4 => lvW (fun l4 => isP u1 fun m4 n4 => ∃ o4 p4 q4, cS l4 m4 n4 o4 p4 q4 ∧
 isP v1 fun r4 s4 => ∃ t4, cI l4 r4 s4 .i64 t4 ∧
 R (.returned (.tuple #[.slice o4 p4 q4, .int .i64 t4])) l4) (pk R) j4 k4) i4)) e3)
(fun u4 v4 => Enters Tryz.prog 86 ∧ FnD Tryz.prog B 86 #[.pointer (some ⟨g0, 0, none⟩), .pointer (some ⟨j0, 0, none⟩)] (.panicking u4) (dfE fun w4 x4 => lvW (fun y4 => isP u1 fun z4 a5 => ∃ b5 c5 d5, cS y4 z4 a5 b5 c5 d5 ∧
 isP v1 fun e5 f5 => ∃ g5, cI y4 e5 f5 .i64 g5 ∧
 R (.returned (.tuple #[.slice b5 c5 d5, .int .i64 g5])) y4) (pk R) w4 x4) v4)) n1)))
(fun i5 j5 => Enters Tryz.prog 86 ∧ FnD Tryz.prog B 86 #[.pointer (some ⟨g0, 0, none⟩), .pointer (some ⟨j0, 0, none⟩)] (.panicking i5) (dfE fun k5 l5 => lvW (fun m5 => iP g0 0 fun n5 o5 => ∃ p5 q5 r5, cS m5 n5 o5 p5 q5 r5 ∧
 iP j0 0 fun s5 t5 => ∃ u5, cI m5 s5 t5 .i64 u5 ∧
 R (.returned (.tuple #[.slice p5 q5 r5, .int .i64 u5])) m5) (pk R) k5 l5) j5)) m0
def F43_L : Nat → List (Nat × TypeDesc) := fun i => match i with
  | 7 => [(0, .slice 0), (1, .slice 0), (4, .pointer 0), (5, .pointer 0), (7, .slice 0), (20, .int .i64), (21, .int .i64)]
  | _ => []
theorem F43_ok {B : World} {R : Ending → Heap → Prop} (a0 : OA) (b0 c0 : Nat) (d0 : OA) (e0 f0 : Nat) {h : Heap} (H : F43 B R a0 b0 c0 d0 e0 f0 h) : Ec B 43 #[.slice a0 b0 c0, .slice d0 e0 f0] R h :=
 Ed Tryz.func43 (by kernel_rfl) (by kernel_rfl) (by kernel_rfl) F43_L [] (by kernel_rfl) H

end Go.Proofs
