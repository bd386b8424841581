import Derived.Test.YtkfafikejdhccaaGreatDoorA20
/- Here stand lemmas: what basicMul comes to (written by program). -/
set_option linter.unusedVariables false
namespace Go.Proofs
open Go Go.Eng
/-- math/big.addMulVVWW_g -/
def F143_j41 (B : World) (R : Po) (a0 : Lp) (b0 : Nat) (c0 : OA) (d0 e0 : Nat) (f0 : OA) (g0 i0 : Nat) (j0 : OA) (k0 l0 : Nat) (m0 n0 o0 p0 q0 r0 s0 : Int) (t0 : Heap) : Prop :=
 Ec B 204 #[.int .u64 q0, .int .u64 n0, .int .u64 (0 : Int)] (retE (fun u0 v0 => ∃ w0 x0, u0 = .tuple #[.int .u64 w0, .int .u64 x0] ∧
 ixW c0 d0 o0 1 fun y0 z0 =>
 iP y0 z0 fun a1 b1 => stC v0 a1 b1 (.int .u64 w0) fun c1 =>
∃ d1, d1 < b0 ∧ a0 d1 [.slice c0 d0 e0, .slice f0 g0 i0, .slice j0 k0 l0, .int .u64 m0, .int .u64 (IntKind.u64.wrap (x0 + p0)), .int .i64 r0, .int .i64 (IntKind.i64.wrap (s0 + (1 : Int)))] c1)
(pk R)) t0
def F143_j6 (B : World) (R : Po) (e1 : OA) (f1 g1 : Nat) (i1 : OA) (j1 k1 : Nat) (l1 : OA) (m1 n1 : Nat) (o1 p1 : Int) (q1 : Bool) (r1 : Heap) : Prop :=
(q1 = true →
 R (.panicked [{ v := .iface 9 (.string ⟨#[97, 100, 100, 77, 117, 108, 86, 86, 87, 87, 32, 108, 101, 110]⟩), recovered := false }]) r1) ∧
(q1 = false →
 ∃ a0 : Lp, ∃ s1, a0 s1 [.slice e1 f1 g1, .slice i1 j1 k1, .slice l1 m1 n1, .int .u64 o1, .int .u64 p1, .int .i64 (f1 : Int), .int .i64 (0 : Int)] r1 ∧
∀ (b0 : Nat) (t1 : Heap) (u1 : OA) (v1 w1 : Nat) (x1 : OA) (y1 z1 : Nat) (a2 : OA) (b2 c2 : Nat) (d2 e2 f2 g2 : Int), a0 b0 [.slice u1 v1 w1, .slice x1 y1 z1, .slice a2 b2 c2, .int .u64 d2, .int .u64 e2, .int .i64 f2, .int .i64 g2] t1 → ∀ _r : Nat → Value,
((decide (g2 < f2)) = true →
 ixW a2 b2 g2 1 fun i2 j2 =>
 iP i2 j2 fun k2 l2 => ∃ m2, cI t1 k2 l2 .u64 m2 ∧
 ixW x1 y1 g2 1 fun n2 o2 =>
 iP n2 o2 fun p2 q2 => ∃ r2, cI t1 p2 q2 .u64 r2 ∧
 Ec B 242 #[.int .u64 m2, .int .u64 d2, .int .u64 r2] (retE (fun s2 t2 => ∃ u2 v2, s2 = .tuple #[.int .u64 u2, .int .u64 v2] ∧
 F143_j41 B R a0 b0 u1 v1 w1 x1 y1 z1 a2 b2 c2 d2 e2 g2 u2 v2 f2 g2 t2)
(fun _ _ => False)) t1) ∧
((decide (g2 < f2)) = false →
 R (.returned (.int .u64 e2)) t1))
def F143 (B : World) (R : Po) (w2 : OA) (x2 y2 : Nat) (z2 : OA) (a3 b3 : Nat) (c3 : OA) (d3 e3 : Nat) (f3 g3 : Int) (h : Heap) : Prop :=
((!decide ((a3 : Int) = (x2 : Int))) = true →
 F143_j6 B R w2 x2 y2 z2 a3 b3 c3 d3 e3 f3 g3 true h) ∧
((!decide ((a3 : Int) = (x2 : Int))) = false →
 F143_j6 B R w2 x2 y2 z2 a3 b3 c3 d3 e3 f3 g3 (!decide ((d3 : Int) = (x2 : Int))) h)
def F143_L : Nat → List (Nat × TypeDesc) := fun i => match i with
  | 5 => [(0, .slice 0), (1, .slice 0), (2, .slice 0), (3, .int .u64), (10, .int .u64), (31, .int .i64), (32, .int .i64)]
  | _ => []
theorem F143_ok {B : World} {R : Ending → Heap → Prop} (w2 : OA) (x2 y2 : Nat) (z2 : OA) (a3 b3 : Nat) (c3 : OA) (d3 e3 : Nat) (f3 g3 : Int) {h : Heap} (H : F143 B R w2 x2 y2 z2 a3 b3 c3 d3 e3 f3 g3 h) : Ec B 143 #[.slice w2 x2 y2, .slice z2 a3 b3, .slice c3 d3 e3, .int .u64 f3, .int .u64 g3] R h :=
 Ek Tryz.func143 (by kernel_rfl) (by kernel_rfl) (by kernel_rfl) F143_L [] (by kernel_rfl) H

/-- math/big.basicMul -/
def F223_j45 (B : World) (R : Po) (a0 : Lp) (b0 : Nat) (c0 : OA) (d0 e0 : Nat) (f0 : OA) (g0 i0 : Nat) (j0 : OA) (k0 l0 : Nat) (m0 n0 : Int) (o0 : Heap) : Prop :=
 ∃ p0, p0 < b0 ∧ a0 p0 [.slice c0 d0 e0, .slice f0 g0 i0, .slice j0 k0 l0, .int .i64 m0, .int .i64 (IntKind.i64.wrap (n0 + (1 : Int)))] o0
def F223_j38 (B : World) (R : Po) (a0 : Lp) (b0 : Nat) (q0 : OA) (r0 s0 : Nat) (t0 : OA) (u0 v0 : Nat) (w0 : OA) (x0 y0 : Nat) (z0 a1 : Int) (b1 : Heap) : Prop :=
 F223_j45 B R a0 b0 q0 r0 s0 t0 u0 v0 w0 x0 y0 z0 a1 b1
def F223 (B : World) (R : Po) (c1 : OA) (d1 e1 : Nat) (f1 : OA) (g1 i1 : Nat) (j1 : OA) (k1 l1 : Nat) (h : Heap) : Prop :=
 slW d1 e1 (some (.int .i64 (0 : Int))) (some (.int .i64 (IntKind.i64.wrap ((g1 : Int) + (k1 : Int))))) none fun m1 n1 o1 =>
 clW h (slP c1 m1 o1 1) (n1 - m1) 1 #[.int .u64 0] fun p1 =>
∃ a0 : Lp, ∃ q1, a0 q1 [.slice c1 d1 e1, .slice f1 g1 i1, .slice j1 k1 l1, .int .i64 (k1 : Int), .int .i64 (0 : Int)] p1 ∧
∀ (b0 : Nat) (r1 : Heap) (s1 : OA) (t1 u1 : Nat) (v1 : OA) (w1 x1 : Nat) (y1 : OA) (z1 a2 : Nat) (b2 c2 : Int), a0 b0 [.slice s1 t1 u1, .slice v1 w1 x1, .slice y1 z1 a2, .int .i64 b2, .int .i64 c2] r1 → ∀ _r : Nat → Value,
((decide (c2 < b2)) = true →
 ixW y1 z1 c2 1 fun d2 e2 =>
 iP d2 e2 fun f2 g2 => ∃ i2, cI r1 f2 g2 .u64 i2 ∧
((!decide (i2 = (0 : Int))) = true →
 slW t1 u1 (some (.int .i64 c2)) (some (.int .i64 (IntKind.i64.wrap (c2 + (w1 : Int))))) none fun j2 k2 l2 =>
 slW t1 u1 (some (.int .i64 c2)) (some (.int .i64 (IntKind.i64.wrap (c2 + (w1 : Int))))) none fun m2 n2 o2 =>
 Ec B 241 #[.slice (slP s1 j2 l2 1) (k2 - j2) (l2 - j2), .slice (slP s1 m2 o2 1) (n2 - m2) (o2 - m2), .slice v1 w1 x1, .int .u64 i2, .int .u64 (0 : Int)] (retE (fun p2 q2 => ∃ r2, p2 = .int .u64 r2 ∧
 ixW s1 t1 (IntKind.i64.wrap ((w1 : Int) + c2)) 1 fun s2 t2 =>
 iP s2 t2 fun u2 v2 => stC q2 u2 v2 (.int .u64 r2) fun w2 =>
 F223_j38 B R a0 b0 s1 t1 u1 v1 w1 x1 y1 z1 a2 b2 c2 w2)
(fun _ _ => False)) r1) ∧
((!decide (i2 = (0 : Int))) = false →
 F223_j45 B R a0 b0 s1 t1 u1 v1 w1 x1 y1 z1 a2 b2 c2 r1)) ∧
((decide (c2 < b2)) = false →
 R (.returned (.tuple #[])) r1)
def F223_L : Nat → List (Nat × TypeDesc) := fun i => match i with
  | 2 => [(0, .slice 0), (1, .slice 0), (15, .slice 0), (16, .int .i64), (17, .int .i64)]
  | _ => []
theorem F223_ok {B : World} {R : Ending → Heap → Prop} (c1 : OA) (d1 e1 : Nat) (f1 : OA) (g1 i1 : Nat) (j1 : OA) (k1 l1 : Nat) {h : Heap} (H : F223 B R c1 d1 e1 f1 g1 i1 j1 k1 l1 h) : Ec B 223 #[.slice c1 d1 e1, .slice f1 g1 i1, .slice j1 k1 l1] R h :=
 Ek Tryz.func223 (by kernel_rfl) (by kernel_rfl) (by kernel_rfl) F223_L [] (by kernel_rfl) H
end Go.Proofs
