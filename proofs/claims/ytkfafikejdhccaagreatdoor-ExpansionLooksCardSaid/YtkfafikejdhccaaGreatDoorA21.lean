import Derived.Test.YtkfafikejdhccaaGreatDoorA20
/- Here stand lemmas: what further functions come to (written by program). -/
set_option linter.unusedVariables false
namespace Go.Proofs
open Go Go.Eng
/-- plumb/eft.FastTwoSum -/
def F20 (B : World) (R : Po) (a0 b0 : Int) (h : Heap) : Prop :=
 Ec B 54 #[.int .i64 a0] (retE (fun c0 d0 => ∃ e0, c0 = .float .f64 e0 ∧
 Ec B 54 #[.int .i64 b0] (retE (fun f0 g0 => ∃ i0, f0 = .float .f64 i0 ∧
 flW .f64 (FloatKind.f64.format.add e0 i0) e0 i0 fun j0 =>
 flW .f64 (FloatKind.f64.format.sub j0 e0) j0 e0 fun k0 =>
 flW .f64 (FloatKind.f64.format.sub i0 k0) i0 k0 fun l0 =>
 Ec B 56 #[.float .f64 j0] (retE (fun m0 n0 => ∃ o0, m0 = .int .i64 o0 ∧
 Ec B 56 #[.float .f64 l0] (retE (fun p0 q0 => ∃ r0, p0 = .int .i64 r0 ∧
 Ec B 57 #[.float .f64 j0, .float .f64 l0, .float .f64 e0, .float .f64 i0] (retE (fun s0 t0 => ∃ u0, s0 = .bool u0 ∧
 R (.returned (.tuple #[.int .i64 o0, .int .i64 r0, .bool u0])) t0)
(pk R)) q0)
(pk R)) n0)
(pk R)) g0)
(pk R)) d0)
(pk R)) h
def F20_L : Nat → List (Nat × TypeDesc) := fun _ => []
theorem F20_ok {B : World} {R : Ending → Heap → Prop} (a0 b0 : Int) {h : Heap} (H : F20 B R a0 b0 h) : Ec B 20 #[.int .i64 a0, .int .i64 b0] R h :=
 Ek Tryz.func20 (by kernel_rfl) (by kernel_rfl) (by kernel_rfl) F20_L [] (by kernel_rfl) H

/-- plumb/plumbref6.FastTwoSum -/
def F72_j49 (B : World) (R : Po) (a0 b0 : Int) (c0 : Bool) (d0 : Heap) : Prop :=
 R (.returned (.tuple #[.int .i64 a0, .int .i64 b0, .bool c0])) d0
def F72 (B : World) (R : Po) (e0 f0 : Int) (h : Heap) : Prop :=
 Ec B 132 #[.int .i64 e0, .int .i64 f0] (retE (fun g0 i0 => ∃ j0, g0 = .int .i64 j0 ∧
 Ec B 110 #[.int .i64 j0, .int .i64 e0] (retE (fun k0 l0 => ∃ m0, k0 = .int .i64 m0 ∧
 Ec B 110 #[.int .i64 f0, .int .i64 m0] (retE (fun n0 o0 => ∃ p0, n0 = .int .i64 p0 ∧
 Ec B 111 #[.int .i64 e0, .int .i64 f0] (retE (fun q0 r0 => ∃ s0, q0 = .bool s0 ∧
(s0 = true →
 Ec B 114 #[.int .i64 e0] (retE (fun t0 u0 => ∃ v0 w0 x0 y0 z0, t0 = .agg #[.bool v0, .slice w0 x0 y0, .int .i64 z0] ∧
 Ec B 114 #[.int .i64 f0] (retE (fun a1 b1 => ∃ c1 d1 e1 f1 g1, a1 = .agg #[.bool c1, .slice d1 e1 f1, .int .i64 g1] ∧
 Ec B 133 #[.agg #[.bool v0, .slice w0 x0 y0, .int .i64 z0], .agg #[.bool c1, .slice d1 e1 f1, .int .i64 g1]] (retE (fun i1 j1 => ∃ k1 l1 m1 n1 o1, i1 = .agg #[.bool k1, .slice l1 m1 n1, .int .i64 o1] ∧
 Ec B 112 #[.int .i64 j0, .int .i64 p0, .agg #[.bool k1, .slice l1 m1 n1, .int .i64 o1]] (retE (fun p1 q1 => ∃ r1, p1 = .bool r1 ∧
 F72_j49 B R j0 p0 r1 q1)
(pk R)) j1)
(pk R)) b1)
(pk R)) u0)
(pk R)) r0) ∧
(s0 = false →
 F72_j49 B R j0 p0 false r0))
(pk R)) o0)
(pk R)) l0)
(pk R)) i0)
(pk R)) h
def F72_L : Nat → List (Nat × TypeDesc) := fun _ => []
theorem F72_ok {B : World} {R : Ending → Heap → Prop} (e0 f0 : Int) {h : Heap} (H : F72 B R e0 f0 h) : Ec B 72 #[.int .i64 e0, .int .i64 f0] R h :=
 Ek Tryz.func72 (by kernel_rfl) (by kernel_rfl) (by kernel_rfl) F72_L [] (by kernel_rfl) H
end Go.Proofs
