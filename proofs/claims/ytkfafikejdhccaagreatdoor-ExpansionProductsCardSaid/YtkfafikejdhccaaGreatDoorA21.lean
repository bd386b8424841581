import Derived.Test.YtkfafikejdhccaaGreatDoorA20
/- Here stand lemmas: what further functions come to (written by program). -/
set_option linter.unusedVariables false
namespace Go.Proofs
open Go Go.Eng
/-- plumb/eft.FastTwoSum -/
def F20 (B : World) (R : Po) (a0 b0 : Int) (h : Heap) : Prop :=
 Ec B 54 #[.int .i64 a0] (retE (fun c0 d0 => ∃ e0, c0 = .float .f64 e0 ∧
 Ec B 54 #[.int .i64 b0] (retE (fun f0 g0 => ∃ i0, f0 = .float .f64 i0 ∧
 flW .f64 (FloatKind.f64.format.add e0 i0) e0 i0 fun j0 =>
 flW .f64 (FloatKind.f64.format.sub j0 e0) j0 e0 fun k0 =>
 flW .f64 (FloatKind.f64.format.sub i0 k0) i0 k0 fun l0 =>
 Ec B 56 #[.float .f64 j0] (retE (fun m0 n0 => ∃ o0, m0 = .int .i64 o0 ∧
 Ec B 56 #[.float .f64 l0] (retE (fun p0 q0 => ∃ r0, p0 = .int .i64 r0 ∧
 Ec B 57 #[.float .f64 j0, .float .f64 l0, .float .f64 e0, .float .f64 i0] (retE (fun s0 t0 => ∃ u0, s0 = .bool u0 ∧
 R (.returned (.tuple #[.int .i64 o0, .int .i64 r0, .bool u0])) t0)
(pk R)) q0)
(pk R)) n0)
(pk R)) g0)
(pk R)) d0)
(pk R)) h
def F20_L : Nat → List (Nat × TypeDesc) := fun _ => []
theorem F20_ok {B : World} {R : Ending → Heap → Prop} (a0 b0 : Int) {h : Heap} (H : F20 B R a0 b0 h) : Ec B 20 #[.int .i64 a0, .int .i64 b0] R h :=
 Ek Tryz.func20 (by kernel_rfl) (by kernel_rfl) (by kernel_rfl) F20_L [] (by kernel_rfl) H

end Go.Proofs
