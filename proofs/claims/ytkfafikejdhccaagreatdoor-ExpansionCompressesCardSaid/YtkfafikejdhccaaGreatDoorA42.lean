import Derived.Test.YtkfafikejdhccaaGreatDoorA20
/- Here stand lemmas: what bits.Ulp comes to (written by program). -/
set_option linter.unusedVariables false
namespace Go.Proofs
open Go Go.Eng
/-- plumb/bits.Ulp -/
def F49 (B : World) (R : Po) (a0 : Int) (h : Heap) : Prop :=
 Ec B 63 #[.int .i64 a0] (retE (fun b0 c0 => ∃ d0 e0 f0 g0, b0 = .tuple #[.bool d0, .int .i64 e0, .int .i64 f0, .bool g0] ∧
((!g0) = true →
 Ec B 33 #[.int .i64 a0] (retE (fun i0 j0 => ∃ k0, i0 = .int .i64 k0 ∧
 R (.returned (.int .i64 k0)) j0)
(pk R)) c0) ∧
((!g0) = false →
 Ec B 93 #[.float .f64 4607182418800017408, .int .i64 f0] (retE (fun l0 m0 => ∃ n0, l0 = .float .f64 n0 ∧
 Ec B 56 #[.float .f64 n0] (retE (fun o0 p0 => ∃ q0, o0 = .int .i64 q0 ∧
 R (.returned (.int .i64 q0)) p0)
(pk R)) m0)
(pk R)) c0))
(pk R)) h
def F49_L : Nat → List (Nat × TypeDesc) := fun _ => []
theorem F49_ok {B : World} {R : Ending → Heap → Prop} (a0 : Int) {h : Heap} (H : F49 B R a0 h) : Ec B 49 #[.int .i64 a0] R h :=
 Ek Tryz.func49 (by kernel_rfl) (by kernel_rfl) (by kernel_rfl) F49_L [] (by kernel_rfl) H
end Go.Proofs
