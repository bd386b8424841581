import Derived.Test.YteailhnlphhfdaaGreatFmtA03
/- Here stand lemmas: span: what the functions come to (written by program). -/
set_option linter.unusedVariables false
namespace Go.Proofs
open Go Go.Eng
/-- plumb/bits.Canon -/
def F1059 (B : World) (R : Po) (a0 : Int) (h : Heap) : Prop :=
 Ec B 27 #[.int .i64 a0] (retE (fun b0 c0 => ∃ d0, b0 = .float .f64 d0 ∧
 flW .f64 (FloatKind.f64.format.add d0 0) d0 0 fun e0 =>
 Ec B 26 #[.float .f64 e0] (retE (fun f0 g0 => ∃ i0, f0 = .int .i64 i0 ∧
 R (.returned (.int .i64 i0)) g0)
(pk R)) c0)
(pk R)) h
def F1059_L : Nat → List (Nat × TypeDesc) := fun _ => []
theorem F1059_ok {B : World} {R : Ending → Heap → Prop} (a0 : Int) {h : Heap} (H : F1059 B R a0 h) : Ec B 10 #[.int .i64 a0] R h :=
 Ek Tryz.func10 (by kernel_rfl) (by kernel_rfl) (by kernel_rfl) F1059_L [] (by kernel_rfl) H
end Go.Proofs
