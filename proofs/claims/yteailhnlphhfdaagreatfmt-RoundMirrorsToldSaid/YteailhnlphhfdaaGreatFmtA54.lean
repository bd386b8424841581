import Derived.Test.YteailhnlphhfdaaGreatFmtA03
/- Here stand lemmas: EftPremise, bits.Same: what they come to (written by program). -/
set_option linter.unusedVariables false
namespace Go.Proofs
open Go Go.Eng
/-- plumb/bits.Same -/
def F1031 (B : World) (R : Po) (a0 b0 : Int) (h : Heap) : Prop :=
 Ec B 27 #[.int .i64 a0] (retE (fun c0 d0 => ∃ e0, c0 = .float .f64 e0 ∧
 Ec B 27 #[.int .i64 b0] (retE (fun f0 g0 => ∃ i0, f0 = .float .f64 i0 ∧
 R (.returned (.bool (FloatKind.f64.format.order e0 i0 == some .eq))) g0)
(pk R)) d0)
(pk R)) h
def F1031_L : Nat → List (Nat × TypeDesc) := fun _ => []
theorem F1031_ok {B : World} {R : Ending → Heap → Prop} (a0 b0 : Int) {h : Heap} (H : F1031 B R a0 b0 h) : Ec B 16 #[.int .i64 a0, .int .i64 b0] R h :=
 Ek Tryz.func16 (by kernel_rfl) (by kernel_rfl) (by kernel_rfl) F1031_L [] (by kernel_rfl) H
end Go.Proofs
