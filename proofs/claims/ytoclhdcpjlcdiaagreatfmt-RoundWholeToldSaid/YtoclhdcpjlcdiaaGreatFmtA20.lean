import Derived.Test.YtoclhdcpjlcdiaaGreatFmtA03
/- Here stand lemmas: what further functions come to (written by program). -/
set_option linter.unusedVariables false
namespace Go.Proofs
open Go Go.Eng
/-- math.IsNaN -/
def F183 (B : World) (R : Po) (a0 : Nat) (h : Heap) : Prop :=
 R (.returned (.bool (FloatKind.f64.format.order a0 a0 != some .eq))) h
def F183_L : Nat → List (Nat × TypeDesc) := fun _ => []
theorem F183_ok {B : World} {R : Ending → Heap → Prop} (a0 : Nat) {h : Heap} (H : F183 B R a0 h) : Ec B 57 #[.float .f64 a0] R h :=
 Ek Tryz.func57 (by kernel_rfl) (by kernel_rfl) (by kernel_rfl) F183_L [] (by kernel_rfl) H

/-- math.Inf -/
def F185_j2 (B : World) (R : Po) (a0 : Int) (b0 : Heap) : Prop :=
 Ec B 21 #[.int .u64 a0] (retE (fun c0 d0 => ∃ e0, c0 = .float .f64 e0 ∧
 R (.returned (.float .f64 e0)) d0)
(pk R)) b0
def F185 (B : World) (R : Po) (f0 : Int) (h : Heap) : Prop :=
((decide ((0 : Int) ≤ f0)) = true →
 F185_j2 B R (9218868437227405312 : Int) h) ∧
((decide ((0 : Int) ≤ f0)) = false →
 F185_j2 B R (18442240474082181120 : Int) h)
def F185_L : Nat → List (Nat × TypeDesc) := fun _ => []
theorem F185_ok {B : World} {R : Ending → Heap → Prop} (f0 : Int) {h : Heap} (H : F185 B R f0 h) : Ec B 88 #[.int .i64 f0] R h :=
 Ek Tryz.func88 (by kernel_rfl) (by kernel_rfl) (by kernel_rfl) F185_L [] (by kernel_rfl) H
end Go.Proofs
namespace Go.Proofs
open Go Go.Eng
/-- math.Copysign -/
def F137 (B : World) (R : Po) (a0 b0 : Nat) (h : Heap) : Prop :=
 Ec B 25 #[.float .f64 a0] (retE (fun c0 d0 => ∃ e0, c0 = .int .u64 e0 ∧
 Ec B 25 #[.float .f64 b0] (retE (fun f0 g0 => ∃ i0, f0 = .int .u64 i0 ∧
 Ec B 21 #[.int .u64 (bitsI .or .u64 (bitsI .andNot .u64 e0 (9223372036854775808 : Int)) (bitsI .and .u64 i0 (9223372036854775808 : Int)))] (retE (fun j0 k0 => ∃ l0, j0 = .float .f64 l0 ∧
 R (.returned (.float .f64 l0)) k0)
(pk R)) g0)
(pk R)) d0)
(pk R)) h
def F137_L : Nat → List (Nat × TypeDesc) := fun _ => []
theorem F137_ok {B : World} {R : Ending → Heap → Prop} (a0 b0 : Nat) {h : Heap} (H : F137 B R a0 b0 h) : Ec B 61 #[.float .f64 a0, .float .f64 b0] R h :=
 Ek Tryz.func61 (by kernel_rfl) (by kernel_rfl) (by kernel_rfl) F137_L [] (by kernel_rfl) H
end Go.Proofs
