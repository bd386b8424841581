import Derived.Test.YtkfafikejdhccaaGreatDoorA20
import Derived.Tactics
import Derived.Recover
/- Here stand lemmas: math.Abs, and the deferred function of dyadic. -/
set_option linter.unusedVariables false
namespace Go.Proofs
open Go Go.Eng
/-- math.Abs -/
def F94 (B : World) (R : Po) (a0 : Nat) (h : Heap) : Prop :=
 Ec B 117 #[.float .f64 a0] (retE (fun b0 c0 => ∃ d0, b0 = .int .u64 d0 ∧
 Ec B 116 #[.int .u64 (bitsI .andNot .u64 d0 (9223372036854775808 : Int))] (retE (fun e0 f0 => ∃ g0, e0 = .float .f64 g0 ∧
 R (.returned (.float .f64 g0)) f0)
(pk R)) c0)
(pk R)) h
def F94_L : Nat → List (Nat × TypeDesc) := fun _ => []
theorem F94_ok {B : World} {R : Ending → Heap → Prop} (a0 : Nat) {h : Heap} (H : F94 B R a0 h) : Ec B 94 #[.float .f64 a0] R h :=
 Ek Tryz.func94 (by kernel_rfl) (by kernel_rfl) (by kernel_rfl) F94_L [] (by kernel_rfl) H
end Go.Proofs
namespace Go.Proofs
open Go Go.Eng
variable {B : World} {R : Ending → Heap → Prop} {h : Heap}
theorem nil_nil (w : World) : (binOp .eql 20 Value.nilIface Value.nilIface).run Tryz.prog w = .ok (.bool true) w :=
  pureRun_run (P := Tryz.prog) _ (by kernel_rfl) w
/-- dyadic.caught behind what returns. -/
theorem K62r {p : Option Addr} {K : FrameMode → Heap → Prop} (H : K .returning h) : FnD Tryz.prog B 62 #[.pointer p] .returning (dfE K) h := by
  intro n
  refine callsD_of_wpS Tryz.func62 rfl fun c₀ cs hu => ?_
  have hr : recoverD (c₀ :: cs) = none := by simp [recoverD, hu]
  apply wpS_seq
  apply wpS_region
  simp [wpOpsS, go_sem, hr, Exit.thenS, Tryz.f62]
  apply wpS_seq
  apply wpS_seq
  apply wpS_region
  simp [wpOpsS, go_sem, Exit.thenS, nil_nil]
  refine wpS_cond (t := true) (by simp [Act.eval, Array.replicate]) ?_
  simp only [if_true]
  refine wpS_of_wp (wp_ret ?_)
  refine ⟨rfl, .returning, ?_, .tuple #[], ?_, h, ⟨n, rfl⟩, H⟩
  rotate_left
  · simp [results, go_sem]
  cases c₀
  simp_all
end Go.Proofs
