import Derived.Test.YtoclhdcpjlcdiaaGreatFmtA03
import Derived.Tactics
import Derived.Recover
/- Here stand lemmas: the deferred function of dyadic. -/
set_option linter.unusedVariables false
namespace Go.Proofs
open Go Go.Eng
variable {B : World} {R : Ending → Heap → Prop} {h : Heap}
theorem nil_nil (w : World) : (binOp .eql 20 Value.nilIface Value.nilIface).run Tryz.prog w = .ok (.bool true) w :=
  pureRun_run (P := Tryz.prog) _ (by kernel_rfl) w
/-- dyadic.caught behind what returns. -/
theorem K62r {p : Option Addr} {K : FrameMode → Heap → Prop} (H : K .returning h) : FnD Tryz.prog B 98 #[.pointer p] .returning (dfE K) h := by
  intro n
  refine callsD_of_wpS Tryz.func98 rfl fun c₀ cs hu => ?_
  have hr : recoverD (c₀ :: cs) = none := by simp [recoverD, hu]
  apply wpS_seq
  apply wpS_region
  simp [wpOpsS, go_sem, hr, Exit.thenS, Tryz.f98]
  apply wpS_seq
  apply wpS_seq
  apply wpS_region
  simp [wpOpsS, go_sem, Exit.thenS, nil_nil]
  refine wpS_cond (t := true) (by simp [Act.eval, Array.replicate]) ?_
  simp only [if_true]
  refine wpS_of_wp (wp_ret ?_)
  refine ⟨rfl, .returning, ?_, .tuple #[], ?_, h, ⟨n, rfl⟩, H⟩
  rotate_left
  · simp [results, go_sem]
  cases c₀
  simp_all
end Go.Proofs
