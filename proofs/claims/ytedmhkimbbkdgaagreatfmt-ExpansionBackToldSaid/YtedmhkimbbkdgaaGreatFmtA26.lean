import Derived.Test.YtedmhkimbbkdgaaGreatFmtA22
import Derived.WalkKit
import Derived.Test.YtedmhkimbbkdgaaGreatFmtA07
/- Here stand lemmas: the deferred function of dyadic behind a panic. -/
set_option linter.unusedVariables false
namespace Go.Proofs
open Go Go.Eng
variable {B : World} {R : Ending → Heap → Prop} {h : Heap}
theorem gu_nil (e : Int) (w : World) : (binOp .eql 20 (.iface 120 (.agg #[.int .i64 e])) Value.nilIface).run Tryz.prog w = .ok (.bool false) w :=
  pureRun_run (P := Tryz.prog) _ (by kernel_rfl) w
theorem gu_as (e : Int) (w : World) : Sem.run Tryz.prog (Instr.typeAssert (Value.iface 120 (Value.agg #[Value.int IntKind.i64 e])) 20 120 true) w = .ok (.tuple #[.agg #[.int .i64 e], .bool true]) w :=
  pureRun_run (P := Tryz.prog) _ (by kernel_rfl) w
theorem K62p {r : Nat} {e : Int} {K : FrameMode → Heap → Prop} (O : Own h r #[.int .i64 0]) (H : ∀ h', Fr (fun x => x = r) h h' → Own h' r #[.int .i64 e] → K .returning h') :
    FnD Tryz.prog B 36 #[.pointer (some ⟨r, 0, none⟩)] (.panicking [{ v := .iface 120 (.agg #[.int .i64 e]), recovered := false }]) (dfE K) h := by
  intro n
  refine callsD_of_wpS Tryz.func36 rfl fun c₀ cs hu => ?_
  have hr : recoverD (c₀ :: cs) = some (.iface 120 (.agg #[.int .i64 e]), { c₀ with mode := .panicking [{ v := .iface 120 (.agg #[.int .i64 e]), recovered := true }] } :: cs) := by simp [recoverD, hu]
  apply wpS_seq
  apply wpS_region
  simp [wpOpsS, go_sem, hr, Exit.thenS, Tryz.f36]
  generalize hQ : bodyPostS Tryz.prog _ c₀ cs _ = Q
  apply wpS_seq
  apply wpS_seq
  apply wpS_region
  simp [wpOpsS, go_sem, Exit.thenS, gu_nil]
  refine wpS_cond (t := false) (by simp [Act.eval, Array.replicate]) ?_
  simp only [Bool.false_eq_true, if_false]
  refine wpS_of_wp (wp_skip ?_)
  simp only [Exit.thenS]
  apply wpS_seq
  apply wpS_region
  simp [wpOpsS, go_sem, Exit.thenS, gu_as]
  apply wpS_seq
  apply wpS_seq
  apply wpS_region
  simp [wpOpsS, go_sem, Exit.thenS]
  refine wpS_cond (t := false) (by simp [Act.eval, Array.replicate]) ?_
  simp only [Bool.false_eq_true, if_false]
  refine wpS_of_wp (wp_skip ?_)
  simp only [Exit.thenS]
  apply wpS_region
  have hsz : (mk B h n).heap.size = h.size := rfl
  have hc1 : ((mk B h n).alloc (Obj.cells #[Value.int IntKind.i64 e] 120)).cell? ⟨(mk B h n).heap.size, 0, none⟩ = some (.int .i64 e) := by
    have := (own_new (h := h) (cs := #[Value.int IntKind.i64 e]) (e := 120)).cell 0
    exact this
  have hr0 : r < h.size := O.lt
  have hc0 : ((mk B h n).alloc (Obj.cells #[Value.int IntKind.i64 e] 120)).cell? ⟨r, 0, none⟩ = some (.int .i64 0) := by
    have := (own_push (o := Obj.cells #[Value.int IntKind.i64 e] 120) O).cell 0
    exact this
  have hf0 : ((mk B h n).alloc (Obj.cells #[Value.int IntKind.i64 e] 120)).frozen? ⟨r, 0, none⟩ = false := by
    have := (own_push (o := Obj.cells #[Value.int IntKind.i64 e] 120) O).frozen 0
    exact this
  simp [wpOpsS, go_sem, hc1, hc0, hf0]
  rw [← hQ]
  have O1 := own_push (o := Obj.cells #[Value.int IntKind.i64 e] 120) O
  refine ⟨rfl, .panicking [{ v := .iface 120 (.agg #[.int .i64 e]), recovered := true }], rfl, .tuple #[], ?_, ?_⟩
  · simp [results, go_sem]
  · refine ⟨setCell (h.push (Obj.cells #[Value.int IntKind.i64 e] 120)) ⟨r, 0, none⟩ (.int .i64 e), ⟨n, rfl⟩, ?_⟩
    refine H _ (Fr.trans (Ext.push (o := Obj.cells #[Value.int IntKind.i64 e] 120)).to fr_setCell fun x _ e => e) ?_
    exact own_set O1
end Go.Proofs
