import Derived.Test.YtedmhkimbbkdgaaGreatFmtA26
/- Here stand lemmas: the deferred function of expansion. -/
set_option linter.unusedVariables false
namespace Go.Proofs
open Go Go.Eng
variable {B : World} {R : Ending → Heap → Prop} {h : Heap}
/-- expansion.caught behind what returns. -/
theorem K86r {p q : Option Addr} {K : FrameMode → Heap → Prop} (H : K .returning h) : FnD Tryz.prog B 14 #[.pointer p, .pointer q] .returning (dfE K) h := by
  intro n
  refine callsD_of_wpS Tryz.func14 rfl fun c₀ cs hu => ?_
  have hr : recoverD (c₀ :: cs) = none := by simp [recoverD, hu]
  apply wpS_seq
  apply wpS_region
  simp [wpOpsS, go_sem, hr, Exit.thenS, Tryz.f14]
  apply wpS_seq
  apply wpS_seq
  apply wpS_region
  simp [wpOpsS, go_sem, Exit.thenS, nil_nil]
  refine wpS_cond (t := true) (by simp [Act.eval, Array.replicate]) ?_
  simp only [if_true]
  refine wpS_of_wp (wp_ret ?_)
  refine ⟨rfl, .returning, ?_, .tuple #[], ?_, h, ⟨n, rfl⟩, H⟩
  rotate_left
  · simp [results, go_sem]
  cases c₀
  simp_all
theorem ix_nil (w : World) : (binOp .eql 20 (.iface 48 (.agg #[])) Value.nilIface).run Tryz.prog w = .ok (.bool false) w :=
  pureRun_run (P := Tryz.prog) _ (by kernel_rfl) w
theorem ix_as (w : World) : Sem.run Tryz.prog (Instr.typeAssert (Value.iface 48 (Value.agg #[])) 20 48 true) w = .ok (.tuple #[.agg #[], .bool true]) w :=
  pureRun_run (P := Tryz.prog) _ (by kernel_rfl) w
/-- expansion.caught behind a step that was not exact. -/
theorem K86p {r s : Nat} {l0 : Value} {e0 : Value} {K : FrameMode → Heap → Prop} (O : Own h r #[l0]) (O2 : Own h s #[e0]) (hrs : s ≠ r) (H : ∀ h', Fr (fun x => x = r ∨ x = s) h h' → Own h' r #[.slice none 0 0] → Own h' s #[.int .i64 14] → K .returning h') :
    FnD Tryz.prog B 14 #[.pointer (some ⟨r, 0, none⟩), .pointer (some ⟨s, 0, none⟩)] (.panicking [{ v := .iface 48 (.agg #[]), recovered := false }]) (dfE K) h := by
  intro n
  refine callsD_of_wpS Tryz.func14 rfl fun c₀ cs hu => ?_
  have hr : recoverD (c₀ :: cs) = some (.iface 48 (.agg #[]), { c₀ with mode := .panicking [{ v := .iface 48 (.agg #[]), recovered := true }] } :: cs) := by simp [recoverD, hu]
  apply wpS_seq
  apply wpS_region
  simp [wpOpsS, go_sem, hr, Exit.thenS, Tryz.f14]
  generalize hQ : bodyPostS Tryz.prog _ c₀ cs _ = Q
  apply wpS_seq
  apply wpS_seq
  apply wpS_region
  simp [wpOpsS, go_sem, Exit.thenS, ix_nil]
  refine wpS_cond (t := false) (by simp [Act.eval, Array.replicate]) ?_
  simp only [Bool.false_eq_true, if_false]
  refine wpS_of_wp (wp_skip ?_)
  simp only [Exit.thenS]
  apply wpS_seq
  apply wpS_seq
  apply wpS_region
  simp [wpOpsS, go_sem, Exit.thenS, ix_as]
  apply wpS_seq
  apply wpS_region
  simp [wpOpsS, go_sem, Exit.thenS]
  refine wpS_cond (t := false) (by simp [Act.eval, Array.replicate]) ?_
  simp only [Bool.false_eq_true, if_false]
  refine wpS_of_wp (wp_skip ?_)
  simp only [Exit.thenS]
  apply wpS_region
  have O1 := own_push (o := Obj.cells #[] 48) O
  have O3 := own_push (o := Obj.cells #[] 48) O2
  have hc1 : ((mk B h n).alloc (Obj.cells #[] 48)).cell? ⟨r, 0, none⟩ = some l0 := O1.cell 0
  have hf1 : ((mk B h n).alloc (Obj.cells #[] 48)).frozen? ⟨r, 0, none⟩ = false := O1.frozen 0
  have O4 := own_set_ne (b' := r) (o := 0) (v := .slice none 0 0) O3 hrs
  have hc2 : (((mk B h n).alloc (Obj.cells #[] 48)).setCell ⟨r, 0, none⟩ (.slice none 0 0)).cell? ⟨s, 0, none⟩ = some e0 := O4.cell 0
  have hf2 : (((mk B h n).alloc (Obj.cells #[] 48)).setCell ⟨r, 0, none⟩ (.slice none 0 0)).frozen? ⟨s, 0, none⟩ = false := O4.frozen 0
  simp [wpOpsS, go_sem, hc1, hf1, hc2, hf2]
  rw [← hQ]
  refine ⟨rfl, .panicking [{ v := .iface 48 (.agg #[]), recovered := true }], rfl, .tuple #[], ?_, ?_⟩
  · simp [results, go_sem]
  · refine ⟨setCell (setCell (h.push (Obj.cells #[] 48)) ⟨r, 0, none⟩ (.slice none 0 0)) ⟨s, 0, none⟩ (.int .i64 14), ⟨n, rfl⟩, ?_⟩
    refine H _ (Fr.trans (Ext.push (o := Obj.cells #[] 48)).to (Fr.trans (S := fun x => x = r ∨ x = s) (Fr.mono fr_setCell fun x _ e => .inl e) fr_setCell fun x _ e => .inr e) fun x _ e => e) ?_ ?_
    · exact own_set_ne (own_set O1) (fun e => hrs e.symm)
    · exact own_set O4
end Go.Proofs
