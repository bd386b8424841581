import Derived.Test.YtoclhdcpjlcdiaaGreatFmtA44
import Derived.Test.YtoclhdcpjlcdiaaGreatFmtA63
import Derived.Test.YtoclhdcpjlcdiaaGreatFmtA64
/- This text proves that making a float whole in the four ways answers as plumblaw4.RoundWhole says: for all inputs it returns true. -/
set_option linter.unusedVariables false
set_option linter.unusedVariables false
namespace Go.Proofs.YtoclhdcpjlcdiaaGreatFmt.roundWhole
open Go.Eng Go.ChangeShapes Go.WideShapes Go.ChangeAt Go.RowKit
open Go.Extern.Stop Go.Stop Go.Extern
theorem wf : Rows.roundWholeRow.wfByText (OpenSpec.ofChange Rows.roundWholeSpec) = true := by kernel_rfl
theorem pkeys : Rows.roundWholeRow.plainKeys = Tryz.prog.plainKeys := by kernel_rfl
theorem lifts : Rows.roundWholeRow.lifted = Tryz.prog.liftsFinal := by kernel_rfl
theorem makeIs : Tryz.prog.make = some Rows.roundWholeRow.make := by kernel_rfl
theorem shaped1 (os : Os) (args : Array Value) : ((World.laidAll Tryz.prog os laid11).forCall (fun _ _ => 0) ⟨#[], args, []⟩).variablesRefB Tryz.prog = true := by kernel_rfl
theorem shaped2 (os : Os) (args : Array Value) : (((World.laidAll Tryz.prog os laid11).forCall (fun _ _ => 0) ⟨#[], args, []⟩).heap.toList.drop Tryz.prog.globals.size).take ((begin Tryz.prog (fun _ _ => 0) default).world.heap.size - Tryz.prog.globals.size) =
    (begin Tryz.prog (fun _ _ => 0) default).world.heap.toList.drop Tryz.prog.globals.size := by kernel_rfl
abbrev zs : Array Value := #[.int .i64 0, .int .i64 0]
theorem inputOk (os : Os) : Input.okWideB Tryz.prog ((World.laidAll Tryz.prog os laid11).forCall (fun _ _ => 0) ⟨#[], zs, []⟩) 3 ⟨#[], zs, []⟩ = true := by kernel_rfl
theorem witness_row (os : Os) {H : Type} (enc : TypeId × Value → H) :
    (OpenSpec.ofChange Rows.roundWholeSpec).preRow enc Tryz.prog Tryz.f3 Rows.roundWholeRow.domain false Rows.roundWholeRow.laid ((World.laidAll Tryz.prog os laid11).forCall (fun _ _ => 0) ⟨#[], zs, []⟩).memory zs := by
  have hw : (DataW.whole enc Tryz.prog ((World.laidAll Tryz.prog os laid11).forCall (fun _ _ => 0) ⟨#[], zs, []⟩).memory Tryz.f3.params.toList (OpenSpec.ofChange Rows.roundWholeSpec).vars false zs.toList 8).map (fun x => (x.1, x.2.1)) =
      some ([.lit (.int .i64 0), .lit (.int .i64 0)], []) := by kernel_rfl
  obtain ⟨⟨x1, x2, x3⟩, hx, hx1⟩ := Option.map_eq_some_iff.1 hw
  simp only [Prod.mk.injEq] at hx1
  obtain ⟨rfl, rfl⟩ := hx1
  exact OpenSpec.preRow_of_cond 8 hx (by kernel_rfl) (fun k hk => by cases hk) (by kernel_rfl) (laid_start os _)
set_option maxRecDepth 100000 in
theorem lifted (os : Os) (started : os.Started) (H : Type) (enc : TypeId × Value → H) :
    ReturnsInTold none {} Tryz.checked os 3 .any Input.okWide ((OpenSpec.ofChange Rows.roundWholeSpec).preRow enc Tryz.prog Tryz.f3 Rows.roundWholeRow.domain false Rows.roundWholeRow.laid)
      (fun F => ((OpenSpec.ofChange Rows.roundWholeSpec).at F).post enc Tryz.prog Tryz.f3 Rows.roundWholeRow.apart Rows.roundWholeRow.fresh Rows.roundWholeRow.handsOn Rows.roundWholeRow.again) (aloneAtReturn Tryz.prog) nothingAlways := by
  refine returnsInTold_of_row (C := Tryz.checked) (s := OpenSpec.ofChange Rows.roundWholeSpec) (by kernel_rfl) own started (by kernel_rfl) Tryz.func3
    (OpenSpec.witness_stopped_atRef (enc := enc) (C := Tryz.checked) false (World.laidAll Tryz.prog os laid11) zs (World.laidAll_os _ _ _) (shaped1 os _) (shaped2 os _) (inputOk os) (witness_row os enc)) ?_
  intro F W base args ds gs before _ hF hval0 hW hcnd0 _ _ hL _
  clear hcnd0
  have hval : ∀ (j : Nat) t v, Tryz.f3.params[j]? = some t → args[j]? = some v → Value.okWide Tryz.prog W .any base t v := hval0
  have hW' := hW
  obtain ⟨p, q, hA0, hV, rfl, hfz, hnd⟩ := hW
  have hA : DataW.TrodAll enc Tryz.prog W 0 (fun _ => true) true Tryz.f3.params.toList args.toList ds p := hA0
  rw [Tryz.params3] at hA hval
  obtain ⟨v0, vs0, d0, ds0, pl0, q0, hargs, rfl, rfl, h0, r0⟩ := trodAll_cons hA
  obtain ⟨v1, vs1, d1, ds1, pl1, q1, rfl, rfl, rfl, h1, r1⟩ := trodAll_cons r0
  obtain ⟨rfl, rfl, rfl⟩ := trodAll_nil r1
  obtain rfl : args = #[v0, v1] := by cases args; simp_all
  obtain ⟨rfl, rfl⟩ := trodVars_none hV
  obtain ⟨a0, rfl, rfl, rfl, w0⟩ := open_int Tryz.underlying3 (hval 0 3 v0 rfl rfl) h0
  obtain ⟨a1, rfl, rfl, rfl, w1⟩ := open_int Tryz.underlying3 (hval 1 3 v1 rfl rfl) h1
  clear hA0 hval0
  refine (calls_of_ent (v := .bool true) (args := #[.int .i64 a0, .int .i64 a1]) Tryz.func3 (by kernel_rfl) (by kernel_rfl) fun R hR =>
    K1342 (tab_of_laid hL) (i64_of_wf w0) (i64_of_wf w1) hR).mono fun e W' ⟨he, hg⟩ => ?_
  subst he
  exact ⟨_, rfl, post_of_below (s := Rows.roundWholeSpec) (pa := ([] ++ ([] ++ []))) (pv := []) hW' (fun _ _ _ => (trodAll_cons_mk (shut_bool Tryz.underlying4 _) trodAll_mk0))
    (fun sp hsp => (trodAll_cons_mk (shut_int Tryz.underlying3 w0) (trodAll_cons_mk (shut_int Tryz.underlying3 w1) trodAll_mk0))) (fun _ _ => rfl) rfl
    hg (ok_one (by kernel_rfl) rfl (okWide_bool_mk Tryz.underlying4 _))⟩
/-- The told and tied card. -/
theorem proved : Rows.RoundWholeToldSaid :=
  Claim7.holds_of_told_tied_any_at .later 3 Tryz.f3 "fmt.Sprintf" [] [] _ _ _ _ _ wf rfl rfl rfl laidOut mapsR rfl ⟨rfl, rfl, rfl, rfl, rfl, rfl, rfl⟩ rfl rfl (by kernel_rfl) (by kernel_rfl) Tryz.func3 (by kernel_rfl)
    (of_decide_eq_true (by kernel_rfl)) (by unfold Func.isWrapper; first | (rw [if_pos (by decide +kernel)]; kernel_rfl) | (rw [if_neg (by decide +kernel)]; exact ⟨rfl, rfl⟩)) stops.symm rfl stopKnobs.symm envW
    k3 k4 k5 k6 (by kernel_rfl) (by kernel_rfl) (by kernel_rfl) (by kernel_rfl) (by kernel_rfl) rfl (by kernel_rfl) rfl rfl
    rfl rfl
    rfl mainis looksY (by kernel_rfl) (by decide) (goes_entering rfl stillAll) roundWhole_row_tie
    (OpenClaim.moreEntering_of enterM (by kernel_rfl) heard (by kernel_rfl) (by kernel_rfl) (by kernel_rfl) (by kernel_rfl) pkeys lifts makeIs)
    ⟨_, WideRow.started_initial, quiet _⟩
    (fun os started _ H enc _ => lifted os started H enc)
end Go.Proofs.YtoclhdcpjlcdiaaGreatFmt.roundWhole
