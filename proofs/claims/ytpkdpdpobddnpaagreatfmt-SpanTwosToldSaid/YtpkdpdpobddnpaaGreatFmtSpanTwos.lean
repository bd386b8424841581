import Derived.Test.YtpkdpdpobddnpaaGreatFmtA44
import Derived.Test.YtpkdpdpobddnpaaGreatFmtA45
import Derived.Test.YtpkdpdpobddnpaaGreatFmtA53
/- This text proves that SpanTwos holds: for all two spans of integers the law returns true and its arguments read as before; the listed tables are tied to the program text. -/
set_option linter.unusedVariables false
set_option linter.unusedVariables false
namespace Go.Proofs.YtpkdpdpobddnpaaGreatFmt.spanTwos
open Go.Eng Go.ChangeShapes Go.WideShapes Go.ChangeAt Go.RowKit
open Go.Extern.Stop Go.Stop Go.Extern
theorem wf : Rows.spanTwosRow.wfByText (OpenSpec.ofChange Rows.spanTwosSpec) = true := by kernel_rfl
theorem pkeys : Rows.spanTwosRow.plainKeys = Tryz.prog.plainKeys := by kernel_rfl
theorem lifts : Rows.spanTwosRow.lifted = Tryz.prog.liftsFinal := by kernel_rfl
theorem makeIs : Tryz.prog.make = some Rows.spanTwosRow.make := by kernel_rfl
theorem cells23 : Tryz.prog.cellsOf 23 = 2 := by kernel_rfl
set_option maxRecDepth 100000 in
theorem open_span {H : Type} {enc : TypeId × Value → H} {W : World} {b0 base : Nat} {spare : Nat → Bool} {held : Bool} {v : Value} {d : DataW H} {ps : List MemPlace} (hval : Value.okWide Tryz.prog W .any b0 23 v) (hd : DataW.Trod enc Tryz.prog W base spare held 23 v d ps) :
    ∃ a b, v = .agg #[.int .i64 a, .int .i64 b] ∧ d = .agg [.lit (.int .i64 a), .lit (.int .i64 b)] ∧ ps = [] ∧ (Lit.int .i64 a).wf = true ∧ (Lit.int .i64 b).wf = true := by
  obtain ⟨⟨l⟩, rfl, hs⟩ := okWide_struct Tryz.underlying23 hval
  obtain ⟨fuel, hf⟩ := hd
  obtain ⟨y0, y1, n, hx, hl, e0, e1⟩ := trod_struct2 Tryz.underlying23 hf
  obtain ⟨a, a1, a2, wa⟩ := DataW.trod_int Tryz.underlying3 e0
  obtain ⟨b, b1, b2, wb⟩ := DataW.trod_int Tryz.underlying3 e1
  have l2 : l.length = 2 := by rw [cells23] at hs; simpa using hs
  match l, l2 with
  | [x, y], _ =>
    simp [Value.cells, c3] at a1 b1
    subst a1 b1 a2 b2
    simp only [Prod.mk.injEq] at hx
    exact ⟨a, b, rfl, hx.1, by simpa using hx.2, wa, wb⟩
theorem shut_span {H : Type} {enc : TypeId × Value → H} {W : World} {base : Nat} {spare : Nat → Bool} {held : Bool} {a b : Int} (wa : (Lit.int .i64 a).wf = true) (wb : (Lit.int .i64 b).wf = true) :
    DataW.Trod enc Tryz.prog W base spare held 23 (.agg #[.int .i64 a, .int .i64 b]) (.agg [.lit (.int .i64 a), .lit (.int .i64 b)]) [] :=
  ⟨2, trod_struct2_mk (enc := enc) (w := W) (base := base) (spare := spare) (held := held) (n := 1) (cs := [.int .i64 a, .int .i64 b]) (y0 := (.lit (.int .i64 a), [])) (y1 := (.lit (.int .i64 b), [])) Tryz.underlying23 (by rw [cells23]; rfl) (by simpa [c3] using trod_int_mk (enc := enc) (w := W) (base := base) (spare := spare) (held := held) 0 Tryz.underlying3 wa) (by simpa [c3] using trod_int_mk (enc := enc) (w := W) (base := base) (spare := spare) (held := held) 0 Tryz.underlying3 wb)⟩
theorem shaped1 (os : Os) (args : Array Value) : ((World.laidAll Tryz.prog os laid11).forCall (fun _ _ => 0) ⟨#[], args, []⟩).variablesRefB Tryz.prog = true := by kernel_rfl
theorem shaped2 (os : Os) (args : Array Value) : (((World.laidAll Tryz.prog os laid11).forCall (fun _ _ => 0) ⟨#[], args, []⟩).heap.toList.drop Tryz.prog.globals.size).take ((begin Tryz.prog (fun _ _ => 0) default).world.heap.size - Tryz.prog.globals.size) =
    (begin Tryz.prog (fun _ _ => 0) default).world.heap.toList.drop Tryz.prog.globals.size := by kernel_rfl
abbrev zs : Array Value := #[.agg #[.int .i64 0, .int .i64 0], .agg #[.int .i64 0, .int .i64 0]]
theorem inputOk (os : Os) : Input.okWideB Tryz.prog ((World.laidAll Tryz.prog os laid11).forCall (fun _ _ => 0) ⟨#[], zs, []⟩) 3 ⟨#[], zs, []⟩ = true := by kernel_rfl
theorem witness_row (os : Os) {H : Type} (enc : TypeId × Value → H) :
    (OpenSpec.ofChange Rows.spanTwosSpec).preRow enc Tryz.prog Tryz.f3 Rows.spanTwosRow.domain false Rows.spanTwosRow.laid ((World.laidAll Tryz.prog os laid11).forCall (fun _ _ => 0) ⟨#[], zs, []⟩).memory zs := by
  have hw : (DataW.whole enc Tryz.prog ((World.laidAll Tryz.prog os laid11).forCall (fun _ _ => 0) ⟨#[], zs, []⟩).memory Tryz.f3.params.toList (OpenSpec.ofChange Rows.spanTwosSpec).vars false zs.toList 8).map (fun x => (x.1, x.2.1)) =
      some ([.agg [.lit (.int .i64 0), .lit (.int .i64 0)], .agg [.lit (.int .i64 0), .lit (.int .i64 0)]], []) := by kernel_rfl
  obtain ⟨⟨x1, x2, x3⟩, hx, hx1⟩ := Option.map_eq_some_iff.1 hw
  simp only [Prod.mk.injEq] at hx1
  obtain ⟨rfl, rfl⟩ := hx1
  exact OpenSpec.preRow_of_cond 8 hx (by kernel_rfl) (fun k hk => by cases hk) (by kernel_rfl) (laid_start os _)
set_option maxRecDepth 100000 in
theorem lifted (os : Os) (started : os.Started) (H : Type) (enc : TypeId × Value → H) :
    ReturnsInTold none {} Tryz.checked os 3 .any Input.okWide ((OpenSpec.ofChange Rows.spanTwosSpec).preRow enc Tryz.prog Tryz.f3 Rows.spanTwosRow.domain false Rows.spanTwosRow.laid)
      (fun F => ((OpenSpec.ofChange Rows.spanTwosSpec).at F).post enc Tryz.prog Tryz.f3 Rows.spanTwosRow.apart Rows.spanTwosRow.fresh Rows.spanTwosRow.handsOn Rows.spanTwosRow.again) (aloneAtReturn Tryz.prog) nothingAlways := by
  refine returnsInTold_of_row (C := Tryz.checked) (s := OpenSpec.ofChange Rows.spanTwosSpec) (by kernel_rfl) own started (by kernel_rfl) Tryz.func3
    (OpenSpec.witness_stopped_atRef (enc := enc) (C := Tryz.checked) false (World.laidAll Tryz.prog os laid11) zs (World.laidAll_os _ _ _) (shaped1 os _) (shaped2 os _) (inputOk os) (witness_row os enc)) ?_
  intro F W base args ds gs before _ hF hval0 hW hcnd0 _ _ hL _
  clear hcnd0
  have hval : ∀ (j : Nat) t v, Tryz.f3.params[j]? = some t → args[j]? = some v → Value.okWide Tryz.prog W .any base t v := hval0
  have hW' := hW
  obtain ⟨p, q, hA0, hV, rfl, hfz, hnd⟩ := hW
  have hA : DataW.TrodAll enc Tryz.prog W 0 (fun _ => true) true Tryz.f3.params.toList args.toList ds p := hA0
  rw [Tryz.params3] at hA hval
  obtain ⟨v0, vs0, d0, ds0, pl0, q0, hargs, rfl, rfl, h0, r0⟩ := trodAll_cons hA
  obtain ⟨v1, vs1, d1, ds1, pl1, q1, rfl, rfl, rfl, h1, r1⟩ := trodAll_cons r0
  obtain ⟨rfl, rfl, rfl⟩ := trodAll_nil r1
  obtain rfl : args = #[v0, v1] := by cases args; simp_all
  obtain ⟨rfl, rfl⟩ := trodVars_none hV
  obtain ⟨a0, b0, rfl, rfl, rfl, w0, x0⟩ := open_span (hval 0 23 v0 rfl rfl) h0
  obtain ⟨a1, b1, rfl, rfl, rfl, w1, x1⟩ := open_span (hval 1 23 v1 rfl rfl) h1
  clear hA0 hval0
  refine (calls_of_ent (v := .bool true) (args := #[.agg #[.int .i64 a0, .int .i64 b0], .agg #[.int .i64 a1, .int .i64 b1]]) Tryz.func3 (by kernel_rfl) (by kernel_rfl) fun R hR =>
    K1003 (tab_of_laid hL) (kar_of_laid hL) (none_of_laid hL) (i64_of_wf w0) (i64_of_wf x0) (i64_of_wf w1) (i64_of_wf x1) hR).mono fun e W' ⟨he, hg⟩ => ?_
  subst he
  exact ⟨_, rfl, post_of_below (s := Rows.spanTwosSpec) (pa := ([] ++ ([] ++ []))) (pv := []) hW' (fun _ _ _ => (trodAll_cons_mk (shut_bool Tryz.underlying4 _) trodAll_mk0))
    (fun sp hsp => (trodAll_cons_mk (shut_span w0 x0) (trodAll_cons_mk (shut_span w1 x1) trodAll_mk0))) (fun _ _ => rfl) rfl
    hg (ok_one (by kernel_rfl) rfl (okWide_bool_mk Tryz.underlying4 _))⟩
/-- The told and tied card. -/
theorem proved : Rows.SpanTwosToldSaid :=
  Claim7.holds_of_told_tied_any_at .later 3 Tryz.f3 "fmt.Sprintf" [] [] _ _ _ _ _ wf rfl rfl rfl laidOut mapsR rfl ⟨rfl, rfl, rfl, rfl, rfl, rfl, rfl⟩ rfl rfl (by kernel_rfl) (by kernel_rfl) Tryz.func3 (by kernel_rfl)
    (of_decide_eq_true (by kernel_rfl)) (by unfold Func.isWrapper; first | (rw [if_pos (by decide +kernel)]; kernel_rfl) | (rw [if_neg (by decide +kernel)]; exact ⟨rfl, rfl⟩)) stops.symm rfl stopKnobs.symm envW
    k3 k4 k5 k6 (by kernel_rfl) (by kernel_rfl) (by kernel_rfl) (by kernel_rfl) (by kernel_rfl) rfl (by kernel_rfl) rfl rfl
    rfl rfl
    rfl mainis looksY (by kernel_rfl) (by decide) (goes_entering rfl stillAll) spanTwos_row_tie
    (OpenClaim.moreEntering_of enterM (by kernel_rfl) heard (by kernel_rfl) (by kernel_rfl) (by kernel_rfl) (by kernel_rfl) pkeys lifts makeIs)
    ⟨_, WideRow.started_initial, quiet _⟩
    (fun os started _ H enc _ => lifted os started H enc)
end Go.Proofs.YtpkdpdpobddnpaaGreatFmt.spanTwos
