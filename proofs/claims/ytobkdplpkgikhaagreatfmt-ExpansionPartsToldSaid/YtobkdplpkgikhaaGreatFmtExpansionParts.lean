import Derived.Test.YtobkdplpkgikhaaGreatFmtA20
import Derived.WideKeyArgs
import Derived.Test.YtobkdplpkgikhaaGreatFmtA21
import Derived.Test.YtobkdplpkgikhaaGreatFmtA49
/- This text proves that expansion.Parts and the reference answer the same. -/
set_option linter.unusedVariables false
set_option linter.unusedVariables false
namespace Go.Proofs.YtobkdplpkgikhaaGreatFmt.expansionParts
open Go.Eng Go.ChangeShapes Go.WideShapes Go.ChangeAt Go.RowKit
open Go.Extern.Stop Go.Stop Go.Extern
theorem wf : Rows.expansionPartsRow.wfByText (OpenSpec.ofChange Rows.expansionPartsSpec) = true := by kernel_rfl
theorem pkeys : Rows.expansionPartsRow.plainKeys = Tryz.prog.plainKeys := by kernel_rfl
theorem lifts : Rows.expansionPartsRow.lifted = Tryz.prog.liftsFinal := by kernel_rfl
theorem makeIs : Tryz.prog.make = some Rows.expansionPartsRow.make := by kernel_rfl
theorem cellsN : Tryz.prog.cellsOf 24 = 3 := by kernel_rfl
theorem cells1 : Tryz.prog.cellsOf 4 = 1 := by kernel_rfl
theorem cellsL : Tryz.prog.cellsOf 22 = 1 := by kernel_rfl
theorem cell_some_spot {w : World} {a : Addr} {v : Value} (h : w.cell? a = some v) : a.spot = none ∧ a.block < w.heap.size := by
  unfold World.cell? at h
  cases hb : w.heap[a.block]? with
  | none => rw [hb] at h; cases h
  | some o =>
    refine ⟨?_, (Array.getElem?_eq_some_iff.1 hb).1⟩
    rw [hb] at h
    cases hs : a.spot with
    | none => rfl
    | some s => rw [hs] at h; cases o <;> simp at h
/-- A slice of whole numbers that came in. -/
theorem ints_of_cells {H : Type} {enc : TypeId × Value → H} {W : World} {base fuel : Nat} {spare : Nat → Bool} {held : Bool} {cs : List Value} {y : DataW H × List MemPlace} (h : DataW.trod enc Tryz.prog W base spare held fuel 22 cs = some y) :
    ∃ a0 len cap xs, cs = [.slice a0 len cap] ∧ Go.Proofs.IntsH W.heap a0 xs ∧ xs.length = len ∧ len < 9223372036854775808 := by
  rcases DataW.trod_slice Tryz.underlying22 h with ⟨hcs, _⟩ | ⟨a, len, cap, elems, rest, n, _, hcs, _, hb, hle, hmx, hlen, hel, _, _⟩
  · exact ⟨none, 0, 0, [], hcs, ⟨fun x hx => (by cases hx), .inl rfl⟩, rfl, by decide⟩
  · have hm : maxLen = 9223372036854775807 := by decide
    rw [hm] at hmx
    have get : ∀ j, j < len → ∃ x, I64 x ∧ W.cell? ((a.add (j * 1)).add 0) = some (.int .i64 x) := by
      intro j hj
      have he := hel j hj
      rw [c3, List.getElem?_eq_getElem (by rw [hlen]; exact hj)] at he
      obtain ⟨cs, hc, ht⟩ := Option.bind_eq_some_iff.1 he
      obtain ⟨_, hl, hcell⟩ := World.cells?_some hc
      obtain ⟨x, e0, _, w0⟩ := DataW.trod_int Tryz.underlying3 ht
      have := hcell 0 (Nat.zero_lt_one)
      rw [e0] at this
      exact ⟨x, i64_of_wf w0, this⟩
    match len, get, hle with
    | 0, _, _ => exact ⟨some a, 0, cap, [], hcs, ⟨fun x hx => (by cases hx), .inl rfl⟩, rfl, by decide⟩
    | len + 1, get, hle =>
      obtain ⟨x0, _, z0⟩ := get 0 (Nat.succ_pos _)
      have hs := cell_some_spot z0
      have e00 : (a.add (0 * 1)).add 0 = a := by simp [Addr.add]
      rw [e00] at hs
      obtain ⟨b, o, sp⟩ := a
      obtain ⟨hsp, hlt⟩ := hs
      have hsp : sp = none := hsp
      subst hsp
      have hx : ∀ j : Fin (len + 1), ∃ x, I64 x ∧ cell? W.heap ⟨b, o + j.val, none⟩ = some (.int .i64 x) := fun j => by
        obtain ⟨x, ix, hc⟩ := get j.val j.isLt
        have e1 : ((⟨b, o, none⟩ : Addr).add (j.val * 1)).add 0 = ⟨b, o + j.val, none⟩ := by simp [Addr.add]
        rw [e1] at hc
        exact ⟨x, ix, hc⟩
      refine ⟨some ⟨b, o, none⟩, len + 1, cap, List.ofFn fun j => (hx j).choose, hcs, ⟨fun y hy => ?_, .inr ⟨b, o, rfl, hlt, fun i hi => ?_⟩⟩, List.length_ofFn, by omega⟩
      · obtain ⟨j, rfl⟩ := List.mem_ofFn.1 hy
        exact (hx j).choose_spec.1
      · rw [List.getElem_ofFn]
        rw [List.length_ofFn] at hi
        exact (hx ⟨i, hi⟩).choose_spec.2
set_option maxRecDepth 100000 in
/-- A number that came in. -/
theorem open_num {H : Type} {enc : TypeId × Value → H} {W : World} {b0 base : Nat} {spare : Nat → Bool} {held : Bool} {v : Value} {d : DataW H} {ps : List MemPlace} (hval : Value.okWide Tryz.prog W .any b0 24 v) (hd : DataW.Trod enc Tryz.prog W base spare held 24 v d ps) :
    ∃ ng a len cap e xs, v = .agg #[.bool ng, .slice a len cap, .int .i64 e] ∧ Go.Proofs.IntsH W.heap a xs ∧ xs.length = len ∧ len < 9223372036854775808 := by
  obtain ⟨⟨l⟩, rfl, hs⟩ := okWide_struct Tryz.underlying24 hval
  obtain ⟨fuel, hf⟩ := hd
  obtain ⟨ys, n, _, hx, hl, hlen, hk⟩ := DataW.trod_struct Tryz.underlying24 hf
  have l3 : l.length = 3 := by rw [cellsN] at hs; simpa using hs
  match l, l3, ys, hlen, hk with
  | [x, y, z], _, [y0, y1, y2], _, hk =>
    have e0 := hk 0 _ rfl
    have e1 := hk 1 _ rfl
    have e2 := hk 2 _ rfl
    simp [Value.cells, c3, cells1, cellsL] at e0 e1 e2
    obtain ⟨b, b1, _⟩ := DataW.trod_bool Tryz.underlying4 e0
    obtain ⟨a, len, cap, xs, s1, s2, s3, s4⟩ := ints_of_cells e1
    obtain ⟨e, i1, _, _⟩ := DataW.trod_int Tryz.underlying3 e2
    simp at b1 s1 i1
    subst b1 s1 i1
    exact ⟨b, a, len, cap, e, xs, rfl, s2, s3, s4⟩
theorem tyN : Tryz.prog.cellTypes Tryz.prog.depth 24 = some [4, 22, 3] := by kernel_rfl
set_option maxRecDepth 100000 in
theorem ptB_cell {w : World} {p : Option Addr} {n c : Nat} {r : Reach} {base : Nat} (h : Cell.okWide Tryz.prog w r base 22 (.slice p n c)) : PtB w.heap p ∧ n ≤ c := by
  have h2 : Cell.ok Tryz.prog w r base 22 (.slice p n c) := by
    have h3 : Cell.okWide Tryz.prog w r base 22 (.slice p n c) = Cell.ok Tryz.prog w r base 22 (.slice p n c) := by unfold Cell.okWide; rw [Tryz.underlying22]
    rw [h3] at h; exact h
  cases p with
  | none =>
    cases n with
    | zero => exact ⟨.inl rfl, Nat.zero_le _⟩
    | succ n => exact absurd h2 (by unfold Cell.ok; rw [Tryz.underlying22]; exact id)
  | some a =>
    have h3 : Cell.ok Tryz.prog w r base 22 (.slice (some a) n c) = (n ≤ c ∧ (c : Int) ≤ IntKind.i64.max ∧ w.has Tryz.prog r base a 3 c) := by unfold Cell.ok; rw [Tryz.underlying22]
    rw [h3] at h2
    obtain ⟨hl, _, _, hs, row, cells, hsh, _⟩ := h2
    obtain ⟨b, o, s⟩ := a
    obtain rfl : s = none := hs
    refine ⟨.inr ⟨b, o, rfl, ?_⟩, hl⟩
    unfold World.shape? at hsh
    cases hb : w.heap[b]? with
    | none => rw [hb] at hsh; cases hsh
    | some x => exact (Array.getElem?_eq_some_iff.1 hb).1
set_option maxRecDepth 100000 in
theorem ptB_num {W : World} {b0 : Nat} {x z : Value} {a : Option Addr} {n c : Nat} (hval : Value.okWide Tryz.prog W .any b0 24 (.agg #[x, .slice a n c, z])) : PtB W.heap a ∧ n ≤ c := by
  have h1 : ∃ cs, (Value.agg #[x, .slice a n c, z]) = .agg cs ∧ cs.size = Tryz.prog.cellsOf 24 ∧ Row.okWide Tryz.prog W .any b0 24 cs := by
    have h := hval
    unfold Value.okWide at h
    rw [Tryz.underlying24] at h
    exact h
  obtain ⟨cs, e, _, ts, ht, _, hc⟩ := h1
  cases e
  rw [tyN] at ht; cases ht
  obtain ⟨u, hu, hk⟩ := hc 1 _ rfl
  obtain rfl : (22 : Nat) = u := Option.some.inj hu
  exact ptB_cell hk
set_option maxRecDepth 100000 in
theorem shaped1 (os : Os) (args : Array Value) : ((World.laidAll Tryz.prog os laid11).forCall (fun _ _ => 0) ⟨#[], args, []⟩).variablesRefB Tryz.prog = true := by kernel_rfl
theorem shaped2 (os : Os) (args : Array Value) : (((World.laidAll Tryz.prog os laid11).forCall (fun _ _ => 0) ⟨#[], args, []⟩).heap.toList.drop Tryz.prog.globals.size).take ((begin Tryz.prog (fun _ _ => 0) default).world.heap.size - Tryz.prog.globals.size) =
    (begin Tryz.prog (fun _ _ => 0) default).world.heap.toList.drop Tryz.prog.globals.size := by kernel_rfl
abbrev zs : Array Value := #[.agg #[.bool false, .slice none 0 0, .int .i64 0]]
theorem inputOk (os : Os) : Input.okWideB Tryz.prog ((World.laidAll Tryz.prog os laid11).forCall (fun _ _ => 0) ⟨#[], zs, []⟩) 3 ⟨#[], zs, []⟩ = true := by kernel_rfl
theorem witness_row (os : Os) {H : Type} (enc : TypeId × Value → H) :
    (OpenSpec.ofChange Rows.expansionPartsSpec).preRow enc Tryz.prog Tryz.f3 Rows.expansionPartsRow.domain false Rows.expansionPartsRow.laid ((World.laidAll Tryz.prog os laid11).forCall (fun _ _ => 0) ⟨#[], zs, []⟩).memory zs := by
  have hw : (DataW.whole enc Tryz.prog ((World.laidAll Tryz.prog os laid11).forCall (fun _ _ => 0) ⟨#[], zs, []⟩).memory Tryz.f3.params.toList (OpenSpec.ofChange Rows.expansionPartsSpec).vars false zs.toList 8).map (fun x => (x.1, x.2.1)) =
      some ([.agg [.lit (.bool false), .nil, .lit (.int .i64 0)]], []) := by kernel_rfl
  obtain ⟨⟨x1, x2, x3⟩, hx, hx1⟩ := Option.map_eq_some_iff.1 hw
  simp only [Prod.mk.injEq] at hx1
  obtain ⟨rfl, rfl⟩ := hx1
  exact OpenSpec.preRow_of_cond 8 hx (by kernel_rfl) (fun k hk => by cases hk) (by kernel_rfl) (laid_start os _)
set_option maxRecDepth 100000 in
theorem lifted (os : Os) (started : os.Started) (H : Type) (enc : TypeId × Value → H) :
    ReturnsInTold none {} Tryz.checked os 3 .any Input.okWide ((OpenSpec.ofChange Rows.expansionPartsSpec).preRow enc Tryz.prog Tryz.f3 Rows.expansionPartsRow.domain false Rows.expansionPartsRow.laid)
      (fun F => ((OpenSpec.ofChange Rows.expansionPartsSpec).at F).post enc Tryz.prog Tryz.f3 Rows.expansionPartsRow.apart Rows.expansionPartsRow.fresh Rows.expansionPartsRow.handsOn Rows.expansionPartsRow.again) (aloneAtReturn Tryz.prog) nothingAlways := by
  refine returnsInTold_of_row (C := Tryz.checked) (s := OpenSpec.ofChange Rows.expansionPartsSpec) (by kernel_rfl) own started (by kernel_rfl) Tryz.func3
    (OpenSpec.witness_stopped_atRef (enc := enc) (C := Tryz.checked) false (World.laidAll Tryz.prog os laid11) zs (World.laidAll_os _ _ _) (shaped1 os _) (shaped2 os _) (inputOk os) (witness_row os enc)) ?_
  intro F W base args ds gs before _ hF hval0 hW hcnd0 _ _ hL _
  clear hcnd0
  have hval : ∀ (j : Nat) t v, Tryz.f3.params[j]? = some t → args[j]? = some v → Value.okWide Tryz.prog W .any base t v := hval0
  have hW' := hW
  obtain ⟨p, q, hA0, hV, rfl, hfz, hnd⟩ := hW
  have hA : DataW.TrodAll enc Tryz.prog W 0 (fun _ => true) true Tryz.f3.params.toList args.toList ds p := hA0
  rw [Tryz.params3] at hA hval
  obtain ⟨v0, vs0, d0, ds0, pl0, q0, hargs, rfl, rfl, h0, r0⟩ := trodAll_cons hA
  obtain ⟨rfl, rfl, rfl⟩ := trodAll_nil r0
  obtain rfl : args = #[v0] := by cases args; simp_all
  obtain ⟨rfl, rfl⟩ := trodVars_none hV
  obtain ⟨ng0, a0, len0, cap0, x0, xs0, rfl, I0, L0, M0⟩ := open_num (hval 0 24 v0 rfl rfl) h0
  have h0k := h0
  have P0 := ptB_num (hval 0 24 _ rfl rfl)
  clear hA0 hval0
  have hlt := hW'.lt
  refine (calls_of_ent (v := .bool true) (args := #[.agg #[.bool ng0, .slice a0 len0 cap0, .int .i64 x0]]) Tryz.func3 (by kernel_rfl) (by kernel_rfl) fun R hR =>
    K1394 (tab_of_laid hL) ⟨xs0, I0, L0, P0.1, P0.2⟩ hR).mono fun e W' ⟨he, hg⟩ => ?_
  subst he
  exact ⟨_, rfl, post_of_below (s := Rows.expansionPartsSpec) (pa := (pl0 ++ [])) (pv := []) hW' (fun _ _ _ => (trodAll_cons_mk (shut_bool Tryz.underlying4 _) trodAll_mk0))
    (fun sp hsp => (trodAll_cons_mk (WideElems.Trod_stays laidOut (by kernel_rfl) (of_decide_eq_true (by kernel_rfl)) h0k (fun x hx => hg.same (hlt x (by simp [hx]))) (fun x hx => hsp x (by simp [hx]))) trodAll_mk0)) (fun _ _ => rfl) rfl
    hg (ok_one (by kernel_rfl) rfl (okWide_bool_mk Tryz.underlying4 _))⟩
/-- The told and tied card. -/
theorem proved : Rows.ExpansionPartsToldSaid :=
  Claim7.holds_of_told_tied_any_at .later 3 Tryz.f3 "fmt.Sprintf" [] [] _ _ _ _ _ wf rfl rfl rfl laidOut mapsR rfl ⟨rfl, rfl, rfl, rfl, rfl, rfl, rfl⟩ rfl rfl (by kernel_rfl) (by kernel_rfl) Tryz.func3 (by kernel_rfl)
    (of_decide_eq_true (by kernel_rfl)) (by unfold Func.isWrapper; first | (rw [if_pos (by decide +kernel)]; kernel_rfl) | (rw [if_neg (by decide +kernel)]; exact ⟨rfl, rfl⟩)) stops.symm rfl stopKnobs.symm envW
    k3 k4 k5 k6 (by kernel_rfl) (by kernel_rfl) (by kernel_rfl) (by kernel_rfl) (by kernel_rfl) rfl (by kernel_rfl) rfl rfl
    rfl rfl
    rfl mainis looksY (by kernel_rfl) (by decide) (goes_entering rfl stillAll) expansionParts_row_tie
    (OpenClaim.moreEntering_of enterM (by kernel_rfl) heard (by kernel_rfl) (by kernel_rfl) (by kernel_rfl) (by kernel_rfl) pkeys lifts makeIs)
    ⟨_, WideRow.started_initial, quiet _⟩
    (fun os started _ H enc _ => lifted os started H enc)
end Go.Proofs.YtobkdplpkgikhaaGreatFmt.expansionParts
