import Derived.Test.YtkfafikejdhccaaGreatDoorA18
import Derived.Test.YtkfafikejdhccaaGreatDoorA31
/- This text proves that ExpansionRefuses holds: for all two integers the law returns true and its arguments read as before; the listed tables are tied to the program text. -/
set_option linter.unusedVariables false
/-! The row expansionRefuses, over the walk K9. -/
namespace Go.Proofs.YtkfafikejdhccaaGreatDoor.expansionRefuses
open Go.Eng Go.ChangeShapes Go.WideShapes Go.ChangeAt Go.RowKit
set_option maxRecDepth 100000 in
theorem lifted (os : Os) (started : os.Started) (H : Type) (enc : TypeId × Value → H) :
    ReturnsInHanded {} Tryz.checked os 9 .any (fun w args => (Rows.expansionRefusesSpec.pre enc Tryz.prog Tryz.f9 [] false w args ∧ laidMetH Tryz.prog laid7 w) ∧ sizedMet enc Tryz.prog Tryz.f9 (OpenSpec.ofChange Rows.expansionRefusesSpec) false w args)
      (Rows.expansionRefusesSpec.post enc Tryz.prog Tryz.f9 false true false false) := by
  refine returnsInHanded_of_change_and (C := Tryz.checked) (X := fun w _ => laidMetH Tryz.prog laid7 w) (fun _ _ _ hh h => h.of_heap hh) own started (by kernel_rfl) Tryz.func9
    (ChangeSpec.witness_shaped (enc := enc) (C := Tryz.checked) (os := os) (X := fun w _ => laidMetH Tryz.prog laid7 w) false (World.laidAll Tryz.prog os laid7) #[.int .i64 0, .int .i64 0] 8 (World.laidAll_os _ _ _) (start_shaped os _) (by kernel_rfl) (by kernel_rfl) (by kernel_rfl) (laid_start os _)) ?_
  intro W base args ds gs before hval0 hW _ _ hL _
  have hval : ∀ (j : Nat) t v, Tryz.f9.params[j]? = some t → args[j]? = some v → Value.okWide Tryz.prog W .any base t v := hval0
  have hW' := hW
  obtain ⟨p, q, hA0, hV, rfl, hfz, hnd⟩ := hW
  have hA : DataW.TrodAll enc Tryz.prog W 0 (fun _ => true) true Tryz.f9.params.toList args.toList ds p := hA0
  rw [Tryz.params9] at hA hval
  obtain ⟨v0, vs0, d0, ds0, pl0, q0, hargs, rfl, rfl, h0, r0⟩ := trodAll_cons hA
  obtain ⟨v1, vs1, d1, ds1, pl1, q1, rfl, rfl, rfl, h1, r1⟩ := trodAll_cons r0
  obtain ⟨rfl, rfl, rfl⟩ := trodAll_nil r1
  obtain rfl : args = #[v0, v1] := by cases args; simp_all
  obtain ⟨rfl, rfl⟩ := trodVars_none hV
  obtain ⟨a0, rfl, rfl, rfl, w0⟩ := open_int Tryz.underlying3 (hval 0 3 v0 rfl rfl) h0
  obtain ⟨a1, rfl, rfl, rfl, w1⟩ := open_int Tryz.underlying3 (hval 1 3 v1 rfl rfl) h1
  clear hA0 hval0
  have hlt := hW'.lt
  refine (calls_of_ent (v := .bool true) (args := #[.int .i64 a0, .int .i64 a1]) Tryz.func9 (by kernel_rfl) (by kernel_rfl) fun R hR => K9 (tab_of_laid hL) (i64_of_wf w0) (i64_of_wf w1) hR).mono fun e W' ⟨he, hg⟩ => ?_
  subst he
  exact ⟨_, rfl, post_of_below (pa := ([] ++ ([] ++ []))) (pv := []) hW' (fun _ _ _ => (trodAll_cons_mk (shut_bool Tryz.underlying4 _) trodAll_mk0)) (fun sp hsp => (trodAll_cons_mk (shut_int Tryz.underlying3 w0) (trodAll_cons_mk (shut_int Tryz.underlying3 w1) trodAll_mk0))) (fun _ _ => rfl) rfl
    hg (ok_one (by kernel_rfl) rfl (okWide_bool_mk Tryz.underlying4 _))⟩

theorem k1 : Rows.expansionRefusesRow.wf (OpenSpec.ofChange Rows.expansionRefusesSpec) = true := by kernel_rfl
theorem k2 : namedTie Tryz.prog Rows.expansionRefusesRow.named Rows.expansionRefusesSpec.vars = true := by kernel_rfl
theorem k3 : (Rows.expansionRefusesRow.inPlace == Tryz.prog.inPlace 9) = true := by kernel_rfl
theorem k4 : (Rows.expansionRefusesRow.unfollowed == Tryz.prog.unfollowed 9) = true := by kernel_rfl
theorem k5 : (Rows.expansionRefusesRow.recurses == Tryz.prog.recurses 9) = true := by kernel_rfl
theorem k6 : (Rows.expansionRefusesRow.named == Tryz.prog.varsNamed 9) = true := by kernel_rfl
theorem facts : joinedFacts Tryz.prog 9 Tryz.f9 Rows.expansionRefusesSpec Rows.expansionRefusesRow = true :=
  joined_split p1 p2 p3 p4 p6 p7 p8 p9 p10 k1 k2 k3 k4 k5 k6 (by kernel_rfl) rfl rfl rfl (by kernel_rfl)

theorem holds : Rows.ExpansionRefusesSaid :=
  OpenClaim.holds_of_wide 9 Tryz.f9 rfl rfl rfl rfl rfl rfl rfl ⟨rfl, rfl, rfl, rfl, rfl⟩ rfl rfl rfl rfl rfl (by kernel_rfl) Tryz.func9 facts
    (of_decide_eq_true (by kernel_rfl)) (by unfold Func.isWrapper; first | (rw [if_pos (by decide +kernel)]; kernel_rfl) | (rw [if_neg (by decide +kernel)]; exact ⟨rfl, rfl⟩))
    (fun os started H enc _ => lifted os started H enc)

theorem goes : false = Rows.expansionRefusesRow.goesBy Tryz.prog := by kernel_rfl
theorem text : Rows.expansionRefusesRow.wfByText (OpenSpec.ofChange Rows.expansionRefusesSpec) = true := by kernel_rfl
/-- The tied card. -/
theorem proved : Rows.ExpansionRefusesCardSaid :=
  Claim7.holds_tied_plain_at .later [] [.data, .data, .data, .data, .data, .data, .data] true (true, "a7b3b1fd7c95099c202d0214e5b72fa752f41f5b7fc5b599a42919f92b596eb1") true
    holds (fun _ h => by cases h) text (fun _ h => by cases h) expansionRefuses_row_tie rfl ⟨rfl, rfl⟩ mainis rfl
    (fun f fn hf hfn => by
      obtain rfl : f = 9 := Option.some.inj ((show Tryz.prog.funcNamed Rows.expansionRefusesRow.func = some 9 by kernel_rfl).symm.trans hf) |>.symm
      obtain rfl : fn = Tryz.f9 := (Option.some.inj (Tryz.func9.symm.trans hfn)).symm
      exact ⟨looks_yes, fun j t ht => by
        rw [Tryz.params9] at ht
        rcases j with _ | j
        · obtain rfl : t = 3 := by simpa using ht.symm
          exact standin3
        rcases j with _ | j
        · obtain rfl : t = 3 := by simpa using ht.symm
          exact standin3
        simp at ht⟩)
    goes
end Go.Proofs.YtkfafikejdhccaaGreatDoor.expansionRefuses
