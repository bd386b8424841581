import Derived.Test.YtkfafikejdhccaaGreatDoorA18
import Derived.Test.YtkfafikejdhccaaGreatDoorA32
import Derived.Test.YtkfafikejdhccaaGreatDoorA43
/- This text proves that ExpansionCompresses holds: for every slice of integers the law returns true and its arguments read as before; the listed tables are tied to the program text. -/
set_option linter.unusedVariables false
/-! The row expansionCompresses, over the walk K14. -/
namespace Go.Proofs.YtkfafikejdhccaaGreatDoor.expansionCompresses
open Go.Eng Go.ChangeShapes Go.WideShapes Go.ChangeAt Go.RowKit
set_option maxRecDepth 100000 in
theorem lifted (os : Os) (started : os.Started) (H : Type) (enc : TypeId × Value → H) :
    ReturnsInHanded {} Tryz.checked os 14 .any (fun w args => (Rows.expansionCompressesSpec.pre enc Tryz.prog Tryz.f14 [] false w args ∧ laidMetH Tryz.prog laid7 w) ∧ sizedMet enc Tryz.prog Tryz.f14 (OpenSpec.ofChange Rows.expansionCompressesSpec) false w args)
      (Rows.expansionCompressesSpec.post enc Tryz.prog Tryz.f14 false true false false) := by
  refine returnsInHanded_of_change_and (C := Tryz.checked) (X := fun w _ => laidMetH Tryz.prog laid7 w) (fun _ _ _ hh h => h.of_heap hh) own started (by kernel_rfl) Tryz.func14
    (ChangeSpec.witness_shaped (enc := enc) (C := Tryz.checked) (os := os) (X := fun w _ => laidMetH Tryz.prog laid7 w) false (World.laidAll Tryz.prog os laid7) #[.slice none 0 0] 8 (World.laidAll_os _ _ _) (start_shaped os _) (by kernel_rfl) (by kernel_rfl) (by kernel_rfl) (laid_start os _)) ?_
  intro W base args ds gs before hval0 hW _ _ hL _
  have hval : ∀ (j : Nat) t v, Tryz.f14.params[j]? = some t → args[j]? = some v → Value.okWide Tryz.prog W .any base t v := hval0
  have hW' := hW
  obtain ⟨p, q, hA0, hV, rfl, hfz, hnd⟩ := hW
  have hA : DataW.TrodAll enc Tryz.prog W 0 (fun _ => true) true Tryz.f14.params.toList args.toList ds p := hA0
  rw [Tryz.params14] at hA hval
  obtain ⟨v0, vs0, d0, ds0, pl0, q0, hargs, rfl, rfl, h0, r0⟩ := trodAll_cons hA
  obtain ⟨rfl, rfl, rfl⟩ := trodAll_nil r0
  obtain rfl : args = #[v0] := by cases args; simp_all
  obtain ⟨rfl, rfl⟩ := trodVars_none hV
  obtain ⟨a0, len0, cap0, rfl⟩ := okWide_slice Tryz.underlying27 (hval 0 27 v0 rfl rfl)
  have h0k := h0
  have o0 := hval 0 27 _ rfl rfl
  clear hA0 hval0
  have hlt := hW'.lt
  refine (calls_of_ent (v := .bool true) (args := #[.slice a0 len0 cap0]) Tryz.func14 (by kernel_rfl) (by kernel_rfl) fun R hR => K14 (tab_of_laid hL) (ints_of_trod h0k o0) hR).mono fun e W' ⟨he, hg⟩ => ?_
  subst he
  exact ⟨_, rfl, post_of_below (pa := (pl0 ++ [])) (pv := []) hW' (fun _ _ _ => (trodAll_cons_mk (shut_bool Tryz.underlying4 _) trodAll_mk0)) (fun sp hsp => (trodAll_cons_mk (WideElems.Trod_stays p1 (by kernel_rfl) (of_decide_eq_true (by kernel_rfl)) h0k (fun x hx => hg.same (hlt x (by simp [hx]))) (fun x hx => hsp x (by simp [hx]))) trodAll_mk0)) (fun _ _ => rfl) rfl
    hg (ok_one (by kernel_rfl) rfl (okWide_bool_mk Tryz.underlying4 _))⟩

theorem k1 : Rows.expansionCompressesRow.wf (OpenSpec.ofChange Rows.expansionCompressesSpec) = true := by kernel_rfl
theorem k2 : namedTie Tryz.prog Rows.expansionCompressesRow.named Rows.expansionCompressesSpec.vars = true := by kernel_rfl
theorem k3 : (Rows.expansionCompressesRow.inPlace == Tryz.prog.inPlace 14) = true := by kernel_rfl
theorem k4 : (Rows.expansionCompressesRow.unfollowed == Tryz.prog.unfollowed 14) = true := by kernel_rfl
theorem k5 : (Rows.expansionCompressesRow.recurses == Tryz.prog.recurses 14) = true := by kernel_rfl
theorem k6 : (Rows.expansionCompressesRow.named == Tryz.prog.varsNamed 14) = true := by kernel_rfl
theorem facts : joinedFacts Tryz.prog 14 Tryz.f14 Rows.expansionCompressesSpec Rows.expansionCompressesRow = true :=
  joined_split p1 p2 p3 p4 p6 p7 p8 p9 p10 k1 k2 k3 k4 k5 k6 (by kernel_rfl) rfl rfl rfl (by kernel_rfl)

theorem holds : Rows.ExpansionCompressesSaid :=
  OpenClaim.holds_of_wide 14 Tryz.f14 rfl rfl rfl rfl rfl rfl rfl ⟨rfl, rfl, rfl, rfl, rfl⟩ rfl rfl rfl rfl rfl (by kernel_rfl) Tryz.func14 facts
    (of_decide_eq_true (by kernel_rfl)) (by unfold Func.isWrapper; first | (rw [if_pos (by decide +kernel)]; kernel_rfl) | (rw [if_neg (by decide +kernel)]; exact ⟨rfl, rfl⟩))
    (fun os started H enc _ => lifted os started H enc)

theorem goes : false = Rows.expansionCompressesRow.goesBy Tryz.prog := by kernel_rfl
theorem text : Rows.expansionCompressesRow.wfByText (OpenSpec.ofChange Rows.expansionCompressesSpec) = true := by kernel_rfl
theorem standin27 : Tryz.prog.wantsStandIn 27 = false := by kernel_rfl
/-- The tied card. -/
theorem proved : Rows.ExpansionCompressesCardSaid :=
  Claim7.holds_tied_plain_at .later [] [.data, .data, .data, .data, .data, .data, .data] true (true, "a7b3b1fd7c95099c202d0214e5b72fa752f41f5b7fc5b599a42919f92b596eb1") true
    holds (fun _ h => by cases h) text (fun _ h => by cases h) expansionCompresses_row_tie rfl ⟨rfl, rfl⟩ mainis rfl
    (fun f fn hf hfn => by
      obtain rfl : f = 14 := Option.some.inj ((show Tryz.prog.funcNamed Rows.expansionCompressesRow.func = some 14 by kernel_rfl).symm.trans hf) |>.symm
      obtain rfl : fn = Tryz.f14 := (Option.some.inj (Tryz.func14.symm.trans hfn)).symm
      exact ⟨looks_yes, fun j t ht => by
        rw [Tryz.params14] at ht
        rcases j with _ | j
        · obtain rfl : t = 27 := by simpa using ht.symm
          exact standin27
        simp at ht⟩)
    goes
end Go.Proofs.YtkfafikejdhccaaGreatDoor.expansionCompresses
