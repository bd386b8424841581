import Derived.Test.YtkfafikejdhccaaGreatDoorA18
import Derived.Test.YtkfafikejdhccaaGreatDoorA32
import Derived.Test.YtkfafikejdhccaaGreatDoorA51
import Derived.Test.YtkfafikejdhccaaGreatDoorA50
/- This text proves that ExpansionProducts holds: for every two slices of integers the law returns true and its arguments read as before; the listed tables are tied to the program text. -/
set_option linter.unusedVariables false
/-! The row expansionProducts, over the walk K10. -/
namespace Go.Proofs.YtkfafikejdhccaaGreatDoor.expansionProducts
open Go.Eng Go.ChangeShapes Go.WideShapes Go.ChangeAt Go.RowKit
set_option maxRecDepth 100000 in
theorem lifted (os : Os) (started : os.Started) (H : Type) (enc : TypeId × Value → H) :
    ReturnsInHanded {} Tryz.checked os 10 .any (fun w args => (Rows.expansionProductsSpec.pre enc Tryz.prog Tryz.f10 [] false w args ∧ laidMetH Tryz.prog laid7 w) ∧ sizedMet enc Tryz.prog Tryz.f10 (OpenSpec.ofChange Rows.expansionProductsSpec) false w args)
      (Rows.expansionProductsSpec.post enc Tryz.prog Tryz.f10 false true false false) := by
  refine returnsInHanded_of_change_and (C := Tryz.checked) (X := fun w _ => laidMetH Tryz.prog laid7 w) (fun _ _ _ hh h => h.of_heap hh) own started (by kernel_rfl) Tryz.func10
    (ChangeSpec.witness_shaped (enc := enc) (C := Tryz.checked) (os := os) (X := fun w _ => laidMetH Tryz.prog laid7 w) false (World.laidAll Tryz.prog os laid7) #[.slice none 0 0, .slice none 0 0] 8 (World.laidAll_os _ _ _) (start_shaped os _) (by kernel_rfl) (by kernel_rfl) (by kernel_rfl) (laid_start os _)) ?_
  intro W base args ds gs before hval0 hW _ _ hL _
  have hval : ∀ (j : Nat) t v, Tryz.f10.params[j]? = some t → args[j]? = some v → Value.okWide Tryz.prog W .any base t v := hval0
  have hW' := hW
  obtain ⟨p, q, hA0, hV, rfl, hfz, hnd⟩ := hW
  have hA : DataW.TrodAll enc Tryz.prog W 0 (fun _ => true) true Tryz.f10.params.toList args.toList ds p := hA0
  rw [Tryz.params10] at hA hval
  obtain ⟨v0, vs0, d0, ds0, pl0, q0, hargs, rfl, rfl, h0, r0⟩ := trodAll_cons hA
  obtain ⟨v1, vs1, d1, ds1, pl1, q1, rfl, rfl, rfl, h1, r1⟩ := trodAll_cons r0
  obtain ⟨rfl, rfl, rfl⟩ := trodAll_nil r1
  obtain rfl : args = #[v0, v1] := by cases args; simp_all
  obtain ⟨rfl, rfl⟩ := trodVars_none hV
  obtain ⟨a0, len0, cap0, rfl⟩ := okWide_slice Tryz.underlying27 (hval 0 27 v0 rfl rfl)
  have h0k := h0
  have o0 := hval 0 27 _ rfl rfl
  obtain ⟨a1, len1, cap1, rfl⟩ := okWide_slice Tryz.underlying27 (hval 1 27 v1 rfl rfl)
  have h1k := h1
  have o1 := hval 1 27 _ rfl rfl
  clear hA0 hval0
  have hlt := hW'.lt
  refine (calls_of_ent (v := .bool true) (args := #[.slice a0 len0 cap0, .slice a1 len1 cap1]) Tryz.func10 (by kernel_rfl) (by kernel_rfl) fun R hR => K10 (tab_of_laid hL) (kar_of_laid hL) (ints_of_trod h0k o0) (ints_of_trod h1k o1) hR).mono fun e W' ⟨he, hg⟩ => ?_
  subst he
  exact ⟨_, rfl, post_of_below (pa := (pl0 ++ (pl1 ++ []))) (pv := []) hW' (fun _ _ _ => (trodAll_cons_mk (shut_bool Tryz.underlying4 _) trodAll_mk0)) (fun sp hsp => (trodAll_cons_mk (WideElems.Trod_stays p1 (by kernel_rfl) (of_decide_eq_true (by kernel_rfl)) h0k (fun x hx => hg.same (hlt x (by simp [hx]))) (fun x hx => hsp x (by simp [hx]))) (trodAll_cons_mk (WideElems.Trod_stays p1 (by kernel_rfl) (of_decide_eq_true (by kernel_rfl)) h1k (fun x hx => hg.same (hlt x (by simp [hx]))) (fun x hx => hsp x (by simp [hx]))) trodAll_mk0))) (fun _ _ => rfl) rfl
    hg (ok_one (by kernel_rfl) rfl (okWide_bool_mk Tryz.underlying4 _))⟩

theorem k1 : Rows.expansionProductsRow.wf (OpenSpec.ofChange Rows.expansionProductsSpec) = true := by kernel_rfl
theorem k2 : namedTie Tryz.prog Rows.expansionProductsRow.named Rows.expansionProductsSpec.vars = true := by kernel_rfl
theorem k3 : (Rows.expansionProductsRow.inPlace == Tryz.prog.inPlace 10) = true := by kernel_rfl
theorem k4 : (Rows.expansionProductsRow.unfollowed == Tryz.prog.unfollowed 10) = true := by kernel_rfl
theorem k5 : (Rows.expansionProductsRow.recurses == Tryz.prog.recurses 10) = true := by kernel_rfl
theorem k6 : (Rows.expansionProductsRow.named == Tryz.prog.varsNamed 10) = true := by kernel_rfl
theorem facts : joinedFacts Tryz.prog 10 Tryz.f10 Rows.expansionProductsSpec Rows.expansionProductsRow = true :=
  joined_split p1 p2 p3 p4 p6 p7 p8 p9 p10 k1 k2 k3 k4 k5 k6 (by kernel_rfl) rfl rfl rfl (by kernel_rfl)

theorem holds : Rows.ExpansionProductsSaid :=
  OpenClaim.holds_of_wide 10 Tryz.f10 rfl rfl rfl rfl rfl rfl rfl ⟨rfl, rfl, rfl, rfl, rfl⟩ rfl rfl rfl rfl rfl (by kernel_rfl) Tryz.func10 facts
    (of_decide_eq_true (by kernel_rfl)) (by unfold Func.isWrapper; first | (rw [if_pos (by decide +kernel)]; kernel_rfl) | (rw [if_neg (by decide +kernel)]; exact ⟨rfl, rfl⟩))
    (fun os started H enc _ => lifted os started H enc)

theorem goes : false = Rows.expansionProductsRow.goesBy Tryz.prog := by kernel_rfl
theorem text : Rows.expansionProductsRow.wfByText (OpenSpec.ofChange Rows.expansionProductsSpec) = true := by kernel_rfl
theorem standin27 : Tryz.prog.wantsStandIn 27 = false := by kernel_rfl
/-- The tied card. -/
theorem proved : Rows.ExpansionProductsCardSaid :=
  Claim7.holds_tied_plain_at .later [] [.data, .data, .data, .data, .data, .data, .data] true (true, "a7b3b1fd7c95099c202d0214e5b72fa752f41f5b7fc5b599a42919f92b596eb1") true
    holds (fun _ h => by cases h) text (fun _ h => by cases h) expansionProducts_row_tie rfl ⟨rfl, rfl⟩ mainis rfl
    (fun f fn hf hfn => by
      obtain rfl : f = 10 := Option.some.inj ((show Tryz.prog.funcNamed Rows.expansionProductsRow.func = some 10 by kernel_rfl).symm.trans hf) |>.symm
      obtain rfl : fn = Tryz.f10 := (Option.some.inj (Tryz.func10.symm.trans hfn)).symm
      exact ⟨looks_yes, fun j t ht => by
        rw [Tryz.params10] at ht
        rcases j with _ | j
        · obtain rfl : t = 27 := by simpa using ht.symm
          exact standin27
        rcases j with _ | j
        · obtain rfl : t = 27 := by simpa using ht.symm
          exact standin27
        simp at ht⟩)
    goes
end Go.Proofs.YtkfafikejdhccaaGreatDoor.expansionProducts
