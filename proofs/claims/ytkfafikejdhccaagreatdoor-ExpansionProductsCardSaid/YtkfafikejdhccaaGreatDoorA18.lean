import Derived.Test.YtkfafikejdhccaaGreatDoorA17
import Derived.Test.YtkfafikejdhccaaGreatDoorRows
import Derived.Test.YtkfafikejdhccaaGreatDoorCards
import Derived.Test.YtkfafikejdhccaaGreatDoorTie
import Derived.SevenTiedAt
import Derived.WalkKit
import Derived.ProofKit
import Derived.LaidMore
import Derived.MakeChecks
import Derived.OpenShut
import Derived.Lay
import Derived.Below
import Derived.Stop.Joined
import Derived.ChangeSame
/- Here stand lemmas: what all rows of this seat share. -/
set_option linter.unusedVariables false
namespace Go.Proofs.YtkfafikejdhccaaGreatDoor
open Go.Eng Go.ChangeShapes Go.WideShapes Go.ChangeAt Go.RowKit
section
variable {H : Type} {enc : TypeId × Value → H} {P : Program}
/-- The row's last step where all that is known of the world is that what was there stands. -/
theorem post_of_below {f : Func} {s : ChangeSpec} {apart fresh handsOn again : Bool} {W W' : World} {args : Array Value} {v : Value} {ds gs : List (DataW H)} {before pa pv : List MemPlace}
    (hW : DataW.Whole enc P f.params.toList s.vars apart W args.toList ds gs before)
    (hres : ∀ (b : Nat) (sp : Nat → Bool) (hd : Bool), DataW.TrodAll enc P W' b sp hd f.resultTypes.toList (v.resultList f.resultTypes.size) (s.fn H (ds ++ gs)).results [])
    (hargs : ∀ sp : Nat → Bool, (∀ p ∈ before, sp p.block = true) → DataW.TrodAll enc P W' 0 sp true f.params.toList args.toList (s.fn H (ds ++ gs)).args pa)
    (hvars : ∀ sp : Nat → Bool, (∀ p ∈ before, sp p.block = true) → DataW.TrodVars enc P W' sp s.vars (s.fn H (ds ++ gs)).vars pv)
    (hps : before = pa ++ pv) (hb : Below W.heap.size W W')
    (hok : ∀ (j : Nat) (t : TypeId) (r : Value), f.resultTypes[j]? = some t → (v.resultList f.resultTypes.size)[j]? = some r → Value.okWide P W' .any 0 t r) :
    s.post enc P f apart fresh handsOn again W args v W' := by
  have hlt : ∀ p ∈ before, p.block < W.heap.size := fun p hp => hW.lt p hp
  have hold : ∀ p ∈ before, (fun b => decide (b < W.heap.size)) p.block = true := fun p hp => by simpa using hlt p hp
  refine ⟨ds, gs, before, [], pa, pv, hW, hres _ _ _, hargs _ hold, hvars _ hold, World.keptBut_mono (fun p hp => ⟨hp, ?_⟩) (hb.frame (· ∈ before)), fun _ => ?_⟩
  · rw [hps, List.mem_append] at hp
    exact Or.inr hp
  · obtain ⟨_, _, _, _, _, hz, hn⟩ := hW
    refine ⟨hok, _, _, ([] ++ pa) ++ pv, ⟨[] ++ pa, pv, trodAll_append (hargs _ (fun _ _ => rfl)) (hres _ _ _), hvars _ (fun _ _ => rfl), rfl, ?_, ?_⟩, ?_⟩
    · intro b off hp
      have hin : MemPlace.cell b off ∈ before := by rw [hps]; simpa using hp
      rw [hb.frozen (hlt _ hin)]
      exact hz b off hin
    · intro ha
      have := hn ha
      rw [hps] at this
      simpa using this
    · intro p hp _
      rw [hps]
      simpa using hp
end

/-- The walk in the form that the rows ask. -/
theorem calls_of_ent {f : FuncId} {fn : Func} {args : Array Value} {W : World} {v : Value} (hf : Tryz.prog.funcs[f]? = some fn)
    (hn : (fn.name == "runtime.NumGoroutine") = false) (hb : fn.body.isNone = false)
    (H : ∀ R : Ending → Heap → Prop, (∀ h', Ext W.heap h' → R (.returned v) h') → Ent Tryz.prog W f args R W.heap) :
    Calls Tryz.prog f args W fun e w' => e = .returned v ∧ Below W.heap.size W w' := by
  have E := H (fun e h' => e = .returned v ∧ Ext W.heap h') fun h' x => ⟨rfl, x⟩
  have hE : Enters Tryz.prog f := enters_of hf hn hb
  rcases E with ⟨g, h1, h2⟩ | E
  · have : g = f := by
      have a := h1 (Eng.mk W W.heap 0); rw [hE] at a
      cases a; rfl
    subst this
    refine (h2 W.drawn).mono fun e w' ⟨h', n', hw, he, hx⟩ => ⟨he, ?_⟩
    subst hw
    exact ⟨rfl, rfl, rfl, hx.size, fun k hk => hx.same k hk id⟩
  · exfalso
    obtain ⟨v', h', n', h1, _⟩ := E 0
    rw [hE] at h1; cases h1

abbrev laid7 : List (String × DataW Unit) := [("math/bits.deBruijn32tab", Rows.laid_math_bits_deBruijn32tab), ("math/bits.deBruijn64tab", Rows.laid_math_bits_deBruijn64tab), ("math/big.leafSize", Rows.laid_math_big_leafSize), ("math/big.divRecursiveThreshold", Rows.laid_math_big_divRecursiveThreshold), ("math/big.karatsubaThreshold", Rows.laid_math_big_karatsubaThreshold), ("math/big.basicSqrThreshold", Rows.laid_math_big_basicSqrThreshold), ("math/big.karatsubaSqrThreshold", Rows.laid_math_big_karatsubaSqrThreshold)]
theorem g64 : Tryz.prog.globalNamed "math/bits.deBruijn64tab" = some 6 := by kernel_rfl
theorem t64 : (Tryz.prog.globals[6]?).map (·.type) = some 207 := by kernel_rfl
theorem c5 : Tryz.prog.cellsOf 5 = 1 := by kernel_rfl
theorem own : ownKnob Tryz.prog.godebug = none := by kernel_rfl
theorem list64 {H : Type} : (Rows.laid_math_bits_deBruijn64tab : DataW H) = .agg (Lib.deBruijn64tab.map fun n => .lit (.int .u8 ((n : Nat) : Int))) := rfl
/-- What the listed variables give the walk. -/
theorem tab_of_laid {W : World} (h : laidMetH Tryz.prog laid7 W) : TabH W.heap := by
  rw [MakeChecks.laidMetH_plain _ _ _ (by kernel_rfl)] at h
  obtain ⟨ps, ⟨g0, t0, cs0, f0, p0, q0, _, _, _, _, ⟨g1, t1, cs1, f1, p1, q1, hg1, ht1, hv1, hd1, _, _⟩, _⟩, _, _⟩ := h
  obtain rfl := Option.some.inj (g64.symm.trans hg1)
  obtain rfl := Option.some.inj (t64.symm.trans ht1)
  obtain ⟨xs, m1, rfl, hx1, hlen, hn3, hel⟩ := DataW.trod_array Tryz.underlying207 hd1
  rw [list64] at hx1
  simp only [Prod.mk.injEq, DataW.agg.injEq] at hx1
  have hcell : ∀ i, i < 64 → W.cell? ⟨6, i, none⟩ = some (.int .u8 ((Lib.deBruijn64tab.getD i 0 : Nat) : Int)) := by
    intro i hi
    have hi' := hel i hi
    rw [c5, Nat.mul_one] at hi'
    have hxi : i < xs.length := by omega
    rw [List.getElem?_eq_getElem hxi] at hi'
    obtain ⟨n, e1, e2, _⟩ := DataW.trod_int Tryz.underlying5 hi'
    have e3 := congrArg (·[i]?) hx1.1
    simp only [List.getElem?_map, List.getElem?_eq_getElem hxi, Option.map_some, e2] at e3
    rw [World.var?_cell hg1 hv1 i]
    have e4 : cs1[i]? = some (.int .u8 n) := by
      have := congrArg (·[0]?) e1
      simpa using this
    rw [e4]
    cases hd : Lib.deBruijn64tab[i]? with
    | none => rw [hd] at e3; cases e3
    | some k =>
      rw [hd] at e3
      simp only [Option.map_some, Option.some.injEq, DataW.lit.injEq, Lit.int.injEq, true_and] at e3
      rw [List.getD_eq_getElem?_getD, hd]
      simp [e3]
  refine ⟨?_, hcell⟩
  have := hcell 0 (by decide)
  unfold World.cell? at this
  cases hb : W.heap[6]? with
  | none => simp [hb] at this
  | some o => exact (Array.getElem?_eq_some_iff.1 hb).1
theorem i64_of_wf {a : Int} (w : (Lit.int .i64 a).wf = true) : I64 a := by
  have h1 : IntKind.i64.min = -9223372036854775808 := rfl
  have h2 : IntKind.i64.max = 9223372036854775807 := rfl
  simp only [Lit.wf, Bool.and_eq_true, decide_eq_true_eq, h1, h2] at w
  exact ⟨w.1, by omega⟩
theorem laid_start (os : Os) (args : Array Value) : laidMetH Tryz.prog laid7 ((World.laidAll Tryz.prog os laid7).forCall (fun _ _ => 0) ⟨#[], args, []⟩).memory := by
  rw [MakeChecks.laidMetH_plain _ _ _ (by kernel_rfl)]
  exact laidMet_laidAll args (by kernel_rfl) (by kernel_rfl)
theorem start_shaped (os : Os) (args : Array Value) : ((World.laidAll Tryz.prog os laid7).forCall (fun _ _ => 0) ⟨#[], args, []⟩).Shaped Tryz.prog :=
  World.shaped_of_ZipB (by kernel_rfl) (by kernel_rfl)
end Go.Proofs.YtkfafikejdhccaaGreatDoor
namespace Go.Proofs.YtkfafikejdhccaaGreatDoor
theorem p1 : laidOutB Tryz.prog = true := by kernel_rfl
theorem p2 : mapsRowed Tryz.prog = true := by kernel_rfl
theorem p3 : (Tryz.prog.stops == []) = true := by kernel_rfl
theorem p4 : (Tryz.prog.stopKnobs == []) = true := by kernel_rfl
theorem p6 : Tryz.prog.stopsHeard = true := by kernel_rfl
theorem p7 : Tryz.prog.mayEnter = true := by kernel_rfl
theorem p8 : (Rows.eftProdsRow.lifted == Tryz.prog.liftsFinal) = true := by kernel_rfl
theorem p9 : (Tryz.prog.make == some Rows.eftProdsRow.make) = true := by kernel_rfl
theorem p10 : (Rows.eftProdsRow.plainKeys == Tryz.prog.plainKeys) = true := by kernel_rfl
theorem mainis : Tryz.prog.mainIs = some (true, "a7b3b1fd7c95099c202d0214e5b72fa752f41f5b7fc5b599a42919f92b596eb1".toList) := by kernel_rfl
theorem looks_yes : true = Tryz.prog.looks [] := by kernel_rfl
end Go.Proofs.YtkfafikejdhccaaGreatDoor
namespace Go.Proofs.YtkfafikejdhccaaGreatDoor
/-- The closed facts of a row, in parts: the kernel has no room for all of them at once. -/
theorem joined_split {P : Program} {d : OpenClaim} (p1 : laidOutB P = true) (p2 : mapsRowed P = true) (p3 : (P.stops == []) = true) (p4 : (P.stopKnobs == []) = true) (p6 : P.stopsHeard = true) (p7 : P.mayEnter = true)
    (p8 : (d.lifted == P.liftsFinal) = true) (p9 : (P.make == some d.make) = true) (p10 : (d.plainKeys == P.plainKeys) = true) {f : FuncId} {fn : Func} {s : ChangeSpec} {c : OpenClaim} (k1 : c.wf (OpenSpec.ofChange s) = true) (k2 : namedTie P c.named s.vars = true)
    (k3 : (c.inPlace == P.inPlace f) = true) (k4 : (c.unfollowed == P.unfollowed f) = true) (k5 : (c.recurses == P.recurses f) = true) (k6 : (c.named == P.varsNamed f) = true)
    (k7 : (fn.params.all (P.readableRec ·) && (c.stops == []) && (c.knobs == []) &&
      (c.maps == (fn.params.toList ++ s.plain.varTypes P).any (P.mapsRec ·)) && (c.ifaces == (fn.params.toList ++ s.plain.varTypes P).any (P.ifacesRec ·)) && (c.mapsOut == P.mapsAmong fn.resultTypes.toList) &&
      (c.loops == (fn.params.toList ++ s.plain.varTypes P).any (P.loopsFrom ·)) && (c.wideKeys == (fn.params.toList ++ s.plain.varTypes P ++ fn.resultTypes.toList).any (P.wideKeysFrom ·)) &&
      s.vars.all (P.varReadable ·) && fn.resultTypes.all (fun t => P.readableRec t && decide (t < P.types.size)) && (c.ifacesOut == fn.resultTypes.toList.any (P.ifacesRec ·)) && (c.loopsOut == fn.resultTypes.toList.any (P.loopsFrom ·)) &&
      c.shortTexts.isNone && (c.kinds == (if c.domain.isEmpty then [] else fn.params.toList.map fun t => match P.underlying t with | some (.int k) => some k | _ => none)) && (c.pinned == c.pinnedBy) &&
      (c.veiled == (fn.params.toList ++ s.plain.varTypes P ++ fn.resultTypes.toList).any (P.veiledRec ·))) = true)
    (e1 : c.lifted = d.lifted) (e2 : c.make = d.make) (e3 : c.plainKeys = d.plainKeys)
    (k8 : c.veiledFits P fn.params.toList (fn.params.toList ++ s.plain.varTypes P ++ fn.resultTypes.toList) = true) :
    joinedFacts P f fn s c = true := by
  simp only [Bool.and_eq_true] at k7
  obtain ⟨⟨⟨⟨⟨⟨⟨⟨⟨⟨⟨⟨⟨⟨⟨m1, m2⟩, m3⟩, m4⟩, m5⟩, m6⟩, m7⟩, m8⟩, m9⟩, m10⟩, m11⟩, m12⟩, m13⟩, m14⟩, m15⟩, m16⟩ := k7
  unfold joinedFacts
  rw [e1, e2, e3]
  simp only [Bool.and_eq_true]
  exact ⟨⟨⟨⟨⟨⟨⟨⟨⟨⟨⟨⟨⟨⟨⟨⟨⟨⟨⟨⟨⟨⟨⟨⟨⟨⟨⟨⟨⟨⟨⟨k1, p1⟩, p2⟩, m1⟩, k2⟩, m2⟩, p3⟩, m3⟩, p4⟩, k3⟩, k4⟩, k5⟩, k6⟩, m4⟩, m5⟩, m6⟩, m7⟩, m8⟩, m9⟩, m10⟩, m11⟩, m12⟩, p10⟩, m13⟩, p6⟩, p7⟩, p8⟩, p9⟩, m14⟩, m15⟩, m16⟩, k8⟩
end Go.Proofs.YtkfafikejdhccaaGreatDoor
