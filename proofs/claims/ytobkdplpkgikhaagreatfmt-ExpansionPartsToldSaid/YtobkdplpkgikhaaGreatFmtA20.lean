import Derived.Test.YtobkdplpkgikhaaGreatFmtA02
import Derived.Test.YtobkdplpkgikhaaGreatFmtA18
import Derived.Test.YtobkdplpkgikhaaGreatFmtA19
/- Here stand lemmas and contracts, in the order in which they are used. -/
set_option linter.unusedVariables false
set_option linter.unusedVariables false
namespace Go.Proofs.YtobkdplpkgikhaaGreatFmt
open Go.Eng Go.ChangeShapes Go.WideShapes Go.ChangeAt Go.RowKit
section
variable {H : Type} {enc : TypeId × Value → H} {P : Program}
/-- The row's last step where all that is known of the world is that what was there stands. -/
theorem post_of_below {f : Func} {s : ChangeSpec} {apart fresh handsOn again : Bool} {W W' : World} {args : Array Value} {v : Value} {ds gs : List (DataW H)} {before pa pv : List MemPlace}
    (hW : DataW.Whole enc P f.params.toList s.vars apart W args.toList ds gs before)
    (hres : ∀ (b : Nat) (sp : Nat → Bool) (hd : Bool), DataW.TrodAll enc P W' b sp hd f.resultTypes.toList (v.resultList f.resultTypes.size) (s.fn H (ds ++ gs)).results [])
    (hargs : ∀ sp : Nat → Bool, (∀ p ∈ before, sp p.block = true) → DataW.TrodAll enc P W' 0 sp true f.params.toList args.toList (s.fn H (ds ++ gs)).args pa)
    (hvars : ∀ sp : Nat → Bool, (∀ p ∈ before, sp p.block = true) → DataW.TrodVars enc P W' sp s.vars (s.fn H (ds ++ gs)).vars pv)
    (hps : before = pa ++ pv) (hb : Below W.heap.size W W')
    (hok : ∀ (j : Nat) (t : TypeId) (r : Value), f.resultTypes[j]? = some t → (v.resultList f.resultTypes.size)[j]? = some r → Value.okWide P W' .any 0 t r) :
    s.post enc P f apart fresh handsOn again W args v W' := by
  have hlt : ∀ p ∈ before, p.block < W.heap.size := fun p hp => hW.lt p hp
  have hold : ∀ p ∈ before, (fun b => decide (b < W.heap.size)) p.block = true := fun p hp => by simpa using hlt p hp
  refine ⟨ds, gs, before, [], pa, pv, hW, hres _ _ _, hargs _ hold, hvars _ hold, World.keptBut_mono (fun p hp => ⟨hp, ?_⟩) (hb.frame (· ∈ before)), fun _ => ?_⟩
  · rw [hps, List.mem_append] at hp
    exact Or.inr hp
  · obtain ⟨_, _, _, _, _, hz, hn⟩ := hW
    refine ⟨hok, _, _, ([] ++ pa) ++ pv, ⟨[] ++ pa, pv, trodAll_append (hargs _ (fun _ _ => rfl)) (hres _ _ _), hvars _ (fun _ _ => rfl), rfl, ?_, ?_⟩, ?_⟩
    · intro b off hp
      have hin : MemPlace.cell b off ∈ before := by rw [hps]; simpa using hp
      rw [hb.frozen (hlt _ hin)]
      exact hz b off hin
    · intro ha
      have := hn ha
      rw [hps] at this
      simpa using this
    · intro p hp _
      rw [hps]
      simpa using hp
end
/-- The walk in the form that the rows ask. -/
theorem calls_of_ent {f : FuncId} {fn : Func} {args : Array Value} {W : World} {v : Value} (hf : Tryz.prog.funcs[f]? = some fn)
    (hn : (fn.name == "runtime.NumGoroutine") = false) (hb : fn.body.isNone = false)
    (H : ∀ R : Ending → Heap → Prop, (∀ h', Ext W.heap h' → R (.returned v) h') → Ent Tryz.prog W f args R W.heap) :
    Calls Tryz.prog f args W fun e w' => e = .returned v ∧ Below W.heap.size W w' := by
  have E := H (fun e h' => e = .returned v ∧ Ext W.heap h') fun h' x => ⟨rfl, x⟩
  have hE : Enters Tryz.prog f := enters_of hf hn hb
  rcases E with ⟨g, h1, h2⟩ | E
  · have : g = f := by
      have a := h1 (Eng.mk W W.heap 0); rw [hE] at a
      cases a; rfl
    subst this
    refine (h2 W.drawn).mono fun e w' ⟨h', n', hw, he, hx⟩ => ⟨he, ?_⟩
    subst hw
    exact ⟨rfl, rfl, rfl, hx.size, fun k hk => hx.same k hk id⟩
  · exfalso
    obtain ⟨v', h', n', h1, _⟩ := E 0
    rw [hE] at h1; cases h1
theorem c5 : Tryz.prog.cellsOf 5 = 1 := by kernel_rfl
theorem c3 : Tryz.prog.cellsOf 3 = 1 := by kernel_rfl
/-- What the listed variables give the walk. -/
theorem tab_of_laid {W : World} (h : laidMetH Tryz.prog laid11 W) : TabH W.heap := by
  rw [MakeChecks.laidMetH_plain _ _ _ (by kernel_rfl)] at h
  obtain ⟨ps, ⟨g0, t0, cs0, f0, p0, q0, _, _, _, _, ⟨g1, t1, cs1, f1, p1, q1, hg1, ht1, hv1, hd1, _, _⟩, _⟩, _, _⟩ := h
  obtain rfl := Option.some.inj (g64.symm.trans hg1)
  obtain rfl := Option.some.inj (t64.symm.trans ht1)
  obtain ⟨xs, m1, rfl, hx1, hlen, hn3, hel⟩ := DataW.trod_array Tryz.underlying209 hd1
  rw [list64] at hx1
  simp only [Prod.mk.injEq, DataW.agg.injEq] at hx1
  have hcell : ∀ i, i < 64 → W.cell? ⟨3, i, none⟩ = some (.int .u8 ((Lib.deBruijn64tab.getD i 0 : Nat) : Int)) := by
    intro i hi
    have hi' := hel i hi
    rw [c5, Nat.mul_one] at hi'
    have hxi : i < xs.length := by omega
    rw [List.getElem?_eq_getElem hxi] at hi'
    obtain ⟨n, e1, e2, _⟩ := DataW.trod_int Tryz.underlying5 hi'
    have e3 := congrArg (·[i]?) hx1.1
    simp only [List.getElem?_map, List.getElem?_eq_getElem hxi, Option.map_some, e2] at e3
    rw [World.var?_cell hg1 hv1 i]
    have e4 : cs1[i]? = some (.int .u8 n) := by
      have := congrArg (·[0]?) e1
      simpa using this
    rw [e4]
    cases hd : Lib.deBruijn64tab[i]? with
    | none => rw [hd] at e3; cases e3
    | some k =>
      rw [hd] at e3
      simp only [Option.map_some, Option.some.injEq, DataW.lit.injEq, Lit.int.injEq, true_and] at e3
      rw [List.getD_eq_getElem?_getD, hd]
      simp [e3]
  refine ⟨?_, hcell⟩
  have := hcell 0 (by decide)
  unfold World.cell? at this
  cases hb : W.heap[3]? with
  | none => simp [hb] at this
  | some o => exact (Array.getElem?_eq_some_iff.1 hb).1
theorem i64_of_wf {a : Int} (w : (Lit.int .i64 a).wf = true) : I64 a := by
  have h1 : IntKind.i64.min = -9223372036854775808 := rfl
  have h2 : IntKind.i64.max = 9223372036854775807 := rfl
  simp only [Lit.wf, Bool.and_eq_true, decide_eq_true_eq, h1, h2] at w
  exact ⟨w.1, by omega⟩
end Go.Proofs.YtobkdplpkgikhaaGreatFmt
