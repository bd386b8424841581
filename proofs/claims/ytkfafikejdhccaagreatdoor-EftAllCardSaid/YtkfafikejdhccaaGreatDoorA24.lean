import Derived.Test.YtkfafikejdhccaaGreatDoorA18
import Derived.Test.YtkfafikejdhccaaGreatDoorA23
import Derived.WideKeyArgs
/- Here stand lemmas: slices of pairs that came in. -/
set_option linter.unusedVariables false
namespace Go.Proofs.YtkfafikejdhccaaGreatDoor
open Go.Eng Go.ChangeShapes Go.WideShapes Go.ChangeAt Go.RowKit
theorem c37 : Tryz.prog.cellsOf 37 = 2 := by kernel_rfl
theorem c3 : Tryz.prog.cellsOf 3 = 1 := by kernel_rfl
theorem cell_some_spot {w : World} {a : Addr} {v : Value} (h : w.cell? a = some v) : a.spot = none ∧ a.block < w.heap.size := by
  unfold World.cell? at h
  cases hb : w.heap[a.block]? with
  | none => rw [hb] at h; cases h
  | some o =>
    refine ⟨?_, (Array.getElem?_eq_some_iff.1 hb).1⟩
    rw [hb] at h
    cases hs : a.spot with
    | none => rfl
    | some s => rw [hs] at h; cases o <;> simp at h
/-- A slice of pairs that came in. -/
theorem pairs_of_trod {H : Type} {enc : TypeId × Value → H} {W : World} {a0 : Option Addr} {len cap : Nat} {d : DataW H} {p : List MemPlace}
    (h : DataW.Trod enc Tryz.prog W 0 (fun _ => true) true 35 (.slice a0 len cap) d p) : PairsH W.heap a0 len := by
  obtain ⟨fuel, hf⟩ := h
  intro i hi
  rcases DataW.trod_slice Tryz.underlying35 hf with ⟨hcs, _⟩ | ⟨a, len', cap', elems, rest, n, _, hcs, _, hb, _, _, hlen, hel, _, _⟩
  · have e : (Value.slice a0 len cap) = Value.slice none 0 0 := by
      have := congrArg (·[0]?) hcs
      simpa [Value.cells] using this
    cases e; omega
  · have e : (Value.slice a0 len cap) = Value.slice (some a) len' cap' := by
      have := congrArg (·[0]?) hcs
      simpa [Value.cells] using this
    cases e
    have get : ∀ j, j < len → ∃ x y, I64 x ∧ I64 y ∧ W.cell? ((a.add (j * 2)).add 0) = some (.int .i64 x) ∧ W.cell? ((a.add (j * 2)).add 1) = some (.int .i64 y) := by
      intro j hj
      have he := hel j hj
      rw [c37, List.getElem?_eq_getElem (by omega)] at he
      obtain ⟨cs, hc, ht⟩ := Option.bind_eq_some_iff.1 he
      obtain ⟨_, hl, hcell⟩ := World.cells?_some hc
      obtain ⟨y0, y1, m, _, _, t0, t1⟩ := trod_struct2 Tryz.underlying37 ht
      rw [show Tryz.prog.cellsOf 3 = 1 from c3] at t0 t1
      obtain ⟨x, e0, _, w0⟩ := DataW.trod_int Tryz.underlying3 t0
      obtain ⟨y, e1, _, w1⟩ := DataW.trod_int Tryz.underlying3 t1
      match cs, hl with
      | [u, v], _ =>
        simp at e0 e1
        subst e0 e1
        refine ⟨x, y, i64_of_wf w0, i64_of_wf w1, ?_, ?_⟩
        · rw [hcell 0 (by omega)]; rfl
        · rw [hcell 1 (by omega)]; rfl
    obtain ⟨x0, _, _, _, z0, _⟩ := get 0 (by omega)
    have hs := cell_some_spot z0
    have e00 : (a.add (0 * 2)).add 0 = a := by simp [Addr.add]
    rw [e00] at hs
    obtain ⟨b, o, s⟩ := a
    obtain ⟨rfl, hlt⟩ := hs
    obtain ⟨x, y, ix, iy, q0, q1⟩ := get i hi
    rw [add_plain, add_plain] at q0 q1
    exact ⟨b, o, rfl, hlt, x, y, ix, iy, q0, q1⟩
end Go.Proofs.YtkfafikejdhccaaGreatDoor
