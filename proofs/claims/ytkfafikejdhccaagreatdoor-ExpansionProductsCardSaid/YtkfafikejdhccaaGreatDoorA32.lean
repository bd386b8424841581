import Derived.Test.YtkfafikejdhccaaGreatDoorA24
import Derived.Test.YtkfafikejdhccaaGreatDoorA31
/- Here stand lemmas: slices of integers that came in. -/
set_option linter.unusedVariables false
namespace Go.Proofs.YtkfafikejdhccaaGreatDoor
open Go.Eng Go.ChangeShapes Go.WideShapes Go.ChangeAt Go.RowKit
set_option maxRecDepth 10000
theorem ok_slice {w : World} {t e : TypeId} {p : Option Addr} {n c : Nat} (ht : Tryz.prog.underlying t = some (.slice e)) {r : Reach} {base : Nat} (h : Value.okWide Tryz.prog w r base t (.slice p n c)) : PtB w.heap p ∧ n ≤ c := by
  have h2 : Cell.ok Tryz.prog w r base t (.slice p n c) := by
    have h1 : Value.okWide Tryz.prog w r base t (.slice p n c) = Cell.okWide Tryz.prog w r base t (.slice p n c) := by unfold Value.okWide; rw [ht]
    rw [h1] at h
    have h3 : Cell.okWide Tryz.prog w r base t (.slice p n c) = Cell.ok Tryz.prog w r base t (.slice p n c) := by unfold Cell.okWide; rw [ht]
    rw [h3] at h; exact h
  cases p with
  | none =>
    cases n with
    | zero => exact ⟨.inl rfl, Nat.zero_le _⟩
    | succ n => exact absurd h2 (by unfold Cell.ok; rw [ht]; exact id)
  | some a =>
    have h3 : Cell.ok Tryz.prog w r base t (.slice (some a) n c) = (n ≤ c ∧ (c : Int) ≤ IntKind.i64.max ∧ w.has Tryz.prog r base a e c) := by unfold Cell.ok; rw [ht]
    rw [h3] at h2
    obtain ⟨hl, _, _, hs, row, cells, hsh, _⟩ := h2
    obtain ⟨b, o, s⟩ := a
    obtain rfl : s = none := hs
    refine ⟨.inr ⟨b, o, rfl, ?_⟩, hl⟩
    unfold World.shape? at hsh
    cases hb : w.heap[b]? with
    | none => rw [hb] at hsh; cases hsh
    | some x => exact (Array.getElem?_eq_some_iff.1 hb).1
/-- A slice of whole numbers that came in. -/
theorem ints_of_trod {H : Type} {enc : TypeId × Value → H} {W : World} {a0 : Option Addr} {len cap : Nat} {d : DataW H} {p : List MemPlace} {r : Reach} {base : Nat}
    (h : DataW.Trod enc Tryz.prog W 0 (fun _ => true) true 27 (.slice a0 len cap) d p) (hok : Value.okWide Tryz.prog W r base 27 (.slice a0 len cap)) : SlH W.heap a0 len cap := by
  obtain ⟨hp, hc⟩ := ok_slice Tryz.underlying27 hok
  obtain ⟨fuel, hf⟩ := h
  have get : ∀ j, j < len → ∃ x, I64 x ∧ ∃ b o, a0 = some ⟨b, o, none⟩ ∧ b < W.heap.size ∧ cell? W.heap ⟨b, o + j, none⟩ = some (.int .i64 x) := by
    intro j hj
    rcases DataW.trod_slice Tryz.underlying27 hf with ⟨hcs, _⟩ | ⟨a, len', cap', elems, rest, n, _, hcs, _, hb, _, _, hlen, hel, _, _⟩
    · have e : (Value.slice a0 len cap) = Value.slice none 0 0 := by
        have := congrArg (·[0]?) hcs
        simpa [Value.cells] using this
      cases e
      exact absurd hj (Nat.not_lt_zero _)
    · have e : (Value.slice a0 len cap) = Value.slice (some a) len' cap' := by
        have := congrArg (·[0]?) hcs
        simpa [Value.cells] using this
      cases e
      have he := hel j hj
      rw [c3, List.getElem?_eq_getElem (by rw [hlen]; exact hj)] at he
      obtain ⟨cs, hc, ht⟩ := Option.bind_eq_some_iff.1 he
      obtain ⟨_, hl, hcell⟩ := World.cells?_some hc
      obtain ⟨x, e0, _, w0⟩ := DataW.trod_int Tryz.underlying3 ht
      rcases hp with e | ⟨b, o, e, hb2⟩
      · cases e
      · cases e
        have := hcell 0 (Nat.zero_lt_one)
        rw [e0] at this
        rw [add_plain, add_plain, Nat.mul_one, Nat.add_zero] at this
        exact ⟨x, i64_of_wf w0, b, o, rfl, hb2, this⟩
  match len, get with
  | 0, _ => exact ⟨[], ⟨fun x hx => (by cases hx), .inl rfl⟩, rfl, hp, hc⟩
  | len + 1, get =>
    obtain ⟨_, _, b, o, e0, hb, _⟩ := get 0 (Nat.succ_pos _)
    have hx : ∀ j : Fin (len + 1), ∃ x, I64 x ∧ cell? W.heap ⟨b, o + j.val, none⟩ = some (.int .i64 x) := fun j => by
      obtain ⟨x, ix, b', o', e1, _, hc⟩ := get j.val j.isLt
      rw [e0] at e1
      cases e1
      exact ⟨x, ix, hc⟩
    refine ⟨List.ofFn fun j => (hx j).choose, ⟨fun y hy => ?_, .inr ⟨b, o, e0, hb, fun i hi => ?_⟩⟩, List.length_ofFn, hp, hc⟩
    · obtain ⟨j, rfl⟩ := List.mem_ofFn.1 hy
      exact (hx j).choose_spec.1
    · rw [List.getElem_ofFn]
      rw [List.length_ofFn] at hi
      exact (hx ⟨i, hi⟩).choose_spec.2
end Go.Proofs.YtkfafikejdhccaaGreatDoor
