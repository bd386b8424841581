import Derived.Test.YteailhnlphhfdaaGreatFmtA41
import Derived.Test.YteailhnlphhfdaaGreatFmtA46
import Derived.Test.YteailhnlphhfdaaGreatFmtA35
/- Here stand lemmas: the walk of SpanHolds. -/
set_option linter.unusedVariables false
set_option linter.unusedVariables false
namespace Go.Proofs
open Go Go.Eng
variable {B : World} {R : Ending → Heap → Prop} {h : Heap}
theorem bl_scale {v : Int} {L d : Nat} (h : bl v.natAbs ≤ L) : bl (v * ((2 ^ d : Nat) : Int)).natAbs ≤ L + d := by
  rw [bl_le_iff] at *
  rw [Int.natAbs_mul, Int.natAbs_natCast, Nat.pow_add]
  exact Nat.mul_lt_mul_of_pos_right h (Nat.pow_pos (by decide))
end Go.Proofs
set_option linter.unusedVariables false
namespace Go.Proofs
open Go Go.Eng
variable {B : World} {R : Ending → Heap → Prop} {h : Heap}
/-- dyadic.Neg. -/
theorem K1025 {K n c : Nat} {neg : Bool} {p : Option Addr} {e v : Int} (ht : TabH h) (N : NumS K h neg p n e v) (hK : K ≤ 1048576) (hb : bl v.natAbs ≤ 50000)
    (H : ∀ neg' p' n' c' e' h', Ext h h' → Fresh h p' → NumS K h' neg' p' n' e' (-v) → R (.returned (.tuple #[.agg #[.bool neg', .slice p' n' c', .int .i64 e'], .int .i64 (0 : Int)])) h') :
    Ent Tryz.prog B 15 #[.agg #[.bool neg, .slice p n c, .int .i64 e]] R h := by
  refine F1025_ok _ _ _ _ _ (alK fun r7 h8 e7 f7 o7 z7 => alK fun r11 h12 e11 f11 o11 z11 => alK fun r13 h14 e13 f13 o13 z13 => ?_)
  have O7 := (o7.ext f11).ext f13
  refine ⟨r7, 0, rfl, _, O7.cell _, _, _, _, O7.cell _, _, O7.cell _, alK fun r23 h24 e23 f23 o23 z23 => ?_⟩
  have F := Ext.trans f7 (Ext.trans f11 (Ext.trans f13 f23))
  refine K67 (numL1 o23 (N.ext F)) rfl (by decide) fun xs h26 f26 X => ⟨_, _, _, rfl, ?_⟩
  obtain ⟨x0, rfl⟩ := List.length_eq_one_iff.1 X.len
  obtain ⟨cs, Ob, hc⟩ := X.own
  obtain ⟨c10, c11⟩ := hc 0 (by simp)
  obtain ⟨⟨I0, y1, y2, y3, y5⟩, b0, b1⟩ := X.at_ 0 (by simp) (by simp)
  simp only [List.getElem_cons_zero] at c10 c11 I0 y1 y2 y3 y5 b0 b1
  refine ⟨h24.size, 0, rfl, by decide, by decide, h24.size, _, rfl, h24.size, _, rfl, _, by rw [Ob.cell]; exact c10, h24.size, 0, rfl, by decide, by decide, h24.size, _, rfl, h24.size, _, rfl, _, by rw [Ob.cell]; exact c10, ?_⟩
  refine K74i I0 fun q' h53 f53 d53 I53 => ⟨_, rfl, ?_⟩
  have nS : ∀ x, x < x0.r → x < x0.q → ¬ (x = x0.r ∨ Rm x0.r x0.q x) := fun x h1 h2 hh => by
    rcases hh with hh | hh
    · omega
    · have := hh.1; omega
  have Ob53 := Ob.fr f53 (nS _ b0 b1)
  have s24 := F.size
  have F53 : Ext h h53 := Fr.trans (S := fun _ => False) (Ext.trans F f26) f53 fun x hx k => nS x (by omega) (by omega) k
  refine ⟨h24.size, 0, rfl, by decide, by decide, h24.size, _, rfl, _, by rw [Ob53.cell]; exact c10, _, by rw [Ob53.cell]; exact c11, ?_⟩
  refine K65 (v := -v) (ht.ext F53) I53 y1 (by rw [Int.neg_mul, ← y3]) (by rw [Int.natAbs_neg]; exact Nat.le_trans hb (by decide)) hK fun neg' p' n' c' e' h65 f65 fr65 N => ⟨_, _, _, _, _, rfl, ?_⟩
  have o11b : Own h65 r11 #[.bool false, .slice none 0 0, .int .i64 0] := ((((o11.ext f13).ext f23).ext f26).fr f53 (nS _ (by have := o11.lt; have := f13.size; have := f23.size; omega) (by have := o11.lt; have := f13.size; have := f23.size; omega))).ext f65
  have o13b : Own h65 r13 #[.int .i64 0] := (((o13.ext f23).ext f26).fr f53 (nS _ (by have := o13.lt; have := f23.size; omega) (by have := o13.lt; have := f23.size; omega))).ext f65
  have l11 := o11.lt
  have l13 := o13.lt
  have s1 := f7.size
  have s2 := f11.size
  refine numEnd o11b o13b (by omega) fun h' f => ?_
  exact H neg' p' n' c' e' h' (Fr.trans (Ext.trans F53 f65) f fun x hx e => by omega) (fr65.mono F53.size) (N.fr f fun b o e e3 => by have := fr65 b o e; have := F53.size; have := f13.size; have := f23.size; have := f26.size; have := f53.size; omega)
end Go.Proofs
