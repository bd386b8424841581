import Derived.Test.YtkfafikejdhccaaGreatDoorA35
import Derived.Test.YtkfafikejdhccaaGreatDoorA39
import Derived.Test.YtkfafikejdhccaaGreatDoorA37
/- Here stand lemmas: compressing keeps the value. -/
set_option linter.unusedVariables false
set_option linter.unusedVariables false
namespace Go.Eng
open Go
/-- Floats far above one another. -/
def chZ (b : Nat) : List Int → Prop
  | [] => True
  | a :: r => ∃ i, b ≤ 2 ^ i ∧ Dv (i + 1) a ∧ 2251799813685248 * 2 ^ i ≤ a.natAbs ∧ chZ a.natAbs r
theorem chZ.mono {a b : Nat} {xs : List Int} (h : chZ b xs) (hab : a ≤ b) : chZ a xs := by
  cases xs with
  | nil => trivial
  | cons v r => obtain ⟨i, h1, h2⟩ := h; exact ⟨i, by omega, h2⟩
theorem chZ.vZ {xs : List Int} : ∀ {b : Nat}, chZ b xs → vZ b xs := by
  induction xs with
  | nil => intro b _; trivial
  | cons v r ih =>
    intro b h
    obtain ⟨i, h1, h2, h3, h4⟩ := h
    have hp : 0 < 2 ^ i := Nat.pow_pos (by decide)
    exact ⟨by omega, ⟨i + 1, by rw [Nat.pow_succ]; omega, h2⟩, ih h4⟩
/-- A descending expansion, below what is at hand. -/
def dsZ (q : Int) : List Int → Prop
  | [] => True
  | y :: r => (∃ k, y.natAbs < 2 ^ k ∧ Dv k q) ∧ y ≠ 0 ∧ Fl y ∧ dsZ y r
theorem dsZ.low {q y : Int} {r : List Int} (h : dsZ y r) {k : Nat} (hy : y ≠ 0) (hk : Dv k q) (hy2 : y.natAbs < 2 ^ k) : ∀ {s : Int}, (∀ j, Dv j q → Dv j y → Dv j s) → dsZ s r := by
  intro s hs
  cases r with
  | nil => trivial
  | cons z r =>
    obtain ⟨⟨j, j1, j2⟩, h2⟩ := h
    refine ⟨⟨j, j1, hs j (hk.mono ?_) j2⟩, h2⟩
    have := j2.ge hy
    exact Nat.le_of_lt ((Nat.pow_lt_pow_iff_right (by decide)).1 (Nat.lt_of_le_of_lt this hy2))
/-- What is below the greater ones. -/
def topZ (q : Int) : List Int → Prop
  | [] => True
  | a :: r => ∃ i, q.natAbs < 2 ^ i ∧ Dv (i + 1) a ∧ 2251799813685248 * 2 ^ i ≤ a.natAbs ∧ chZ a.natAbs r
theorem topZ.ch {q : Int} {acc : List Int} (h : topZ q acc) : chZ q.natAbs acc := by
  cases acc with
  | nil => trivial
  | cons a r => obtain ⟨i, h1, h2⟩ := h; exact ⟨i, Nat.le_of_lt h1, h2⟩
end Go.Eng
set_option linter.unusedVariables false
namespace Go.Proofs
open Go Go.Eng
theorem fast_law {a b : Int} (fa : isFin a = true) (fb : isFin b = true) {K : Nat} (hK : K ≤ 2045) (ha : (fV a).natAbs ≤ 2 ^ (46 + K)) (hab : (fV b).natAbs ≤ (fV a).natAbs) :
    isFin (sumH a b) = true ∧ isFin (fstL a b) = true ∧ fV (sumH a b) = rndI (fV a + fV b) ∧ fV (fstL a b) = fV a + fV b - rndI (fV a + fV b) ∧ sumOk (sumH a b) (fstL a b) a b = true := by
  have e51 : 2 ^ (51 + K) = 32 * 2 ^ (46 + K) := by rw [show 51 + K = 5 + (46 + K) by omega, Nat.pow_add]
  have h2 := fast_two (fl_fV a) (fl_fV b) hab
  have hp : 0 < 2 ^ (46 + K) := Nat.pow_pos (by decide)
  have hb : (fV b).natAbs ≤ 2 ^ (46 + K) := Nat.le_trans hab ha
  generalize 2 ^ (46 + K) = P at *
  obtain ⟨h1, h1v, n1⟩ := stepA fa fb hK e51 ha hb (by omega)
  rw [← h1v] at h2
  have hH : sumH a b = addP a b := rfl
  have hL : fstL a b = subP b (subP (addP a b) a) := rfl
  rw [hH, hL]
  generalize addP a b = S at *
  obtain ⟨v1, v1v, n2⟩ := stepS h1 fa hK e51 n1 ha (by omega)
  rw [← v1v] at h2
  generalize subP S a = V at *
  obtain ⟨l1, l1v, _⟩ := stepS fb v1 hK e51 hb n2 (by omega)
  have hv : fV (subP b V) = fV a + fV b - fV S := by rw [l1v, h2]
  refine ⟨h1, l1, h1v, by rw [hv, h1v], ?_⟩
  unfold sumOk justP
  rw [fa, fb, h1, l1, hv, Nat.sub_self, Nat.pow_zero, show (fV S + (fV a + fV b - fV S)) * ((1 : Nat) : Int) = fV a + fV b by omega, decide_eq_true rfl]; rfl
theorem addL_eq {out : List Int} {y : Int} (fy : isFin y = true) : addL out y = out ++ (if fV y = 0 then [] else [y]) := by
  unfold addL
  by_cases h : fV y = 0
  · rw [if_pos ((cls_zero fy).2 h), if_pos h, List.append_nil]
  · rw [if_neg (fun k => h ((cls_zero fy).1 k)), if_neg h]
end Go.Proofs
