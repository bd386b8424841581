import Derived.Test.YtkfafikejdhccaaGreatDoorA26
import Derived.Test.YtkfafikejdhccaaGreatDoorA30
/- Here stand lemmas: floats as whole numbers. -/
set_option linter.unusedVariables false
set_option linter.unusedVariables false
namespace Go.Eng
open Go
/-- A whole number of at most 53 bits, with noughts behind. -/
def Fl (v : Int) : Prop := ∃ m t : Nat, v.natAbs = m * 2 ^ t ∧ m ≤ 9007199254740992
/-- 2^k divides. -/
def Dv (k : Nat) (x : Int) : Prop := ∃ z : Int, x = z * ((2 ^ k : Nat) : Int)
theorem Dv.zero {k : Nat} : Dv k 0 := ⟨0, by rw [Int.zero_mul]⟩
theorem Dv.add {k : Nat} {x y : Int} (a : Dv k x) (b : Dv k y) : Dv k (x + y) := by
  obtain ⟨z, rfl⟩ := a; obtain ⟨w, rfl⟩ := b; exact ⟨z + w, by rw [Int.add_mul]⟩
theorem Dv.neg {k : Nat} {x : Int} (a : Dv k x) : Dv k (-x) := by
  obtain ⟨z, rfl⟩ := a; exact ⟨-z, by rw [Int.neg_mul]⟩
theorem Dv.sub {k : Nat} {x y : Int} (a : Dv k x) (b : Dv k y) : Dv k (x - y) := by
  rw [Int.sub_eq_add_neg]; exact a.add b.neg
theorem Dv.mono {j k : Nat} {x : Int} (a : Dv k x) (h : j ≤ k) : Dv j x := by
  obtain ⟨z, rfl⟩ := a
  obtain ⟨d, rfl⟩ : ∃ d, k = j + d := ⟨k - j, by omega⟩
  exact ⟨z * ((2 ^ d : Nat) : Int), by rw [Nat.pow_add, Int.natCast_mul, Int.mul_assoc, Int.mul_comm ((2 ^ j : Nat) : Int)]⟩
theorem Dv.abs {k : Nat} {x : Int} (a : Dv k x) : ∃ m : Nat, x.natAbs = m * 2 ^ k := by
  obtain ⟨z, rfl⟩ := a
  exact ⟨z.natAbs, by rw [Int.natAbs_mul, Int.natAbs_natCast]⟩
theorem Dv.of_abs {k m : Nat} {x : Int} (h : x.natAbs = m * 2 ^ k) : Dv k x := by
  by_cases hx : x < 0
  · exact ⟨-(m : Int), by rw [Int.neg_mul, ← Int.natCast_mul, ← h]; omega⟩
  · exact ⟨(m : Int), by rw [← Int.natCast_mul, ← h]; omega⟩
theorem Dv.ge {k : Nat} {x : Int} (a : Dv k x) (h : x ≠ 0) : 2 ^ k ≤ x.natAbs := by
  obtain ⟨m, e⟩ := a.abs
  have : m ≠ 0 := by intro k; rw [k, Nat.zero_mul] at e; omega
  rw [e]
  exact Nat.le_mul_of_pos_left _ (by omega)
theorem Fl.zero : Fl 0 := ⟨0, 0, rfl, by decide⟩
theorem Fl.neg {v : Int} (h : Fl v) : Fl (-v) := by
  obtain ⟨m, t, a, b⟩ := h; exact ⟨m, t, by rw [Int.natAbs_neg]; exact a, b⟩
/-- A great float is a multiple of its last place. -/
theorem Fl.big {v : Int} (h : Fl v) {k : Nat} (hk : 4503599627370496 * 2 ^ k ≤ v.natAbs) : Dv k v := by
  obtain ⟨m, t, a, b⟩ := h
  rcases Nat.lt_or_ge t k with hlt | hge
  · obtain ⟨d, rfl⟩ : ∃ d, k = t + (d + 1) := ⟨k - t - 1, by omega⟩
    have hp : 0 < 2 ^ t := Nat.pow_pos (by decide)
    rw [a, Nat.pow_add, Nat.mul_comm (2 ^ t), ← Nat.mul_assoc] at hk
    have h1 := Nat.le_of_mul_le_mul_right hk hp
    have hd : 0 < 2 ^ d := Nat.pow_pos (by decide)
    rw [Nat.pow_succ] at h1
    have h2 : 2 ^ d = 1 := by omega
    have hd0 : d = 0 := by
      rcases Nat.eq_zero_or_pos d with e | e
      · exact e
      · have : 2 ^ 1 ≤ 2 ^ d := Nat.pow_le_pow_right (by decide) e
        omega
    subst hd0
    have hm : m = 4503599627370496 * 2 := by omega
    refine Dv.of_abs (m := 4503599627370496) ?_
    rw [a, hm, Nat.zero_add, Nat.pow_succ, Nat.mul_assoc, Nat.mul_comm 2]
  · exact (Dv.of_abs a).mono hge
end Go.Eng
set_option linter.unusedVariables false
namespace Go.Eng
open Go
/-- An expansion of whole numbers, behind what is below it. -/
def vZ (below : Nat) : List Int → Prop
  | [] => True
  | v :: r => v ≠ 0 ∧ (∃ k, below < 2 ^ k ∧ Dv k v) ∧ vZ v.natAbs r
theorem vZ.mono {a b : Nat} {xs : List Int} (h : vZ b xs) (hab : a ≤ b) : vZ a xs := by
  cases xs with
  | nil => trivial
  | cons v r => exact ⟨h.1, let ⟨k, h1, h2⟩ := h.2.1; ⟨k, by omega, h2⟩, h.2.2⟩
theorem vZ.lt {b : Nat} {v : Int} {r : List Int} (h : vZ b (v :: r)) : b < v.natAbs := by
  obtain ⟨h0, ⟨k, h1, h2⟩, _⟩ := h
  have := h2.ge h0
  omega
theorem vZ.tail {b : Nat} {v : Int} {r : List Int} (h : vZ b (v :: r)) : vZ b r := h.2.2.mono (by have := h.lt; omega)
end Go.Eng
set_option linter.unusedVariables false
namespace Go.Proofs
open Go Go.Eng
/-- Validity, told of the values. -/
theorem vOk_iff {xs : List Int} : ∀ {b : Nat}, vOk b xs = true ↔ (∀ x ∈ xs, isFin x = true) ∧ vZ b (xs.map fV) := by
  induction xs with
  | nil => intro b; exact ⟨fun _ => ⟨fun x hx => by (cases hx), trivial⟩, fun _ => rfl⟩
  | cons x r ih =>
    intro b
    have e1 : vOk b (x :: r) = ((decide (cls x = 1) || decide (cls x = 2)) && (decide (b < lowN x) && vOk (fV x).natAbs r)) := rfl
    rw [e1]
    simp only [Bool.and_eq_true, Bool.or_eq_true, decide_eq_true_eq, List.map_cons, List.mem_cons, forall_eq_or_imp]
    constructor
    · rintro ⟨hc, hl, hv⟩
      obtain ⟨fx, hm⟩ := cls_pos hc
      obtain ⟨h1, h2⟩ := ih.1 hv
      refine ⟨⟨fx, h1⟩, fun k => hm (fV_zero.1 k), ?_, h2⟩
      obtain ⟨N, n1, n2⟩ := lowN_odd hm
      exact ⟨Lib.ctz 64 (fM x) + (fX x + 1074).toNat, hl, Dv.of_abs n2⟩
    · rintro ⟨⟨fx, h1⟩, hne, ⟨k, k1, k2⟩, h2⟩
      have hm : fM x ≠ 0 := fun k => hne (fV_zero.2 k)
      refine ⟨?_, ?_, ih.2 ⟨h1, h2⟩⟩
      · unfold isFin at fx
        have := of_decide_eq_true fx
        unfold fM at hm
        unfold cls
        rw [if_neg (by omega), if_neg (by omega)]
        by_cases h0 : 0 < fE x
        · rw [if_pos h0]; exact .inr rfl
        · rw [if_neg h0]
          rw [if_pos (by omega)] at hm
          rw [if_pos (by omega)]; exact .inl rfl
      · obtain ⟨N, n1, n2⟩ := lowN_odd hm
        obtain ⟨m, em⟩ := k2.abs
        have hk : lowN x = 2 ^ (Lib.ctz 64 (fM x) + (fX x + 1074).toNat) := rfl
        rw [hk] at n2 ⊢
        generalize Lib.ctz 64 (fM x) + (fX x + 1074).toNat = t at *
        rcases Nat.lt_or_ge t k with c | c
        · exfalso
          obtain ⟨d, rfl⟩ : ∃ d, k = t + (d + 1) := ⟨k - t - 1, by omega⟩
          rw [n2, Nat.pow_add, Nat.mul_comm (2 ^ t), ← Nat.mul_assoc] at em
          have := Nat.eq_of_mul_eq_mul_right (Nat.pow_pos (by decide)) em
          rw [Nat.pow_succ, ← Nat.mul_assoc] at this
          omega
        · have : 2 ^ k ≤ 2 ^ t := Nat.pow_le_pow_right (by decide) c
          omega
end Go.Proofs
