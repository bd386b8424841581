import Derived.Test.YtkfafikejdhccaaGreatDoorA23
import Derived.Test.YtkfafikejdhccaaGreatDoorA25
import Derived.Test.YtkfafikejdhccaaGreatDoorA26
/- Here stand lemmas: order, sizes and halves of floats. -/
set_option linter.unusedVariables false
namespace Go.Proofs
open Go Go.Eng
variable {B : World} {R : Ending → Heap → Prop} {h : Heap}
theorem order_fin {a b : Int} (ha : I64 a) (hb : I64 b) (fa : isFin a = true) (fb : isFin b = true) : (FloatKind.f64.format.order (wd a) (wd b) == some .lt) = decide (fV a < fV b) := by
  have ea : Ieee.double.read (wd a) = .number (decide (a < 0)) (fM a) (fX a) := by
    rw [read_wd ha, if_pos]; unfold isFin at fa; exact of_decide_eq_true fa
  have eb : Ieee.double.read (wd b) = .number (decide (b < 0)) (fM b) (fX b) := by
    rw [read_wd hb, if_pos]; unfold isFin at fb; exact of_decide_eq_true fb
  have e0 : FloatKind.f64.format.order (wd a) (wd b) = (Ieee.double.read (wd a)).order (Ieee.double.read (wd b)) := rfl
  have ho : ∀ s m i t n j, Ieee.Datum.order (.number s m i) (.number t n j) = some (compare (Ieee.signed s m (i - min i j).toNat) (Ieee.signed t n (j - min i j).toNat)) := fun _ _ _ _ _ _ => rfl
  rw [e0, ea, eb, ho]
  have ga := fX_ge a
  have gb := fX_ge b
  rw [fV_at, fV_at]
  obtain ⟨b0, h0, h1, h2, h3⟩ : ∃ z, min (fX a) (fX b) = z ∧ z ≤ fX a ∧ z ≤ fX b ∧ -1074 ≤ z := ⟨_, rfl, by omega, by omega, by omega⟩
  rw [h0, show (fX a - (-1074)).toNat = (fX a - b0).toNat + (b0 + 1074).toNat by omega, show (fX b - (-1074)).toNat = (fX b - b0).toNat + (b0 + 1074).toNat by omega, signed_add, signed_add]
  generalize Ieee.signed (decide (a < 0)) (fM a) (fX a - b0).toNat = x
  generalize Ieee.signed (decide (b < 0)) (fM b) (fX b - b0).toNat = y
  generalize (b0 + 1074).toNat = kk
  have hk : (0 : Int) < ((2 ^ kk : Nat) : Int) := Int.natCast_pos.2 (Nat.pow_pos (by decide))
  generalize ((2 ^ kk : Nat) : Int) = k at hk
  have e : (x * k < y * k) ↔ (x < y) := Int.mul_lt_mul_right hk
  rw [show decide (x * k < y * k) = decide (x < y) by rw [decide_eq_decide]; exact e]
  show (some (compareOfLessAndEq x y) == some Ordering.lt) = _
  unfold compareOfLessAndEq
  by_cases hlt : x < y
  · rw [if_pos hlt, decide_eq_true hlt]; rfl
  · rw [if_neg hlt, decide_eq_false hlt]
    split <;> rfl
def absP (b : Int) : Int := if b < 0 then b + 9223372036854775808 else b
end Go.Proofs
namespace Go.Proofs
open Go Go.Eng
variable {B : World} {R : Ending → Heap → Prop} {h : Heap}
abbrev ONE : Nat := 4607182418800017408
theorem abs_I64 {b : Int} (hb : I64 b) : I64 (absP b) := by unfold I64 at *; unfold absP; split <;> omega
theorem abs_fields (b : Int) : fE (absP b) = fE b ∧ fT (absP b) = fT b := by
  unfold absP fE fT
  split
  · constructor <;> omega
  · exact ⟨rfl, rfl⟩
theorem abs_fV {b : Int} (hb : I64 b) : isFin (absP b) = isFin b ∧ fV (absP b) = ((fV b).natAbs : Int) := by
  obtain ⟨e1, e2⟩ := abs_fields b
  refine ⟨by unfold isFin; rw [e1], ?_⟩
  have hn : decide (absP b < 0) = false := by
    unfold I64 at hb
    apply decide_eq_false; unfold absP; split <;> omega
  have hm : fM (absP b) = fM b := by unfold fM; rw [e1, e2]
  have hx : fX (absP b) = fX b := by unfold fX; rw [e1]
  unfold fV
  rw [signed_abs, hn, hm, hx, signed_nat]; rfl
end Go.Proofs
namespace Go.Proofs
open Go Go.Eng
variable {B : World} {R : Ending → Heap → Prop} {h : Heap}
theorem odd_short {M y q z : Nat} (hM : M % 2 = 1) (h : M * 2 ^ y = q * 2 ^ z) : M ≤ q := by
  rcases Nat.lt_or_ge y z with hc | hc
  · exfalso
    obtain ⟨d, rfl⟩ : ∃ d, z = y + (d + 1) := ⟨z - y - 1, by omega⟩
    rw [Nat.pow_add, Nat.mul_comm (2 ^ y), ← Nat.mul_assoc] at h
    have := Nat.eq_of_mul_eq_mul_right (Nat.pow_pos (by decide)) h
    rw [this, Nat.pow_succ, ← Nat.mul_assoc, Nat.mul_mod_left] at hM
    cases hM
  · obtain ⟨d, rfl⟩ : ∃ d, y = z + d := ⟨y - z, by omega⟩
    rw [Nat.pow_add, Nat.mul_comm (2 ^ z), ← Nat.mul_assoc] at h
    have := Nat.eq_of_mul_eq_mul_right (Nat.pow_pos (by decide)) h
    rw [← this]
    exact Nat.le_mul_of_pos_right _ (Nat.pow_pos (by decide))
/-- A number whose odd part is small has at most one digit. -/
theorem NumS.short {K : Nat} {neg : Bool} {p : Option Addr} {n : Nat} {e v : Int} (N : NumS K h neg p n e v) {s q z : Nat} (hv : v.natAbs * 2 ^ s = q * 2 ^ z) (hq : q ≤ 67108864) :
    n = 0 ∨ n = 1 ∧ ∃ b o, p = some ⟨b, o, none⟩ ∧ ∃ m : Nat, m < 67108864 ∧ cell? h ⟨b, o, none⟩ = some (.int .i64 (m : Int)) := by
  obtain ⟨M, NI, he, rfl⟩ := N
  have hB : B30 = 1073741824 := rfl
  have hlen := NI.d.len
  by_cases h0 : M = 0
  · subst h0
    rw [digs_zero] at hlen
    exact .inl hlen.symm
  have hpos : 0 < n := by rw [← hlen, digs_ne (by decide) h0]; simp
  have hodd := (NI.pos hpos).1
  rw [digs_val (by decide)] at hodd
  rw [signed_abs, Nat.mul_assoc, ← Nat.pow_add] at hv
  have hM := odd_short hodd hv
  have hM2 : M < 67108864 := by omega
  have hd : digs B30 M = [M] := by
    rw [digs_ne (by decide) h0, hB, Nat.mod_eq_of_lt (by omega), Nat.div_eq_of_lt (by omega), digs_zero]
  refine .inr ⟨by rw [← hlen, hd]; rfl, ?_⟩
  have hs := NI.d.sl
  rw [hd] at hs
  rcases hs with hs | ⟨b, o, cs, h1, h2, h3⟩
  · cases hs
  · exact ⟨b, o, h1, M, hM2, by rw [h2.cell]; have := h3 0 (by simp); rw [Nat.add_zero] at this; exact this⟩
end Go.Proofs
