import Derived.Test.YtoclhdcpjlcdiaaGreatFmtA15
import Derived.Test.YtoclhdcpjlcdiaaGreatFmtA12
/- Here stand lemmas: plumbref1 and plumbref3: contracts. -/
set_option linter.unusedVariables false
namespace Go.Proofs
open Go Go.Eng
variable {B : World} {R : Ending → Heap → Prop} {h : Heap}
/-- plumbref1.Neg. -/
def negP (b : Int) : Int := if isNaN b then NaNP else if b < 0 then b + 9223372036854775808 else b - 9223372036854775808
end Go.Proofs
namespace Go.Proofs
open Go Go.Eng
variable {B : World} {R : Ending → Heap → Prop} {h : Heap}
/-- A number laid and handed back. -/
theorem ret3 {r n c : Nat} {x0 x1 x2 : Value} {neg : Bool} {p : Option Addr} {e : Int} (O : Own h r #[x0, x1, x2]) (H : ∀ h', Fr (fun x => x = r) h h' → R (.returned (.agg #[.bool neg, .slice p n c, .int .i64 e])) h') :
    isP (some ⟨r, 0, none⟩) fun b11 o12 => stC h b11 o12 (.bool neg) fun h13 =>
 stC h13 b11 (o12 + 1) (.slice p n c) fun h14 =>
 stC h14 b11 (o12 + 1 + 1) (.int .i64 e) fun h15 =>
 isP (some ⟨r, 0, none⟩) fun b16 o17 =>
∃ x18, cell? h15 ⟨b16, o17, none⟩ = some (.bool x18) ∧
∃ x19 x19n x19c, cell? h15 ⟨b16, o17 + 1, none⟩ = some (.slice x19 x19n x19c) ∧
∃ x20, cell? h15 ⟨b16, o17 + 1 + 1, none⟩ = some (.int .i64 x20) ∧
 R (.returned (.agg #[.bool x18, .slice x19 x19n x19c, .int .i64 x20])) h15 := by
  refine ⟨r, 0, rfl, O.stC (by simp) rfl fun oa fa => oa.stC (by simp) rfl fun ob fb => ob.stC (by simp) rfl fun oc fc => ⟨r, 0, rfl, _, oc.cell _, _, _, _, oc.cell _, _, oc.cell _, ?_⟩⟩
  exact H _ (Fr.trans (S := fun x => x = r) (Fr.trans (S := fun x => x = r) fa fb fun _ _ e => e) fc fun _ _ e => e)
theorem fM_lt (b : Int) : fM b < 9007199254740992 := by
  have := fT_lt b
  unfold fM; split <;> omega
theorem fX_lt {b : Int} (hf : isFin b = true) : fX b ≤ 971 := by
  have hE : fE b < 2047 := by unfold isFin at hf; exact of_decide_eq_true hf
  unfold fX; split <;> omega
theorem fV_bl {b : Int} (hf : isFin b = true) : bl (fV b).natAbs ≤ 2100 := by
  have h1 := fX_lt hf
  have h2 := fM_lt b
  have h3 := fX_ge b
  unfold fV
  rw [signed_abs]
  by_cases h0 : fM b = 0
  · rw [h0, Nat.zero_mul]; decide
  · have hl : bl (fM b) ≤ 53 := bl_le_iff.2 h2
    rw [bl_scale _ h0]; omega
theorem signed_neg {neg : Bool} {M k : Nat} (h : M ≠ 0) : decide (Ieee.signed neg M k < 0) = neg := by
  have h2 : 0 < M * 2 ^ k := Nat.mul_pos (by omega) (Nat.pow_pos (by decide))
  unfold Ieee.signed
  rw [Nat.shiftLeft_eq]
  cases neg
  · have : ¬ ((M * 2 ^ k : Nat) : Int) < 0 := by omega
    simp only [Bool.false_eq_true, if_false, this, decide_false]
  · simp only [if_true, decide_eq_true_eq]; omega
theorem DigI.short {p : Option Addr} {n N : Nat} {es : List Nat} (D : DigI h p n es) (hb : bl (val B30 es) ≤ 30 * N) : n ≤ N := by
  have : digs B30 (val B30 es) = es := digs_of (by decide) D.dig D.trim
  rw [← D.len, ← this]
  exact digs_len (k := 30) rfl (by decide) hb
theorem bl_add {a b : Int} {L : Nat} (ha : bl a.natAbs ≤ L) (hb : bl b.natAbs ≤ L) : bl (a + b).natAbs ≤ L + 1 := by
  rw [bl_le_iff] at *
  rw [Nat.pow_succ]; omega
end Go.Proofs
