import Derived.Test.YtoclhdcpjlcdiaaGreatFmtA33
import Derived.Test.YtoclhdcpjlcdiaaGreatFmtA56
import Derived.Test.YtoclhdcpjlcdiaaGreatFmtA32
/- Here stand lemmas: the nearest float of a sum, of a product; the walk of EftPremise. -/
set_option linter.unusedVariables false
set_option linter.unusedVariables false
/-! The rung below, as a value. -/
namespace Go.Eng
open Go
theorem cut_bd {m : Nat} (e : Int) (hm : m ≠ 0) : cutX m e < 2 ^ (53 + cutD m e) ∧ (lastP m e ≠ -1074 → 2 ^ (52 + cutD m e) ≤ cutX m e) := by
  have h := (Nat.log2_eq_iff hm).1 rfl
  unfold cutX cutD
  have hL : lastP m e = max (e + m.log2 - 52) (-1074) := rfl
  generalize lastP m e = L at *
  by_cases hc : L ≤ e
  · rw [show (L - e).toNat = 0 by omega]
    obtain ⟨j, hj⟩ : ∃ j : Nat, (e - L).toNat = j ∧ m.log2 + j ≤ 52 := ⟨_, rfl, by omega⟩
    rw [hj.1]
    refine ⟨?_, fun hne => ?_⟩
    · have a1 : m * 2 ^ j < 2 ^ (m.log2 + 1) * 2 ^ j := Nat.mul_lt_mul_of_pos_right h.2 (Nat.pow_pos (by decide))
      rw [← Nat.pow_add] at a1
      exact Nat.lt_of_lt_of_le a1 (Nat.pow_le_pow_right (by decide) (by omega))
    · have a2 : 2 ^ m.log2 * 2 ^ j ≤ m * 2 ^ j := Nat.mul_le_mul_right _ h.1
      rw [← Nat.pow_add, show m.log2 + j = 52 + 0 by omega] at a2
      exact a2
  · rw [show (e - L).toNat = 0 by omega, Nat.pow_zero, Nat.mul_one]
    refine ⟨Nat.lt_of_lt_of_le h.2 (Nat.pow_le_pow_right (by decide) (by omega)), fun hne => ?_⟩
    exact Nat.le_trans (Nat.pow_le_pow_right (by decide) (by omega)) h.1
theorem lastP_mono {m n : Nat} (e : Int) (h : m ≤ n) (hm : m ≠ 0) : lastP m e ≤ lastP n e := by
  have h1 : m.log2 ≤ n.log2 := by
    have := (Nat.log2_eq_iff hm).1 rfl
    exact (Nat.le_log2 (by omega)).2 (Nat.le_trans this.1 h)
  unfold lastP; omega
theorem magK_form {L q : Nat} (h1 : q ≤ 9007199254740992) (h2 : L = 0 ∨ 4503599627370496 ≤ q) : magK (L * 4503599627370496 + q) = q * 2 ^ L := by
  unfold magK
  by_cases hq : q < 4503599627370496
  · have hL : L = 0 := by omega
    subst hL
    rw [show (0 * 4503599627370496 + q) / 4503599627370496 = 0 by omega, if_pos rfl, Nat.pow_zero]
    omega
  · by_cases hq2 : q = 9007199254740992
    · subst hq2
      rw [show (L * 4503599627370496 + 9007199254740992) / 4503599627370496 = L + 2 by omega, show (L * 4503599627370496 + 9007199254740992) % 4503599627370496 = 0 by omega, if_neg (by omega), show L + 2 - 1 = L + 1 by omega, Nat.pow_succ]
      generalize 2 ^ L = p
      omega
    · rw [show (L * 4503599627370496 + q) / 4503599627370496 = L + 1 by omega, show (L * 4503599627370496 + q) % 4503599627370496 = q - 4503599627370496 by omega, if_neg (by omega), show L + 1 - 1 = L by omega, show 4503599627370496 + (q - 4503599627370496) = q by omega]
theorem flo_val {m K : Nat} (hK : 1074 ≤ K) (hm : m ≠ 0) : magK (flo m (-(K : Int))) * 2 ^ (K - 1074) ≤ m ∧ m < magK (flo m (-(K : Int)) + 1) * 2 ^ (K - 1074) ∧ odd m (-(K : Int)) = decide (magK (flo m (-(K : Int))) * 2 ^ (K - 1074) ≠ m) := by
  obtain ⟨b1, b2⟩ := cut_bd (-(K : Int)) hm
  have hl := lastP_ge m (-(K : Int))
  have hX : cutX m (-(K : Int)) = m := by unfold cutX; rw [show (-(K : Int) - lastP m (-(K : Int))).toNat = 0 by omega, Nat.pow_zero, Nat.mul_one]
  have hD : cutD m (-(K : Int)) = (lastP m (-(K : Int)) + 1074).toNat + (K - 1074) := by unfold cutD; omega
  have p : 0 < 2 ^ cutD m (-(K : Int)) := Nat.pow_pos (by decide)
  have q1 : cutX m (-(K : Int)) / 2 ^ cutD m (-(K : Int)) < 9007199254740992 := by
    rw [Nat.div_lt_iff_lt_mul p, show (9007199254740992 : Nat) = 2 ^ 53 by decide, ← Nat.pow_add]; exact b1
  have q2 : (lastP m (-(K : Int)) + 1074).toNat = 0 ∨ 4503599627370496 ≤ cutX m (-(K : Int)) / 2 ^ cutD m (-(K : Int)) := by
    by_cases h : lastP m (-(K : Int)) = -1074
    · left; omega
    · right
      rw [Nat.le_div_iff_mul_le p, show (4503599627370496 : Nat) = 2 ^ 52 by decide, ← Nat.pow_add]; exact b2 h
  have e1 : magK (flo m (-(K : Int))) = cutX m (-(K : Int)) / 2 ^ cutD m (-(K : Int)) * 2 ^ (lastP m (-(K : Int)) + 1074).toNat := magK_form (by omega) q2
  have e2 : magK (flo m (-(K : Int)) + 1) = (cutX m (-(K : Int)) / 2 ^ cutD m (-(K : Int)) + 1) * 2 ^ (lastP m (-(K : Int)) + 1074).toNat := by
    unfold flo; rw [Nat.add_assoc]; exact magK_form (by omega) (by omega)
  rw [e1, e2, Nat.mul_assoc, Nat.mul_assoc, ← Nat.pow_add, ← hD]
  unfold odd
  rw [hX]
  generalize 2 ^ cutD m (-(K : Int)) = d at *
  have dm := Nat.div_add_mod m d
  have ml := Nat.mod_lt m p
  rw [Nat.add_mul, Nat.one_mul, Nat.mul_comm (m / d) d]
  refine ⟨by omega, by omega, ?_⟩
  rw [decide_eq_decide]; omega
end Go.Eng
set_option linter.unusedVariables false
namespace Go.Eng
open Go
theorem rk_pz (x : Int) : rk (Go.Proofs.pz x) = rk x := by
  unfold Go.Proofs.pz
  split
  · rename_i h; subst h; decide
  · rfl
end Go.Eng
namespace Go.Eng
open Go
end Go.Eng
namespace Go.Proofs
open Go Go.Eng
end Go.Proofs
