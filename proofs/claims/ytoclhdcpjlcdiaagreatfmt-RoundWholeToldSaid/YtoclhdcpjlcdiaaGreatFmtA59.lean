import Derived.Test.YtoclhdcpjlcdiaaGreatFmtA40
import Derived.Test.YtoclhdcpjlcdiaaGreatFmtA57
import Derived.Test.YtoclhdcpjlcdiaaGreatFmtA39
import Derived.Test.YtoclhdcpjlcdiaaGreatFmtA62
/- Here stand lemmas: rounding in the four ways. -/
set_option linter.unusedVariables false
set_option linter.unusedVariables false
/-! Where a number is a float, down and up are it; else they are neighbours. -/
namespace Go.Proofs
open Go Go.Eng
theorem cast_pow2 (n : Nat) : ((2 ^ n : Nat) : Int) = (2 : Int) ^ n := by rw [Int.natCast_pow]; rfl
end Go.Proofs
set_option linter.unusedVariables false
/-! Rounding in four ways: neighbours around the number, the nearest, signs, order. -/
namespace Go.Proofs
open Go Go.Eng
theorem pz_wf {a : Int} (ia : I64 a) (na : isNaN a = false) : I64 (pz a) ∧ isNaN (pz a) = false ∧ isFin (pz a) = isFin a ∧ fV (pz a) = fV a := by
  unfold pz
  split
  · rename_i h
    subst h
    exact ⟨by unfold I64; omega, by decide, by decide, by decide⟩
  · exact ⟨ia, na, rfl, rfl⟩
/-- What round.To tells. -/
def toR (w : Nat) (v : Int) (K : Nat) : Int := pz (dirV w v (-(K : Int)))
theorem toR_wf (w : Nat) (v : Int) (K : Nat) : I64 (toR w v K) ∧ isNaN (toR w v K) = false ∧ rk (toR w v K) = rk (dirV w v (-(K : Int))) ∧ isFin (toR w v K) = isFin (dirV w v (-(K : Int))) ∧ fV (toR w v K) = fV (dirV w v (-(K : Int))) := by
  obtain ⟨a, b, c, d⟩ := pz_wf (dirV_I64 w v (-(K : Int))) (dirV_nan w v (-(K : Int)))
  exact ⟨a, b, rk_pz _, c, d⟩
end Go.Proofs
set_option linter.unusedVariables false
namespace Go.Proofs
open Go Go.Eng
/-- The nearest float of a whole number of units. -/
theorem toR_rnd {r : Int} (h : r.natAbs ≤ 2 ^ 1500) : isFin (toR 0 r 1074) = true ∧ fV (toR 0 r 1074) = rndI r := by
  obtain ⟨_, _, _, d, e⟩ := toR_wf 0 r 1074
  rw [d, e]
  unfold dirV
  by_cases h0 : r = 0
  · subst h0
    rw [if_pos rfl]
    exact ⟨by decide, by decide⟩
  · rw [if_neg h0, ← rung_dir]
    have hlt : r.natAbs < 3 * 2 ^ (51 + 2045) := by
      have := p2lt (a := 1500) (b := 51 + 2045) (by omega)
      generalize 2 ^ (51 + 2045) = P at *
      generalize 2 ^ 1500 = Q at *
      omega
    obtain ⟨c1, c2⟩ := rung_fV (decide (r < 0)) (K := 2045) (Nat.le_refl _) hlt
    exact ⟨c1, c2⟩
end Go.Proofs
