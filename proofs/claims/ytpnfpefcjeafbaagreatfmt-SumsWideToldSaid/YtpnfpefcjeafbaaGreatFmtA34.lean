import Derived.Test.YtpnfpefcjeafbaaGreatFmtA32
import Derived.Test.YtpnfpefcjeafbaaGreatFmtA33
/- Here stand lemmas and contracts, in the order in which they are used. -/
set_option linter.unusedVariables false
set_option linter.unusedVariables false
namespace Go.Eng
open Go
theorem wd_pat {ng : Bool} {k : Nat} (hk : k < 9223372036854775808) : wd (pat ng k) = wordN ng k := by
  unfold wd pat wordN
  cases ng
  · simp only [Bool.false_eq_true, if_false]; omega
  · simp only [if_true]; omega
theorem pat_fM0 {ng : Bool} {k : Nat} (hk : k < 9223372036854775808) : fM (pat ng k) = 0 ↔ k = 0 := by
  unfold fM
  rw [pat_fE ng hk, pat_fT ng hk]
  split <;> omega
theorem pat_fin {ng : Bool} {k : Nat} (hk : k < 9218868437227405312) : isFin (pat ng k) = true := by
  unfold isFin
  rw [pat_fE ng (by omega)]
  exact decide_eq_true (by omega)
theorem rd_inf (ng : Bool) : Ieee.double.read (wordN ng 9218868437227405312) = .infinity ng := by cases ng <;> decide +kernel
theorem rd_num {ng : Bool} {k : Nat} (hk : k < 9218868437227405312) : Ieee.double.read (wordN ng k) = .number ng (fM (pat ng k)) (fX (pat ng k)) := by
  have h := read_wd (pat_I64 (neg := ng) (r := k) (by omega))
  rw [wd_pat (by omega), pat_fE ng (by omega), if_pos (by omega), pat_neg ng (by omega)] at h
  exact h
theorem ord_inf {ng : Bool} {k : Nat} (hk : k ≤ 9218868437227405312) (hne : ¬ (ng = false ∧ k = 9218868437227405312)) :
    FloatKind.f64.format.order (wordN ng k) 9218868437227405312 = some .lt ∧ FloatKind.f64.format.order 9218868437227405312 (wordN ng k) = some .gt := by
  have e0 : ∀ x y, FloatKind.f64.format.order x y = (Ieee.double.read x).order (Ieee.double.read y) := fun _ _ => rfl
  have ei : Ieee.double.read 9218868437227405312 = .infinity false := rd_inf false
  rw [e0, e0, ei]
  by_cases h : k = 9218868437227405312
  · subst h
    have : ng = true := by cases ng <;> simp at hne ⊢
    subst this
    rw [rd_inf]; exact ⟨rfl, rfl⟩
  · rw [rd_num (by omega)]; exact ⟨rfl, rfl⟩
theorem ord_zero {ng : Bool} {k : Nat} (hk : k ≤ 9218868437227405312) : FloatKind.f64.format.order (wordN ng k) 0 = some (if k = 0 then .eq else if ng then .lt else .gt) := by
  have e0 : ∀ x y, FloatKind.f64.format.order x y = (Ieee.double.read x).order (Ieee.double.read y) := fun _ _ => rfl
  have ei : Ieee.double.read 0 = .number false 0 (-1074) := by decide +kernel
  by_cases h : k = 9218868437227405312
  · subst h
    rw [e0, ei, rd_inf, if_neg (by decide)]
    cases ng <;> rfl
  · have h1 := Go.Proofs.order_full (pat_I64 (neg := ng) (r := k) (by omega)) (b := 0) (by unfold I64; omega) (pat_fin (by omega)) (by decide)
    rw [wd_pat (by omega), show wd 0 = 0 from rfl, show fV 0 = 0 from rfl] at h1
    rw [h1]
    have hv : fV (pat ng k) = if ng then -((fM (pat ng k) * 2 ^ (fX (pat ng k) + 1074).toNat : Nat) : Int) else ((fM (pat ng k) * 2 ^ (fX (pat ng k) + 1074).toNat : Nat) : Int) := by
      unfold fV
      rw [pat_neg ng (by omega)]
      unfold Ieee.signed
      rw [Nat.shiftLeft_eq]
    have hm := pat_fM0 (ng := ng) (k := k) (by omega)
    have hp : 0 < 2 ^ (fX (pat ng k) + 1074).toNat := Nat.pow_pos (by decide)
    rw [hv]
    unfold compareOfLessAndEq
    by_cases h0 : k = 0
    · rw [hm.2 h0, Nat.zero_mul, if_pos h0]
      cases ng <;> rfl
    · have : 0 < fM (pat ng k) * 2 ^ (fX (pat ng k) + 1074).toNat := Nat.mul_pos (by have : fM (pat ng k) ≠ 0 := fun e => h0 (hm.1 e); omega) hp
      rw [if_neg h0]
      generalize fM (pat ng k) * 2 ^ (fX (pat ng k) + 1074).toNat = z at *
      cases ng
      · simp only [Bool.false_eq_true, if_false]
        rw [if_neg (by omega), if_neg (by omega)]
      · simp only [if_true]
        rw [if_pos (by omega)]
/-- The pattern of the next float, and of the one before. -/
def nxK (ng : Bool) (k : Nat) : Int := if ng then (if k = 0 then 1 else pat true (k - 1)) else (k : Int) + 1
def pvK (ng : Bool) (k : Nat) : Int := if ng then pat true (k + 1) else (if k = 0 then pat true 1 else (k : Int) - 1)
theorem pat_f (k : Nat) : pat false k = (k : Int) := rfl
end Go.Eng
namespace Go.Proofs
open Go Go.Eng
variable {B : World} {R : Ending → Heap → Prop} {h : Heap}
theorem negP_pat {ng : Bool} {k : Nat} (hk : k ≤ 9218868437227405312) : negP (pat ng k) = pat (!ng) k := by
  unfold negP
  rw [pat_nan hk]
  unfold pat
  cases ng
  · simp only [Bool.false_eq_true, if_false, Bool.not_false, if_true]; rw [if_neg (by omega)]
  · simp only [Bool.false_eq_true, if_false, Bool.not_true, if_true]; rw [if_pos (by omega)]; omega
theorem K183 {w : Nat} {b : Bool} (hw : w < 18446744073709551616) (hb : isNaN (sg w) = b) (H : R (.returned (.bool b)) h) : Ent Tryz.prog B 161 #[.float .f64 w] R h := by
  refine F183_ok _ ?_
  have : (FloatKind.f64.format.order w w != some .eq) = isNaN (sg w) := order_self hw
  unfold F183
  rw [this, hb]; exact H
theorem copy1 : bitsI .or .u64 (bitsI .andNot .u64 ((1 : Nat) : Int) (9223372036854775808 : Int)) (bitsI .and .u64 ((9218868437227405312 : Nat) : Int) (9223372036854775808 : Int)) = ((1 : Nat) : Int) := by decide +kernel
/-- math.Nextafter towards infinity. -/
theorem K1066 {ng : Bool} {k : Nat} (hk : k ≤ 9218868437227405312) (hne : ¬ (ng = false ∧ k = 9218868437227405312))
    (H : R (.returned (.float .f64 (wd (nxK ng k)))) h) : Ent Tryz.prog B 135 #[.float .f64 (wordN ng k), .float .f64 9218868437227405312] R h := by
  have hw : wordN ng k < 18446744073709551616 := by unfold wordN; split <;> omega
  obtain ⟨o1, o2⟩ := ord_inf hk hne
  have o3 := ord_zero (ng := ng) hk
  refine F1066_ok _ _ (K183 (b := false) hw (by rw [wordN_sg (by omega)]; exact pat_nan hk) ⟨_, rfl, fun e => (by cases e), fun _ => K183 (b := false) (by omega) (by decide +kernel) ⟨_, rfl, ?_⟩⟩)
  refine ⟨fun e => (by cases e), fun _ => ?_⟩
  rw [o1, o2, o3]
  refine ⟨fun e => absurd e (by decide), fun _ => ⟨fun e => ?_, fun e => ⟨fun e2 => ?_, fun e2 => ?_⟩⟩⟩
  · have hk0 : k = 0 := by
      by_cases h0 : k = 0
      · exact h0
      · rw [if_neg h0] at e; cases ng <;> simp at e
    subst hk0
    refine E116 (n := 1) ⟨_, rfl, F137_ok _ _ (E117 ⟨_, rfl, E117 ⟨_, rfl, ?_⟩⟩)⟩
    rw [copy1]
    refine E116 ⟨_, rfl, _, rfl, ?_⟩
    have : nxK ng 0 = 1 := by cases ng <;> rfl
    rw [this] at H; exact H
  · have h0 : k ≠ 0 := fun h0 => by rw [if_pos h0] at e; simp at e
    have hng : ng = false := by
      rw [if_neg h0] at e2
      cases ng
      · rfl
      · simp at e2
    subst hng
    have hk2 : k < 9218868437227405312 := by
      rcases Nat.lt_or_ge k 9218868437227405312 with h | h
      · exact h
      · exact absurd ⟨rfl, by omega⟩ hne
    refine E117 ⟨_, rfl, ?_⟩
    rw [wordN_f, wrap_u64_in (by omega) (by omega)]
    refine E116 (n := k + 1) ⟨_, rfl, ?_⟩
    have : wd (nxK false k) = k + 1 := by unfold nxK wd; simp only [Bool.false_eq_true, if_false]; omega
    rw [this] at H; exact H
  · have h0 : k ≠ 0 := fun h0 => by rw [if_pos h0] at e; simp at e
    have hng : ng = true := by
      rw [if_neg h0] at e2
      cases ng
      · simp at e2
      · rfl
    subst hng
    refine E117 ⟨_, rfl, ?_⟩
    rw [wordN_t, wrap_u64_in (by omega) (by omega), show ((k + 9223372036854775808 : Nat) : Int) - 1 = ((k - 1 + 9223372036854775808 : Nat) : Int) by omega]
    refine E116 ⟨_, rfl, ?_⟩
    have : wd (nxK true k) = k - 1 + 9223372036854775808 := by unfold nxK; rw [if_pos rfl, if_neg h0, wd_pat (by omega), wordN_t]
    rw [this] at H; exact H
theorem nxK_I64 {ng : Bool} {k : Nat} (hk : k ≤ 9218868437227405312) : I64 (nxK ng k) := by
  unfold nxK I64 pat
  cases ng
  · simp only [Bool.false_eq_true, if_false]; omega
  · simp only [if_true]; split <;> omega
theorem nxK_nan {ng : Bool} {k : Nat} (hk : k ≤ 9218868437227405312) (hne : ¬ (ng = false ∧ k = 9218868437227405312)) : isNaN (nxK ng k) = false := by
  unfold nxK
  cases ng
  · simp only [Bool.false_eq_true, if_false]
    have h2 : k ≠ 9218868437227405312 := fun e => hne ⟨rfl, e⟩
    exact pat_nan (neg := false) (r := k + 1) (by omega)
  · simp only [if_true]
    split
    · decide
    · exact pat_nan (by omega)
/-- bits.Next. -/
theorem K1044 {ng : Bool} {k : Nat} (hk : k ≤ 9218868437227405312) (hne : ¬ (ng = false ∧ k = 9218868437227405312))
    (H : R (.returned (.int .i64 (nxK ng k))) h) : Ent Tryz.prog B 94 #[.int .i64 (pat ng k)] R h := by
  refine F1044_ok _ (K54 ⟨_, rfl, ?_⟩)
  rw [wd_pat (by omega)]
  refine K185 (ng := false) rfl ⟨_, rfl, ?_⟩
  rw [wordN_f]
  have hw := wi_wd (nxK_I64 (ng := ng) hk)
  have hn : nrm (nxK ng k) = nxK ng k := by unfold nrm; rw [nxK_nan hk hne]; rfl
  rw [hn] at hw
  exact K1066 hk hne ⟨_, rfl, K56 hw ⟨_, rfl, H⟩⟩
/-- bits.Prev. -/
theorem K1043 {ng : Bool} {k : Nat} (hk : k ≤ 9218868437227405312) (hne : ¬ (ng = true ∧ k = 9218868437227405312))
    (H : R (.returned (.int .i64 (pvK ng k))) h) : Ent Tryz.prog B 95 #[.int .i64 (pat ng k)] R h := by
  refine F1043_ok _ (K99 (pat_I64 (by omega)) ⟨_, rfl, ?_⟩)
  rw [negP_pat hk]
  have hne2 : ¬ (((!ng) = false) ∧ k = 9218868437227405312) := fun e => hne ⟨by cases ng <;> simp at e ⊢, e.2⟩
  refine K1044 hk hne2 ⟨_, rfl, K99 (nxK_I64 hk) ⟨_, rfl, ?_⟩⟩
  have : negP (nxK (!ng) k) = pvK ng k := by
    unfold nxK pvK
    cases ng
    · simp only [Bool.not_false, if_true, Bool.false_eq_true, if_false]
      by_cases h0 : k = 0
      · rw [if_pos h0, if_pos h0]; decide
      · rw [if_neg h0, if_neg h0, negP_pat (by omega)]
        show ((k - 1 : Nat) : Int) = _
        omega
    · simp only [Bool.not_true, if_true, Bool.false_eq_true, if_false]
      have h2 : k ≠ 9218868437227405312 := fun e => hne ⟨rfl, e⟩
      rw [show (k : Int) + 1 = pat false (k + 1) from rfl, negP_pat (by omega)]
      rfl
  rw [this]; exact H
end Go.Proofs
