import Derived.Test.YtobkdplpkgikhaaGreatFmtA42
import Derived.Test.YtobkdplpkgikhaaGreatFmtA33
import Derived.Test.YtobkdplpkgikhaaGreatFmtA32
import Derived.Test.YtobkdplpkgikhaaGreatFmtA22
/- Here stand lemmas and contracts, in the order in which they are used. -/
set_option linter.unusedVariables false
set_option linter.unusedVariables false
namespace Go.Eng
open Go
theorem wd_pat {ng : Bool} {k : Nat} (hk : k < 9223372036854775808) : wd (pat ng k) = wordN ng k := by
  unfold wd pat wordN
  cases ng
  · simp only [Bool.false_eq_true, if_false]; omega
  · simp only [if_true]; omega
theorem pat_fM0 {ng : Bool} {k : Nat} (hk : k < 9223372036854775808) : fM (pat ng k) = 0 ↔ k = 0 := by
  unfold fM
  rw [pat_fE ng hk, pat_fT ng hk]
  split <;> omega
theorem pat_fin {ng : Bool} {k : Nat} (hk : k < 9218868437227405312) : isFin (pat ng k) = true := by
  unfold isFin
  rw [pat_fE ng (by omega)]
  exact decide_eq_true (by omega)
theorem rd_inf (ng : Bool) : Ieee.double.read (wordN ng 9218868437227405312) = .infinity ng := by cases ng <;> decide +kernel
theorem rd_num {ng : Bool} {k : Nat} (hk : k < 9218868437227405312) : Ieee.double.read (wordN ng k) = .number ng (fM (pat ng k)) (fX (pat ng k)) := by
  have h := read_wd (pat_I64 (neg := ng) (r := k) (by omega))
  rw [wd_pat (by omega), pat_fE ng (by omega), if_pos (by omega), pat_neg ng (by omega)] at h
  exact h
theorem ord_inf {ng : Bool} {k : Nat} (hk : k ≤ 9218868437227405312) (hne : ¬ (ng = false ∧ k = 9218868437227405312)) :
    FloatKind.f64.format.order (wordN ng k) 9218868437227405312 = some .lt ∧ FloatKind.f64.format.order 9218868437227405312 (wordN ng k) = some .gt := by
  have e0 : ∀ x y, FloatKind.f64.format.order x y = (Ieee.double.read x).order (Ieee.double.read y) := fun _ _ => rfl
  have ei : Ieee.double.read 9218868437227405312 = .infinity false := rd_inf false
  rw [e0, e0, ei]
  by_cases h : k = 9218868437227405312
  · subst h
    have : ng = true := by cases ng <;> simp at hne ⊢
    subst this
    rw [rd_inf]; exact ⟨rfl, rfl⟩
  · rw [rd_num (by omega)]; exact ⟨rfl, rfl⟩
theorem ord_zero {ng : Bool} {k : Nat} (hk : k ≤ 9218868437227405312) : FloatKind.f64.format.order (wordN ng k) 0 = some (if k = 0 then .eq else if ng then .lt else .gt) := by
  have e0 : ∀ x y, FloatKind.f64.format.order x y = (Ieee.double.read x).order (Ieee.double.read y) := fun _ _ => rfl
  have ei : Ieee.double.read 0 = .number false 0 (-1074) := by decide +kernel
  by_cases h : k = 9218868437227405312
  · subst h
    rw [e0, ei, rd_inf, if_neg (by decide)]
    cases ng <;> rfl
  · have h1 := Go.Proofs.order_full (pat_I64 (neg := ng) (r := k) (by omega)) (b := 0) (by unfold I64; omega) (pat_fin (by omega)) (by decide)
    rw [wd_pat (by omega), show wd 0 = 0 from rfl, show fV 0 = 0 from rfl] at h1
    rw [h1]
    have hv : fV (pat ng k) = if ng then -((fM (pat ng k) * 2 ^ (fX (pat ng k) + 1074).toNat : Nat) : Int) else ((fM (pat ng k) * 2 ^ (fX (pat ng k) + 1074).toNat : Nat) : Int) := by
      unfold fV
      rw [pat_neg ng (by omega)]
      unfold Ieee.signed
      rw [Nat.shiftLeft_eq]
    have hm := pat_fM0 (ng := ng) (k := k) (by omega)
    have hp : 0 < 2 ^ (fX (pat ng k) + 1074).toNat := Nat.pow_pos (by decide)
    rw [hv]
    unfold compareOfLessAndEq
    by_cases h0 : k = 0
    · rw [hm.2 h0, Nat.zero_mul, if_pos h0]
      cases ng <;> rfl
    · have : 0 < fM (pat ng k) * 2 ^ (fX (pat ng k) + 1074).toNat := Nat.mul_pos (by have : fM (pat ng k) ≠ 0 := fun e => h0 (hm.1 e); omega) hp
      rw [if_neg h0]
      generalize fM (pat ng k) * 2 ^ (fX (pat ng k) + 1074).toNat = z at *
      cases ng
      · simp only [Bool.false_eq_true, if_false]
        rw [if_neg (by omega), if_neg (by omega)]
      · simp only [if_true]
        rw [if_pos (by omega)]
/-- The pattern of the next float, and of the one before. -/
def nxK (ng : Bool) (k : Nat) : Int := if ng then (if k = 0 then 1 else pat true (k - 1)) else (k : Int) + 1
def pvK (ng : Bool) (k : Nat) : Int := if ng then pat true (k + 1) else (if k = 0 then pat true 1 else (k : Int) - 1)
theorem pat_f (k : Nat) : pat false k = (k : Int) := rfl
end Go.Eng
namespace Go.Proofs
open Go Go.Eng
variable {B : World} {R : Ending → Heap → Prop} {h : Heap}
theorem negP_pat {ng : Bool} {k : Nat} (hk : k ≤ 9218868437227405312) : negP (pat ng k) = pat (!ng) k := by
  unfold negP
  rw [pat_nan hk]
  unfold pat
  cases ng
  · simp only [Bool.false_eq_true, if_false, Bool.not_false, if_true]; rw [if_neg (by omega)]
  · simp only [Bool.false_eq_true, if_false, Bool.not_true, if_true]; rw [if_pos (by omega)]; omega
theorem K183 {w : Nat} {b : Bool} (hw : w < 18446744073709551616) (hb : isNaN (sg w) = b) (H : R (.returned (.bool b)) h) : Ent Tryz.prog B 76 #[.float .f64 w] R h := by
  refine F183_ok _ ?_
  have : (FloatKind.f64.format.order w w != some .eq) = isNaN (sg w) := order_self hw
  unfold F183
  rw [this, hb]; exact H
theorem copy1 : bitsI .or .u64 (bitsI .andNot .u64 ((1 : Nat) : Int) (9223372036854775808 : Int)) (bitsI .and .u64 ((9218868437227405312 : Nat) : Int) (9223372036854775808 : Int)) = ((1 : Nat) : Int) := by decide +kernel
/-- math.Nextafter towards infinity. -/
theorem K1066 {ng : Bool} {k : Nat} (hk : k ≤ 9218868437227405312) (hne : ¬ (ng = false ∧ k = 9218868437227405312))
    (H : R (.returned (.float .f64 (wd (nxK ng k)))) h) : Ent Tryz.prog B 129 #[.float .f64 (wordN ng k), .float .f64 9218868437227405312] R h := by
  have hw : wordN ng k < 18446744073709551616 := by unfold wordN; split <;> omega
  obtain ⟨o1, o2⟩ := ord_inf hk hne
  have o3 := ord_zero (ng := ng) hk
  refine F1066_ok _ _ (K183 (b := false) hw (by rw [wordN_sg (by omega)]; exact pat_nan hk) ⟨_, rfl, fun e => (by cases e), fun _ => K183 (b := false) (by omega) (by decide +kernel) ⟨_, rfl, ?_⟩⟩)
  refine ⟨fun e => (by cases e), fun _ => ?_⟩
  rw [o1, o2, o3]
  refine ⟨fun e => absurd e (by decide), fun _ => ⟨fun e => ?_, fun e => ⟨fun e2 => ?_, fun e2 => ?_⟩⟩⟩
  · have hk0 : k = 0 := by
      by_cases h0 : k = 0
      · exact h0
      · rw [if_neg h0] at e; cases ng <;> simp at e
    subst hk0
    refine E116 (n := 1) ⟨_, rfl, F137_ok _ _ (E117 ⟨_, rfl, E117 ⟨_, rfl, ?_⟩⟩)⟩
    rw [copy1]
    refine E116 ⟨_, rfl, _, rfl, ?_⟩
    have : nxK ng 0 = 1 := by cases ng <;> rfl
    rw [this] at H; exact H
  · have h0 : k ≠ 0 := fun h0 => by rw [if_pos h0] at e; simp at e
    have hng : ng = false := by
      rw [if_neg h0] at e2
      cases ng
      · rfl
      · simp at e2
    subst hng
    have hk2 : k < 9218868437227405312 := by
      rcases Nat.lt_or_ge k 9218868437227405312 with h | h
      · exact h
      · exact absurd ⟨rfl, by omega⟩ hne
    refine E117 ⟨_, rfl, ?_⟩
    rw [wordN_f, wrap_u64_in (by omega) (by omega)]
    refine E116 (n := k + 1) ⟨_, rfl, ?_⟩
    have : wd (nxK false k) = k + 1 := by unfold nxK wd; simp only [Bool.false_eq_true, if_false]; omega
    rw [this] at H; exact H
  · have h0 : k ≠ 0 := fun h0 => by rw [if_pos h0] at e; simp at e
    have hng : ng = true := by
      rw [if_neg h0] at e2
      cases ng
      · simp at e2
      · rfl
    subst hng
    refine E117 ⟨_, rfl, ?_⟩
    rw [wordN_t, wrap_u64_in (by omega) (by omega), show ((k + 9223372036854775808 : Nat) : Int) - 1 = ((k - 1 + 9223372036854775808 : Nat) : Int) by omega]
    refine E116 ⟨_, rfl, ?_⟩
    have : wd (nxK true k) = k - 1 + 9223372036854775808 := by unfold nxK; rw [if_pos rfl, if_neg h0, wd_pat (by omega), wordN_t]
    rw [this] at H; exact H
theorem nxK_I64 {ng : Bool} {k : Nat} (hk : k ≤ 9218868437227405312) : I64 (nxK ng k) := by
  unfold nxK I64 pat
  cases ng
  · simp only [Bool.false_eq_true, if_false]; omega
  · simp only [if_true]; split <;> omega
theorem nxK_nan {ng : Bool} {k : Nat} (hk : k ≤ 9218868437227405312) (hne : ¬ (ng = false ∧ k = 9218868437227405312)) : isNaN (nxK ng k) = false := by
  unfold nxK
  cases ng
  · simp only [Bool.false_eq_true, if_false]
    have h2 : k ≠ 9218868437227405312 := fun e => hne ⟨rfl, e⟩
    exact pat_nan (neg := false) (r := k + 1) (by omega)
  · simp only [if_true]
    split
    · decide
    · exact pat_nan (by omega)
/-- bits.Next. -/
theorem K1044 {ng : Bool} {k : Nat} (hk : k ≤ 9218868437227405312) (hne : ¬ (ng = false ∧ k = 9218868437227405312))
    (H : R (.returned (.int .i64 (nxK ng k))) h) : Ent Tryz.prog B 87 #[.int .i64 (pat ng k)] R h := by
  refine F1044_ok _ (K54 ⟨_, rfl, ?_⟩)
  rw [wd_pat (by omega)]
  refine K185 (ng := false) rfl ⟨_, rfl, ?_⟩
  rw [wordN_f]
  have hw := wi_wd (nxK_I64 (ng := ng) hk)
  have hn : nrm (nxK ng k) = nxK ng k := by unfold nrm; rw [nxK_nan hk hne]; rfl
  rw [hn] at hw
  exact K1066 hk hne ⟨_, rfl, K56 hw ⟨_, rfl, H⟩⟩
/-- bits.Prev. -/
theorem K1043 {ng : Bool} {k : Nat} (hk : k ≤ 9218868437227405312) (hne : ¬ (ng = true ∧ k = 9218868437227405312))
    (H : R (.returned (.int .i64 (pvK ng k))) h) : Ent Tryz.prog B 88 #[.int .i64 (pat ng k)] R h := by
  refine F1043_ok _ (K99 (pat_I64 (by omega)) ⟨_, rfl, ?_⟩)
  rw [negP_pat hk]
  have hne2 : ¬ (((!ng) = false) ∧ k = 9218868437227405312) := fun e => hne ⟨by cases ng <;> simp at e ⊢, e.2⟩
  refine K1044 hk hne2 ⟨_, rfl, K99 (nxK_I64 hk) ⟨_, rfl, ?_⟩⟩
  have : negP (nxK (!ng) k) = pvK ng k := by
    unfold nxK pvK
    cases ng
    · simp only [Bool.not_false, if_true, Bool.false_eq_true, if_false]
      by_cases h0 : k = 0
      · rw [if_pos h0, if_pos h0]; decide
      · rw [if_neg h0, if_neg h0, negP_pat (by omega)]
        show ((k - 1 : Nat) : Int) = _
        omega
    · simp only [Bool.not_true, if_true, Bool.false_eq_true, if_false]
      have h2 : k ≠ 9218868437227405312 := fun e => hne ⟨rfl, e⟩
      rw [show (k : Int) + 1 = pat false (k + 1) from rfl, negP_pat (by omega)]
      rfl
  rw [this]; exact H
end Go.Proofs
set_option linter.unusedVariables false
/-! Rounding does not ask how a number is written. -/
namespace Go.Eng
open Go
theorem two_ways {X X' a b : Nat} (ha : 0 < a) (hb : 0 < b) (h : X * b = X' * a) : X / a = X' / b ∧ X % a * b = X' % b * a := by
  constructor
  · rw [← Nat.mul_div_mul_right X a hb, h, Nat.mul_comm a b, Nat.mul_div_mul_right X' b ha]
  · rw [← Nat.mul_mod_mul_right b X a, h, Nat.mul_comm a b, Nat.mul_mod_mul_right a X' b]
theorem lastP_scale {m : Nat} (k : Nat) (e : Int) (hm : m ≠ 0) : lastP (m * 2 ^ k) e = lastP m (e + k) := by
  unfold lastP; rw [log2_scale k hm, show e + ((m.log2 + k : Nat) : Int) - 52 = e + (k : Int) + (m.log2 : Int) - 52 by omega]
theorem cut_scale {m : Nat} (k : Nat) (e : Int) (hm : m ≠ 0) : cutX (m * 2 ^ k) e * 2 ^ cutD m (e + k) = cutX m (e + k) * 2 ^ cutD (m * 2 ^ k) e := by
  unfold cutX cutD
  rw [lastP_scale k e hm]
  generalize lastP m (e + k) = L
  rw [Nat.mul_assoc, Nat.mul_assoc, Nat.mul_assoc, ← Nat.pow_add, ← Nat.pow_add, ← Nat.pow_add]
  congr 2
  omega
theorem form_scale {m : Nat} (k : Nat) (e : Int) (hm : m ≠ 0) : flo (m * 2 ^ k) e = flo m (e + k) ∧ odd (m * 2 ^ k) e = odd m (e + k) ∧ incN (m * 2 ^ k) e = incN m (e + k) := by
  have hc := cut_scale k e hm
  have hL := lastP_scale k e hm
  have p1 : 0 < 2 ^ cutD (m * 2 ^ k) e := Nat.pow_pos (by decide)
  have p2 : 0 < 2 ^ cutD m (e + k) := Nat.pow_pos (by decide)
  obtain ⟨h1, h2⟩ := two_ways p1 p2 hc
  unfold flo odd incN
  rw [hL, h1]
  generalize cutX (m * 2 ^ k) e = X at *
  generalize cutX m (e + k) = X' at *
  generalize 2 ^ cutD (m * 2 ^ k) e = a at *
  generalize 2 ^ cutD m (e + k) = b at *
  generalize X % a = x at *
  generalize X' % b = x' at *
  generalize X' / b = q at *
  have e1 : a < 2 * x ↔ b < 2 * x' := by
    rw [← Nat.mul_lt_mul_right (a := b) p2, ← Nat.mul_lt_mul_right (a := a) (b := b) p1, Nat.mul_assoc 2, Nat.mul_assoc 2, h2, Nat.mul_comm a b]
  have e2 : a = 2 * x ↔ b = 2 * x' := by
    rw [← Nat.mul_left_inj (a := b) (b := a) (c := 2 * x) (by omega), ← Nat.mul_left_inj (a := a) (b := b) (c := 2 * x') (by omega), Nat.mul_assoc 2, Nat.mul_assoc 2, h2, Nat.mul_comm a b]
  have e3 : x = 0 ↔ x' = 0 := by
    constructor
    · intro h; rw [h, Nat.zero_mul] at h2
      rcases Nat.mul_eq_zero.1 h2.symm with h | h
      · exact h
      · omega
    · intro h; rw [h, Nat.zero_mul] at h2
      rcases Nat.mul_eq_zero.1 h2 with h | h
      · exact h
      · omega
  refine ⟨rfl, ?_, ?_⟩
  · rw [decide_eq_decide]; exact not_congr e3
  · rw [decide_eq_decide, e1, e2]
theorem near_scale {m : Nat} (k : Nat) (e : Int) (hm : m ≠ 0) : upN (m * 2 ^ k) e = upN m (e + k) ∧ inxN (m * 2 ^ k) e = inxN m (e + k) := by
  obtain ⟨h1, h2, h3⟩ := form_scale k e hm
  unfold upN inxN
  rw [h1, h2, h3]; exact ⟨rfl, rfl⟩
theorem accN_scale {m : Nat} (k : Nat) (e : Int) (ng : Bool) (hm : m ≠ 0) : accN (m * 2 ^ k) e ng = accN m (e + k) ng := by
  obtain ⟨h1, h2⟩ := near_scale k e hm
  unfold accN
  rw [h1, h2]
theorem dirP_scale {m : Nat} (k : Nat) (e : Int) (w : Nat) (ng : Bool) (hm : m ≠ 0) : dirP w ng (m * 2 ^ k) e = dirP w ng m (e + k) := by
  obtain ⟨h1, h2, h3⟩ := form_scale k e hm
  have ha : awayW w ng (m * 2 ^ k) e = awayW w ng m (e + k) := by
    unfold awayW
    rw [h2, h3]
  unfold dirP idxW
  rw [h1, ha]
/-- A number m times 2^e in a way, and whether it is another number. -/
def dirV (w : Nat) (m e : Int) : Int := if m = 0 then 0 else pat (decide (m < 0)) (dirP w (decide (m < 0)) m.natAbs e)
def inxV (m e : Int) : Bool := if m = 0 then false else inxN m.natAbs e
theorem dirV_scale (w : Nat) (m e : Int) (k : Nat) : dirV w (m * 2 ^ k) e = dirV w m (e + k) ∧ inxV (m * 2 ^ k) e = inxV m (e + k) := by
  have hp : (0 : Int) < 2 ^ k := Int.pow_pos (by decide)
  unfold dirV inxV
  by_cases h : m = 0
  · subst h
    rw [Int.zero_mul, if_pos rfl, if_pos rfl, if_pos rfl, if_pos rfl]; exact ⟨rfl, rfl⟩
  · have h2 : m * 2 ^ k ≠ 0 := Int.mul_ne_zero h (by omega)
    have h3 : decide (m * 2 ^ k < 0) = decide (m < 0) := by
      rw [decide_eq_decide]
      constructor
      · intro hh
        rcases Int.lt_or_le m 0 with h | h
        · exact h
        · have := Int.mul_nonneg h (Int.le_of_lt hp); omega
      · intro hh; exact Int.mul_neg_of_neg_of_pos hh hp
    have h4 : (m * 2 ^ k).natAbs = m.natAbs * 2 ^ k := by rw [Int.natAbs_mul, Int.natAbs_pow, show (2 : Int).natAbs = 2 from rfl]
    rw [if_neg h, if_neg h, if_neg h2, if_neg h2, h3, h4, dirP_scale k e w _ (by omega), (near_scale k e (by omega)).2]
    exact ⟨rfl, rfl⟩
/-- The nearest one, turned. -/
def turnK (w : Nat) (ng : Bool) (r : Nat) (above : Bool) : Int :=
  match w with
  | 0 => pat ng r
  | 1 => if above then pvK ng r else pat ng r
  | 2 => if above then pat ng r else nxK ng r
  | _ => if ng then (if above then pat ng r else nxK ng r) else (if above then pvK ng r else pat ng r)
theorem up_pos {m : Nat} {e : Int} (h : upN m e = true) : 0 < rung m e := by
  have hr := rung_idx m e false
  unfold idxW at hr
  rw [show awayW 0 false m e = incN m e from rfl] at hr
  have hI : 0 < INF := by decide
  unfold upN at h
  rw [Bool.or_eq_true, decide_eq_true_eq] at h
  generalize INF = J at *
  rcases h with h | h
  · rw [h] at hr
    have : true.toNat = 1 := rfl
    omega
  · omega
theorem down_lt {m : Nat} {e : Int} (h : upN m e = false) : rung m e < INF := by
  have hr := rung_idx m e false
  unfold idxW at hr
  rw [show awayW 0 false m e = incN m e from rfl] at hr
  unfold upN at h
  rw [Bool.or_eq_false_iff, decide_eq_false_iff_not] at h
  rw [h.1] at hr
  have : false.toNat = 0 := rfl
  generalize INF = J at *
  omega
theorem turn_dir (w : Nat) (ng : Bool) (m : Nat) (e : Int) (hi : inxN m e = true) : turnK w ng (rung m e) (upN m e != ng) = pat ng (dirP w ng m e) := by
  have hd := dir_near w ng m e
  rw [hi, if_neg (by decide)] at hd
  rw [hd]
  clear hd
  have hu := @up_pos m e
  generalize rung m e = r at *
  cases hupN : upN m e
  · have n2 : nxK false r = pat false (r + 1) := by
      unfold nxK; rw [if_neg (by decide), pat_f]; omega
    have p2 : pvK true r = pat true (r + 1) := by unfold pvK; rw [if_pos rfl]
    match w with
    | 0 => simp [turnK]
    | 1 => cases ng <;> simp [turnK, p2]
    | 2 => cases ng <;> simp [turnK, n2]
    | n + 3 => cases ng <;> simp [turnK]
  · have h0 := hu hupN
    have n1 : nxK true r = pat true (r - 1) := by unfold nxK; rw [if_pos rfl, if_neg (by omega)]
    have p1 : pvK false r = pat false (r - 1) := by
      unfold pvK; rw [if_neg (by decide), if_neg (by omega), pat_f]; omega
    match w with
    | 0 => simp [turnK]
    | 1 => cases ng <;> simp [turnK, p1]
    | 2 => cases ng <;> simp [turnK, n1]
    | n + 3 => cases ng <;> simp [turnK, n1, p1]
end Go.Eng
set_option linter.unusedVariables false
namespace Go.Eng
open Go
theorem cls_zero {ng : Bool} {k : Nat} (hk : k ≤ 9218868437227405312) : cls (pat ng k) = 0 ↔ k = 0 := by
  unfold cls
  rw [pat_fE ng (by omega), pat_fT ng (by omega)]
  constructor
  · intro h
    repeat' (split at h)
    all_goals (first | (exact absurd h (by decide)) | skip)
    rename_i h1 h2 h3 h4
    omega
  · intro h
    subst h; rfl
end Go.Eng
namespace Go.Proofs
open Go Go.Eng
variable {B : World} {R : Ending → Heap → Prop} {h : Heap}
/-- round.signed. -/
theorem K1082 {ng : Bool} {k : Nat} (hk : k ≤ 9218868437227405312) (H : R (.returned (.int .i64 (pat ng k))) h) : Ent Tryz.prog B 89 #[.int .i64 (pat ng k), .bool ng] R h := by
  refine F1082_ok _ _ (K17 ⟨_, rfl, fun e => H, fun e => ?_⟩)
  have h0 : k = 0 := by
    have : cls (pat ng k) = 0 := by simpa using e
    exact (cls_zero hk).1 this
  subst h0
  refine ⟨fun e2 => ?_, fun e2 => ?_⟩
  · subst e2
    exact K99 (by unfold I64; omega) ⟨_, rfl, H⟩
  · subst e2; exact H
/-- SetInt of 0. -/
theorem K1079z {rf r qx : Nat} (F : Flt h rf 0 0 0 false none 0 0 0) (hx : IntAt h r qx 0) (hr : rf ≠ r)
    (H : ∀ h', Fr (fun x => x = rf) h h' → Flt h' rf 64 0 0 false none 0 0 0 → R (.returned (.pointer (some ⟨rf, 0, none⟩))) h') :
    Ent Tryz.prog B 83 #[.pointer (some ⟨rf, 0, none⟩), .pointer (some ⟨r, 0, none⟩)] R h := by
  obtain ⟨p, n, c, h1, h2, h3, h4⟩ := hx.ex
  have hz := h2.zero
  have hn0 : n = 0 := by rw [hz]; rfl
  subst hn0
  refine F1079_ok _ _ (K124 hx ⟨_, rfl, F.p0 ⟨fun _ => F.sp0 fun g1 F1 f1 => ?_, fun e => by simp at e⟩⟩)
  rw [show IntKind.u32.wrap (bl (0 : Int).natAbs : Int) = 0 by decide, if_max] at F1
  have X1 : Own g1 r _ := h1.fr f1 (fun e => hr e.symm)
  refine F1.sac fun g2 F2 f2 => ?_
  have X2 : Own g2 r _ := X1.fr f2 (fun e => hr e.symm)
  refine ldB X2 (F2.sng fun g3 F3 f3 => ?_)
  have X3 : Own g3 r _ := X2.fr f3 (fun e => hr e.symm)
  have f13 : Fr (fun x => x = rf) h g3 := Fr.trans (Fr.trans f1 f2 fun _ _ e => e) f3 fun _ _ e => e
  refine ldS X3 ⟨fun _ => F3.sfo fun g4 F4 f4 => ?_, fun e => by simp at e⟩
  exact H g4 (Fr.trans f13 f4 fun _ _ e => e) F4
theorem K1080z {r : Nat} {e : Int} (F : Flt h r 64 0 0 false none 0 0 0) (H : R (.returned (.pointer (some ⟨r, 0, none⟩))) h) :
    Ent Tryz.prog B 84 #[.pointer (some ⟨r, 0, none⟩), .pointer (some ⟨r, 0, none⟩), .int .i64 e] R h := by
  have hcopy : Ent Tryz.prog B 125 #[.pointer (some ⟨r, 0, none⟩), .pointer (some ⟨r, 0, none⟩)] (fun en h' => en = .returned (.pointer (some ⟨r, 0, none⟩)) ∧ h' = h) h :=
    F1096_ok _ _ ⟨fun e => (by cases e), fun _ => .inr (.inr ⟨_, _, _, _, rfl, rfl, .inl ⟨rfl, ⟨fun e => by simp at e, fun _ => ⟨rfl, rfl⟩⟩⟩⟩)⟩
  refine F1080_ok _ _ _ ⟨fun e => (by cases e), fun _ => hcopy.mono fun en h' hh => ?_⟩
  obtain ⟨rfl, rfl⟩ := hh
  exact ⟨_, rfl, F.lfo ⟨fun e => by simp at e, fun _ => H⟩⟩
theorem K1081z {r : Nat} (F : Flt h r 64 0 0 false none 0 0 0) (H : R (.returned (.tuple #[.float .f64 0, .int .i8 (0 : Int)])) h) :
    Ent Tryz.prog B 85 #[.pointer (some ⟨r, 0, none⟩)] R h :=
  F1081_ok _ ⟨fun e => (by cases e), fun _ => F.lfo ⟨fun e => by simp at e, fun _ => ⟨fun _ => F.lng ⟨fun e => (by cases e), fun _ => H⟩, fun e => by simp at e⟩⟩⟩
/-- number.stuck, of what is all there. -/
theorem K1078 {r q : Nat} {m e : Int} (hx : IntAt h r q m) (hb : bl m.natAbs ≤ 1000000) (he : -4611686018427387904 ≤ e) (he2 : e ≤ 4611686018427387904)
    (H : ∀ r' q' h', Ext h h' → h.size ≤ r' → IntAt h' r' q' (m * 2) → R (.returned (.agg #[.pointer (some ⟨r', 0, none⟩), .int .i64 (e - 1), .bool false])) h') :
    Ent Tryz.prog B 82 #[.agg #[.pointer (some ⟨r, 0, none⟩), .int .i64 e, .bool false]] R h := by
  refine F1078_ok _ _ _ ?_
  refine alK fun r1 h1 e1 f1 o1 z1 => ?_
  refine alK fun r2 h2 e2 f2 o2 z2 => ?_
  refine alK fun r3 h3 e3 f3 o3 z3 => ?_
  have X3 := ((hx.ext f1).ext f2).ext f3
  have O1 := (o1.ext f2).ext f3
  have O2 := o2.ext f3
  have lr := hx.lt
  have fx := Ext.trans (Ext.trans f1 f2) f3
  refine ⟨r1, 0, rfl, r1, 0, rfl, _, O1.cell _, ?_⟩
  refine K128f (s := 1) o3 X3 (by omega) hb (by omega) fun q4 h4 f4 d4 I4 => ⟨_, rfl, ?_⟩
  rw [show m * 2 ^ 1 = m * 2 by rw [Int.pow_succ, Int.pow_zero, Int.one_mul]] at I4
  have n4 : ∀ x, x ≠ r3 → ¬ (x = r3 ∨ False) := fun x a b => b.elim a id
  have O1' := O1.fr f4 (n4 _ (by omega))
  have O2' := O2.fr f4 (n4 _ (by omega))
  refine ⟨r1, 0, rfl, r1, 0 + 2, rfl, _, O1'.cell _, fun e => (by cases e), fun _ => ⟨r1, 0, rfl, r1, 0 + 1, rfl, _, O1'.cell _, r1, 0, rfl, r1, 0 + 2, rfl, _, O1'.cell _, ?_⟩⟩
  rw [i64_in (x := e - 1) (by omega) (by omega)]
  have s4 := f4.size
  refine ⟨r2, 0, rfl, O2'.stC (by simp) rfl fun oa fa => oa.stC (by simp) rfl fun ob fb => ob.stC (by simp) rfl fun oc fc => ⟨r2, 0, rfl, _, oc.cell _, _, oc.cell _, _, oc.cell _, ?_⟩⟩
  have fabc := Fr.trans (S := fun x => x = r2) (Fr.trans (S := fun x => x = r2) fa fb fun _ _ e => e) fc fun _ _ e => e
  have F : Ext h h4 := Fr.trans fx f4 fun x hx e => n4 x (by omega) e
  refine H r3 q4 _ (Fr.trans F fabc fun x hx e => by omega) (by omega) (I4.fr fabc (by omega) ?_)
  rcases d4 with e | e | e
  · omega
  · exact e.elim
  · omega
end Go.Proofs
set_option linter.unusedVariables false
namespace Go.Proofs
open Go Go.Eng
variable {B : World} {R : Ending → Heap → Prop} {h : Heap}
/-- The function value of a way (0 near, 1 down, 2 up, 3 to 0). -/
def WayV (h : Heap) (w : Nat) (v : Value) : Prop :=
  match w with
  | 0 => v = .func (.func 150) #[] #[]
  | 1 => v = .func (.func 148) #[] #[]
  | 2 => v = .func (.func 149) #[] #[]
  | _ => ∃ p1 p2, v = .func (.func 151) #[] #[.pointer (some ⟨p1, 0, none⟩), .pointer (some ⟨p2, 0, none⟩)] ∧ Own h p1 #[.func (.func 149) #[] #[]] ∧ Own h p2 #[.func (.func 148) #[] #[]]
theorem WayV.ext {h h' : Heap} {w : Nat} {v : Value} (H : WayV h w v) (f : Ext h h') : WayV h' w v := by
  unfold WayV at *
  split at H
  · exact H
  · exact H
  · exact H
  · obtain ⟨p1, p2, e, o1, o2⟩ := H
    exact ⟨p1, p2, e, o1.ext f, o2.ext f⟩
theorem ev0 {f : Nat} {args : Array Value} (H : Ent Tryz.prog B f args R h) : EntV Tryz.prog B (.func (.func f) #[] #[]) args R h := by
  unfold EntV
  simp only [Array.empty_append, Array.append_empty]
  exact H
theorem ev2 {f : Nat} {a b c d e p q : Value} (H : Ent Tryz.prog B f #[a, b, c, d, e, p, q] R h) : EntV Tryz.prog B (.func (.func f) #[] #[p, q]) #[a, b, c, d, e] R h := by
  unfold EntV
  exact H
theorem K1104 {ng above : Bool} {r : Nat} (hr : r ≤ 9218868437227405312) (h1 : above = true → ¬ (ng = true ∧ r = 9218868437227405312))
    (H : R (.returned (.int .i64 (turnK 1 ng r above))) h) : Ent Tryz.prog B 148 #[.int .i64 (pat ng r), .bool ng, .bool above, .func (.func 87) #[] #[], .func (.func 88) #[] #[]] R h := by
  refine F1104_ok _ _ _ _ _ ⟨fun e => ?_, fun e => ?_⟩
  · subst e
    exact ev0 (K1043 hr (h1 rfl) ⟨_, rfl, H⟩)
  · subst e; exact H
theorem K1105 {ng above : Bool} {r : Nat} (hr : r ≤ 9218868437227405312) (h2 : above = false → ¬ (ng = false ∧ r = 9218868437227405312))
    (H : R (.returned (.int .i64 (turnK 2 ng r above))) h) : Ent Tryz.prog B 149 #[.int .i64 (pat ng r), .bool ng, .bool above, .func (.func 87) #[] #[], .func (.func 88) #[] #[]] R h := by
  refine F1105_ok _ _ _ _ _ ⟨fun e => ?_, fun e => ?_⟩
  · subst e; exact H
  · subst e
    exact ev0 (K1044 hr (h2 rfl) ⟨_, rfl, H⟩)
theorem kturn {w : Nat} {wv : Value} {ng above : Bool} {r : Nat} (hw : WayV h w wv) (hr : r ≤ 9218868437227405312) (h1 : above = true → ¬ (ng = true ∧ r = 9218868437227405312))
    (h2 : above = false → ¬ (ng = false ∧ r = 9218868437227405312)) (H : R (.returned (.int .i64 (turnK w ng r above))) h) :
    EntV Tryz.prog B wv #[.int .i64 (pat ng r), .bool ng, .bool above, .func (.func 87) #[] #[], .func (.func 88) #[] #[]] R h := by
  unfold WayV at hw
  match w with
  | 0 => rw [hw]; exact ev0 (F1106_ok _ _ _ _ _ H)
  | 1 => rw [hw]; exact ev0 (K1104 hr h1 H)
  | 2 => rw [hw]; exact ev0 (K1105 hr h2 H)
  | n + 3 =>
    obtain ⟨p1, p2, e, o1, o2⟩ := hw
    rw [e]
    refine ev2 (F1107_ok _ _ _ _ _ _ _ ⟨fun e => ?_, fun e => ?_⟩)
    · subst e
      exact ⟨p1, 0, rfl, _, o1.cell _, ev0 (K1105 hr h2 ⟨_, rfl, H⟩)⟩
    · subst e
      exact ⟨p2, 0, rfl, _, o2.cell _, ev0 (K1104 hr h1 ⟨_, rfl, H⟩)⟩
theorem accN_ne (m : Nat) (e : Int) (ng : Bool) : (!decide (accN m e ng = 0)) = inxN m e := by
  unfold accN
  cases inxN m e
  · simp
  · simp only [if_true]; split <;> rfl
theorem accN_one {m : Nat} {e : Int} {ng : Bool} (hi : inxN m e = true) : decide (accN m e ng = 1) = (upN m e != ng) := by
  unfold accN
  rw [hi]
  cases (upN m e != ng) <;> rfl
theorem clamp_in {v : Int} (h1 : -4194304 ≤ v) (h2 : v ≤ 4194304) : (if (4194304 : Int) < (if (-4194304 : Int) > v then (-4194304 : Int) else v) then (4194304 : Int) else (if (-4194304 : Int) > v then (-4194304 : Int) else v)) = v := by
  rw [if_neg (show ¬ (-4194304 : Int) > v by omega), if_neg (by omega)]
theorem pat_wi (ng : Bool) {k : Nat} (hk : k ≤ 9218868437227405312) : WI (wordN ng k) (pat ng k) := by
  have := wi_wd (pat_I64 (neg := ng) (r := k) (by omega))
  have hn : nrm (pat ng k) = pat ng k := by unfold nrm; rw [pat_nan hk]; rfl
  rwa [hn, wd_pat (by omega)] at this
theorem rung_le (m : Nat) (e : Int) : rung m e ≤ 9218868437227405312 := Nat.min_le_right _ _
/-- What the float tells. -/
theorem told_scale {a e : Int} {n : Nat} (ha : a ≠ 0) (hn : bl a.natAbs ≤ 64 * n) (ng : Bool) :
    rung (a.natAbs * 2 ^ (64 * n - bl a.natAbs)) ((bl a.natAbs : Int) + e - 64 * n) = rung a.natAbs e ∧ accN (a.natAbs * 2 ^ (64 * n - bl a.natAbs)) ((bl a.natAbs : Int) + e - 64 * n) ng = accN a.natAbs e ng := by
  have he : (bl a.natAbs : Int) + e - 64 * n + ((64 * n - bl a.natAbs : Nat) : Int) = e := by omega
  rw [rung_scale _ _ (by omega), accN_scale _ _ _ (by omega), he]
  exact ⟨rfl, rfl⟩
theorem dirV_zero (w : Nat) (e : Int) : dirV w 0 e = 0 := by unfold dirV; rw [if_pos rfl]
theorem inxV_zero (e : Int) : inxV 0 e = false := by unfold inxV; rw [if_pos rfl]
theorem wi_zero : WI 0 0 := ⟨by decide, by decide +kernel⟩
theorem n_mod (a b n : Nat) : (a * 2 ^ (64 * n - b)) % 2 ^ (64 * (n : Int) - max (b : Int) 64).toNat = 0 := by
  have : 64 * n - b = (64 * (n : Int) - max (b : Int) 64).toNat + (64 * n - b - (64 * (n : Int) - max (b : Int) 64).toNat) := by omega
  rw [this, Nat.pow_add, Nat.mul_left_comm, Nat.mul_mod_right]
/-- number.to, of what is all there. -/
theorem K1057 {r q w : Nat} {m e : Int} {wv : Value} (hw : WayV h w wv) (hone : oneCell wv = true) (hx : IntAt h r q m) (hb : bl m.natAbs ≤ 900000) (he : -4000000 ≤ e) (he2 : e ≤ 4000000)
    (H : ∀ h', Ext h h' → R (.returned (.tuple #[.int .i64 (dirV w m e), .bool (inxV m e)])) h') :
    Ent Tryz.prog B 51 #[.agg #[.pointer (some ⟨r, 0, none⟩), .int .i64 e, .bool false], .agg #[wv]] R h := by
  refine F1057_ok _ _ _ _ (alK fun r1 h1 e1 f1 o1 z1 => alK fun r2 h2 e2 f2 o2 z2 => ?_)
  have X2 := (hx.ext f1).ext f2
  have O1 := o1.ext f2
  refine ⟨r1, 0, rfl, _, O1.cell _, _, O1.cell _, _, O1.cell _, K1078 X2 (by omega) (by omega) (by omega) fun r3 q3 h3 f3 l3 X3 => ⟨_, _, _, rfl, ?_⟩⟩
  refine alK fun r4 h4 e4 f4 o4 z4 => ⟨r4, 0, rfl, o4.stC (by simp) rfl fun oa fa => oa.stC (by simp) rfl fun ob fb => ob.stC (by simp) rfl fun O4 fc => ?_⟩
  have fabc := Fr.trans (S := fun x => x = r4) (Fr.trans (S := fun x => x = r4) fa fb fun _ _ e => e) fc fun _ _ e => e
  generalize setCell (setCell (setCell h4 _ _) _ _) _ _ = h5 at *
  have O4 : Own h5 r4 #[.pointer (some ⟨r3, 0, none⟩), .int .i64 (e - 1), .bool false] := O4
  have F5 : Ext h h5 := Fr.trans (Ext.trans (Ext.trans (Ext.trans f1 f2) f3) f4) fabc fun x hx e => by have := f3.size; omega
  have G5 : Ext h2 h5 := Fr.trans (Ext.trans f3 f4) fabc fun x hx e => by have := f3.size; omega
  have G35 : Ext h3 h5 := Fr.trans f4 fabc fun x hx e => by omega
  have X5 := X3.ext G35
  refine alK fun r6 h6 e6 f6 o6 z6 => ⟨r4, 0, rfl, r4, 0, rfl, _, (O4.ext f6).cell _, ?_⟩
  have Z6 : Flt h6 r6 0 0 0 false none 0 0 0 := o6
  have X6 := X5.ext f6
  have lx := X5.lt
  have lq := X5.lq
  have lo4 := O4.lt
  have F6 := Ext.trans F5 f6
  obtain ⟨ds1, ds2⟩ := dirV_scale w m (e - 1) 1
  rw [show e - 1 + ((1 : Nat) : Int) = e by omega, Int.pow_succ, Int.pow_zero, Int.one_mul] at ds1 ds2
  rw [← ds1, ← ds2] at H
  have hba : bl (m * 2).natAbs ≤ 900001 := by
    by_cases h0 : m.natAbs = 0
    · have : m = 0 := by omega
      subst this; decide
    · have := bl_scale (m := m.natAbs) 1 h0
      rw [Int.natAbs_mul, show (2 : Int).natAbs = 2 ^ 1 from rfl, this]; omega
  clear ds1 ds2 hx hb X2 X3
  generalize m * 2 = a at *
  have hclamp : (if (4194304 : Int) < (if (-4194304 : Int) > e - 1 then (-4194304 : Int) else e - 1) then (4194304 : Int) else (if (-4194304 : Int) > e - 1 then (-4194304 : Int) else e - 1)) = e - 1 := clamp_in (by omega) (by omega)
  have he1 : -4000001 ≤ e - 1 := by omega
  have he3 : e - 1 ≤ 4000000 := by omega
  clear he he2
  generalize e - 1 = e' at *
  by_cases ha : a = 0
  · subst ha
    refine K1079z Z6 X6 (by omega) fun h7 f7 Z7 => ⟨_, rfl, r4, 0, rfl, r4, 0 + 1, rfl, _, ((O4.ext f6).fr f7 (by omega)).cell _, K1080z Z7 ⟨_, rfl, K1081z Z7 ⟨_, _, rfl, ?_⟩⟩⟩
    have O1' : Own h7 r1 _ := ((O1.ext G5).ext f6).fr f7 (by have := f2.size; have := f3.size; omega)
    have HH := H h7 (Fr.trans F6 f7 fun x hx e => by have := F5.size; omega)
    rw [dirV_zero, inxV_zero] at HH
    exact K56 wi_zero ⟨_, rfl, fun e => (by cases e), fun _ => ⟨fun e => (by cases e), fun _ => ⟨r1, 0, rfl, r1, 0 + 2, rfl, _, O1'.cell _, HH⟩⟩⟩
  · refine K1079 Z6 X6 (by omega) (by omega) ha (by omega) fun q n h7 f7 l7 hn1 hn2 hn3 V7 => ⟨_, rfl, r4, 0, rfl, r4, 0 + 1, rfl, _, ((O4.ext f6).fr f7 (by omega)).cell _, ?_⟩
    rw [hclamp]
    have hp := bl_pos (v := a.natAbs) (by omega)
    refine K1080 V7 (by omega) (by omega) (by omega) (n_mod _ _ _) (by omega) (by omega) (by omega) (by omega) (by omega) (by omega) fun h8 V8 f8 => ⟨_, rfl, ?_⟩
    refine K1081 V8 (by omega) (by omega) (by omega) (by omega) fun h9 f9 => ⟨_, _, rfl, ?_⟩
    obtain ⟨t1, t2⟩ := told_scale (e := e') ha hn1 (decide (a < 0))
    rw [t1, t2]
    clear V7 V8 t1 t2
    have n7 : ∀ x, x < h6.size → x ≠ r6 → ¬ (x = r6 ∨ x = q) := fun x a b c => by omega
    have s7 := f7.size
    have kp : ∀ {x : Nat} {cs : Array Value}, Own h6 x cs → x ≠ r6 → Own h9 x cs := fun o hx => ((o.fr f7 hx).fr f8 (n7 _ o.lt hx)).ext f9
    have E9 : Ext h h9 := Fr.trans (Fr.trans (Fr.trans F6 f7 fun x hx e => by have := F5.size; omega) f8 fun x hx e => by have := F5.size; omega) f9 fun x hx e => e
    have HH := H _ E9
    unfold dirV inxV at HH
    rw [if_neg ha, if_neg ha] at HH
    have O2' : Own h9 r2 #[wv] := kp ((o2.ext G5).ext f6) (by have := f3.size; omega)
    have O4' := kp (O4.ext f6) (by omega)
    have O1' := kp ((O1.ext G5).ext f6) (by have := f3.size; omega)
    have X9 : IntAt h9 r3 q3 a := ((X6.fr f7 (by omega) (by omega)).fr f8 (n7 _ (by omega) (by omega)) (n7 _ (by omega) (by omega))).ext f9
    have W9 := hw.ext E9
    have hsg : decide (a.sign < 0) = decide (a < 0) := by rw [decide_eq_decide]; exact Int.sign_neg_iff
    clear kp n7 f7 f8 f9 f6 f1 f2 f3 f4 fa fb fc fabc H hclamp G5 G35 F5 F6
    generalize hng : decide (a < 0) = ng at *
    have hup := @up_pos a.natAbs e'
    have hdn := @down_lt a.natAbs e'
    refine K56 (pat_wi ng (rung_le _ _)) ⟨_, rfl, fun e => ?_, fun e => ?_⟩
    · rw [accN_ne] at e
      refine ⟨r2, 0, rfl, r2, 0, rfl, _, O2'.cell _, r4, 0, rfl, r4, 0, rfl, _, O4'.cell _, K75 X9 ⟨_, rfl, same1 (S := fun _ => False) O2' Fr.rfl' id, ?_⟩⟩
      rw [hsg, accN_one e]
      refine kturn W9 (rung_le _ _) (fun e1 e2 => ?_) (fun e1 e2 => ?_) ⟨_, rfl, r4, 0, rfl, r4, 0, rfl, _, O4'.cell _, K75 X9 ⟨_, rfl, ?_⟩⟩
      · rw [e2.1] at e1
        have : upN a.natAbs e' = false := by cases h : upN a.natAbs e' <;> rw [h] at e1 <;> simp at e1 ⊢
        have := hdn this
        exact absurd e2.2 (Nat.ne_of_lt this)
      · rw [e2.1] at e1
        have : upN a.natAbs e' = false := by cases h : upN a.natAbs e' <;> rw [h] at e1 <;> simp at e1 ⊢
        have := hdn this
        exact absurd e2.2 (Nat.ne_of_lt this)
      · rw [hsg, turn_dir w ng a.natAbs e' e]
        refine K1082 (dirP_le _ _ _ _) ⟨_, rfl, fun e1 => ?_, fun e1 => ?_⟩
        · rw [e] at HH; exact HH
        · rw [accN_ne, e] at e1; cases e1
    · rw [accN_ne] at e
      refine ⟨fun e1 => (by rw [accN_ne, e] at e1; cases e1), fun e1 => ⟨r1, 0, rfl, r1, 0 + 2, rfl, _, O1'.cell _, ?_⟩⟩
      have hd := dir_near w ng a.natAbs e'
      rw [if_pos e] at hd
      rw [hd, e] at HH
      exact HH
end Go.Proofs
