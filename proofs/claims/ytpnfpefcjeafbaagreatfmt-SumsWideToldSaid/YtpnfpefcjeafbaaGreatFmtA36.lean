import Derived.Test.YtpnfpefcjeafbaaGreatFmtA27
import Derived.Test.YtpnfpefcjeafbaaGreatFmtA34
import Derived.Test.YtpnfpefcjeafbaaGreatFmtA31
import Derived.Test.YtpnfpefcjeafbaaGreatFmtA32
import Derived.Test.YtpnfpefcjeafbaaGreatFmtA35
import Derived.Test.YtpnfpefcjeafbaaGreatFmtA22
/- Here stand lemmas and contracts, in the order in which they are used. -/
set_option linter.unusedVariables false
set_option linter.unusedVariables false
/-! binary32: words, order, neighbours. -/
namespace Go.Eng
open Go
/-- The word of a sign and a rung. -/
def W32 (ng : Bool) (k : Nat) : Nat := if ng then k + 2147483648 else k
theorem W32_f (k : Nat) : W32 false k = k := rfl
theorem W32_t (k : Nat) : W32 true k = k + 2147483648 := rfl
theorem W32_lt {ng : Bool} {k : Nat} (h : k < 2147483648) : W32 ng k < 4294967296 := by cases ng <;> simp only [W32_f, W32_t] <;> omega
def m32 (k : Nat) : Nat := if k < 8388608 then k else 8388608 + k % 8388608
def e32 (k : Nat) : Int := if k < 8388608 then -149 else -149 + ((k / 8388608 - 1 : Nat) : Int)
theorem read32_eq (w : Nat) : FloatKind.f32.decode w = if w % 2147483648 < 8388608 then .number (w / 2147483648 % 2 == 1) (w % 2147483648) (-149) else if w % 2147483648 < 2139095040 then .number (w / 2147483648 % 2 == 1) (8388608 + w % 2147483648 % 8388608) (-149 + ((w % 2147483648 / 8388608 - 1 : Nat) : Int)) else if w % 2147483648 = 2139095040 then .infinity (w / 2147483648 % 2 == 1) else .nan (w / 2147483648 % 2 == 1) (w % 2147483648 - 2139095040) := rfl
theorem W32_parts {ng : Bool} {k : Nat} (h : k < 2147483648) : W32 ng k % 2147483648 = k ∧ (W32 ng k / 2147483648 % 2 == 1) = ng := by
  cases ng
  · rw [W32_f, show k / 2147483648 % 2 = 0 by omega]; exact ⟨by omega, rfl⟩
  · rw [W32_t, show (k + 2147483648) / 2147483648 % 2 = 1 by omega]; exact ⟨by omega, rfl⟩
theorem read32 {ng : Bool} {k : Nat} (hk : k < 2139095040) : FloatKind.f32.decode (W32 ng k) = .number ng (m32 k) (e32 k) := by
  obtain ⟨h1, h2⟩ := W32_parts (ng := ng) (show k < 2147483648 by omega)
  rw [read32_eq, h1, h2]
  unfold m32 e32
  by_cases h : k < 8388608
  · rw [if_pos h, if_pos h, if_pos h]
  · rw [if_neg h, if_neg h, if_neg h, if_pos hk]
theorem read32_inf {ng : Bool} : FloatKind.f32.decode (W32 ng 2139095040) = .infinity ng := by
  obtain ⟨h1, h2⟩ := W32_parts (ng := ng) (show 2139095040 < 2147483648 by omega)
  rw [read32_eq, h1, h2, if_neg (by decide), if_neg (by decide), if_pos rfl]
theorem ord32 (a b : Nat) : FloatKind.f32.format.order a b = (FloatKind.f32.decode a).order (FloatKind.f32.decode b) := rfl
theorem m32_pos {k : Nat} (h : k ≠ 0) : 0 < m32 k := by unfold m32; split <;> omega
theorem m32_zero : m32 0 = 0 := rfl
theorem m32_lt (k : Nat) : m32 k < 16777216 := by unfold m32; split <;> omega
theorem e32_bd {k : Nat} (h : k < 2139095040) : -149 ≤ e32 k ∧ e32 k ≤ 104 := by unfold e32; split <;> omega
theorem ord32_self {ng : Bool} {k : Nat} (hk : k ≤ 2139095040) : FloatKind.f32.format.order (W32 ng k) (W32 ng k) = some .eq := by
  rw [ord32]
  by_cases h : k = 2139095040
  · subst h; rw [read32_inf]; cases ng <;> rfl
  · rw [read32 (by omega)]
    simp [Ieee.Datum.order]
theorem ord32_zero {ng : Bool} {k : Nat} (hk : k ≤ 2139095040) : FloatKind.f32.format.order (W32 ng k) 0 = some (if k = 0 then .eq else if ng then .lt else .gt) := by
  rw [ord32, show FloatKind.f32.decode 0 = .number false 0 (-149) from rfl]
  by_cases h : k = 2139095040
  · subst h; rw [read32_inf]; cases ng <;> rfl
  · have hk2 : k < 2139095040 := by omega
    rw [read32 hk2]
    have he := (e32_bd hk2).1
    simp only [Ieee.Datum.order]
    rw [show min (e32 k) (-149) = -149 by omega]
    have h0 : Ieee.signed false 0 ((-149 : Int) - -149).toNat = 0 := rfl
    rw [h0, signed_nat]
    generalize (e32 k - -149).toNat = u
    by_cases hz : k = 0
    · subst hz
      rw [m32_zero, Nat.zero_mul, if_pos rfl]
      cases ng <;> rfl
    · have hm := m32_pos hz
      have hp : 0 < m32 k * 2 ^ u := Nat.mul_pos hm (Nat.pow_pos (by decide))
      generalize m32 k * 2 ^ u = x at *
      rw [if_neg hz]
      cases ng
      · rw [if_neg (by decide), if_neg (by decide)]
        congr 1
        show compareOfLessAndEq ((x : Nat) : Int) 0 = _
        unfold compareOfLessAndEq
        rw [if_neg (by omega), if_neg (by omega)]
      · rw [if_pos rfl, if_pos rfl]
        congr 1
        show compareOfLessAndEq (-((x : Nat) : Int)) 0 = _
        unfold compareOfLessAndEq
        rw [if_pos (by omega)]
theorem ord32_inf {ng : Bool} {k : Nat} (hk : k < 2139095040 ∨ (k = 2139095040 ∧ ng = true)) : FloatKind.f32.format.order (W32 ng k) 2139095040 = some .lt ∧ FloatKind.f32.format.order 2139095040 (W32 ng k) = some .gt := by
  rw [ord32, ord32, show FloatKind.f32.decode 2139095040 = .infinity false from rfl]
  rcases hk with h | ⟨h, g⟩
  · rw [read32 h]; exact ⟨rfl, rfl⟩
  · subst h g; rw [read32_inf]; exact ⟨rfl, rfl⟩
theorem xor31 {w : Nat} (hw : w < 4294967296) : w ^^^ 2147483648 = if w < 2147483648 then w + 2147483648 else w - 2147483648 := by
  have e31 : (2 : Nat) ^ 31 = 2147483648 := by decide
  by_cases h : w < 2147483648
  · rw [if_pos h]
    have h1 := Nat.two_pow_add_eq_or_of_lt (i := 31) (b := w) (by rw [e31]; exact h) 1
    rw [e31, Nat.mul_one] at h1
    rw [Nat.add_comm, h1]
    apply Nat.eq_of_testBit_eq
    intro i
    rw [Nat.testBit_xor, Nat.testBit_or]
    by_cases hi : i = 31
    · subst hi
      have : w.testBit 31 = false := Nat.testBit_lt_two_pow (by rw [e31]; exact h)
      rw [this]; simp
    · have : (2147483648 : Nat).testBit i = false := by
        rw [← e31, Nat.testBit_two_pow]
        exact decide_eq_false (by omega)
      rw [this]; simp
  · rw [if_neg h]
    obtain ⟨v, rfl⟩ : ∃ v, w = 2147483648 + v := ⟨w - 2147483648, by omega⟩
    have hv : v < 2147483648 := by omega
    have h1 := Nat.two_pow_add_eq_or_of_lt (i := 31) (b := v) (by rw [e31]; exact hv) 1
    rw [e31, Nat.mul_one] at h1
    rw [show 2147483648 + v - 2147483648 = v by omega, h1]
    apply Nat.eq_of_testBit_eq
    intro i
    rw [Nat.testBit_xor, Nat.testBit_or]
    by_cases hi : i = 31
    · subst hi
      have : v.testBit 31 = false := Nat.testBit_lt_two_pow (by rw [e31]; exact hv)
      rw [this]
      have e : (2147483648 : Nat).testBit 31 = true := by decide
      rw [e]; rfl
    · have : (2147483648 : Nat).testBit i = false := by
        rw [← e31, Nat.testBit_two_pow]
        exact decide_eq_false (by omega)
      rw [this]; simp
theorem neg32 {ng : Bool} {k : Nat} (hk : k < 2147483648) : Op.negFloat .f32 (W32 ng k) = W32 (!ng) k := by
  have e : ∀ w : Nat, Op.negFloat .f32 w = w ^^^ 2147483648 := fun w => by
    have : Op.negFloat .f32 w = w ^^^ 2 ^ 31 := rfl
    rw [this, show (2 : Nat) ^ 31 = 2147483648 by decide]
  rw [e, xor31 (W32_lt hk)]
  cases ng
  · rw [W32_f, if_pos hk]; rfl
  · rw [W32_t, if_neg (by omega), show k + 2147483648 - 2147483648 = k by omega]; rfl
/-- The binary64 of a binary32. -/
def widW (w : Nat) : Nat := FloatKind.f64.encode (FloatKind.f32.decode w)
theorem rung_small {m : Nat} {e : Int} (hm : m < 16777216) (h0 : m ≠ 0) (he : e ≤ 104) : rung m e < 9218868437227405312 := by
  have h1 := (kpt_lt e h0).1
  have hl : m.log2 < 24 := (Nat.log2_lt h0).2 (by rw [show (2 : Nat) ^ 24 = 16777216 by decide]; exact hm)
  have hL : lastP m e = max (e + m.log2 - 52) (-1074) := rfl
  rw [show (2 : Nat) ^ 53 = 9007199254740992 by decide] at h1
  refine Nat.lt_of_le_of_lt (Nat.min_le_left _ _) ?_
  have : (lastP m e + 1074).toNat ≤ 1149 := by rw [hL]; omega
  omega
theorem wid_word {ng : Bool} {k : Nat} (hk : k ≤ 2139095040) : ∃ r, r ≤ 9218868437227405312 ∧ (k < 2139095040 → r < 9218868437227405312) ∧ widW (W32 ng k) = wordN ng r := by
  have hw : ∀ r, Ieee.double.word ng r = wordN ng r := fun r => by
    unfold wordN
    cases ng
    · rfl
    · show 9223372036854775808 + r = r + 9223372036854775808
      omega
  by_cases h : k = 2139095040
  · subst h
    refine ⟨9218868437227405312, Nat.le_refl _, fun h => absurd h (by omega), ?_⟩
    unfold widW
    rw [read32_inf, ← hw]; rfl
  · have hk2 : k < 2139095040 := by omega
    unfold widW
    rw [read32 hk2]
    by_cases hz : m32 k = 0
    · refine ⟨0, by decide, fun _ => by decide, ?_⟩
      rw [hz, ← hw]; rfl
    · have hr := rung_small (m32_lt k) hz (e32_bd hk2).2
      refine ⟨rung (m32 k) (e32 k), Nat.le_of_lt hr, fun _ => hr, ?_⟩
      show Ieee.double.nearest ng (m32 k) (e32 k) = _
      rw [nearest_rung _ _ hz, hw]
/-- A binary32 made a binary64. -/
theorem cv32g {ng : Bool} {k : Nat} {K : Nat → Prop} (hk : k ≤ 2139095040) (H : K (widW (W32 ng k))) : cvW .f32 (W32 ng k) .f64 K := by
  refine ⟨fun e => (by cases e), fun _ => ?_⟩
  by_cases h : k = 2139095040
  · subst h
    unfold widW at H
    rw [read32_inf] at H ⊢
    exact H
  · have hk2 : k < 2139095040 := by omega
    obtain ⟨r, r1, r2, r3⟩ := wid_word (ng := ng) hk
    have hr := r2 hk2
    unfold widW at H r3
    rw [read32 hk2] at H r3 ⊢
    refine ⟨fun e => ?_, fun _ => H⟩
    exfalso
    rw [r3] at e
    have hI : (FloatKind.f64.decode (wordN ng r)).isInfinity = false := by
      have e1 : ∀ w : Nat, FloatKind.f64.decode w = if w % 9223372036854775808 < 4503599627370496 then .number (w / 9223372036854775808 % 2 == 1) (w % 9223372036854775808) (-1074) else if w % 9223372036854775808 < 9218868437227405312 then .number (w / 9223372036854775808 % 2 == 1) (4503599627370496 + w % 9223372036854775808 % 4503599627370496) (-1074 + ((w % 9223372036854775808 / 4503599627370496 - 1 : Nat) : Int)) else if w % 9223372036854775808 = 9218868437227405312 then .infinity (w / 9223372036854775808 % 2 == 1) else .nan (w / 9223372036854775808 % 2 == 1) (w % 9223372036854775808 - 9218868437227405312) := fun w => rfl
      have hm : wordN ng r % 9223372036854775808 = r := by unfold wordN; cases ng <;> simp <;> omega
      rw [e1, hm]
      by_cases a : r < 4503599627370496
      · rw [if_pos a]; rfl
      · rw [if_neg a, if_pos hr]; rfl
    rw [hI] at e
    cases e
/-- The neighbour above, and the one below. -/
def nxS (ng : Bool) (k : Nat) : Bool × Nat := if k = 0 then (false, 1) else if ng then (true, k - 1) else (false, k + 1)
def pvS (ng : Bool) (k : Nat) : Bool × Nat := (!(nxS (!ng) k).1, (nxS (!ng) k).2)
theorem nxS_le {ng : Bool} {k : Nat} (h : k < 2139095040 ∨ (k = 2139095040 ∧ ng = true)) : (nxS ng k).2 ≤ 2139095040 := by
  unfold nxS
  by_cases a : k = 0
  · rw [if_pos a]; decide
  · rw [if_neg a]
    rcases h with h | ⟨h, g⟩
    · cases ng
      · show k + 1 ≤ _; omega
      · show k - 1 ≤ _; omega
    · subst g; show k - 1 ≤ _; omega
end Go.Eng
namespace Go.Proofs
open Go Go.Eng
variable {B : World} {R : Ending → Heap → Prop} {h : Heap}
/-- bits.Float32, of a pattern. -/
theorem K1326g {w : Nat} (hw : w < 4294967296) (H : R (.returned (.float .f32 w)) h) : Ent Tryz.prog B 45 #[.int .i64 (w : Int)] R h := by
  have e1 : IntKind.u32.wrap (w : Int) = (w : Int) := wrap_u32_in (by omega) (by omega)
  refine F1326_ok _ (F1330_ok _ ⟨_, rfl, fun e => ?_, fun _ => ?_⟩)
  · rw [e1, i64_in (by omega) (by omega), decide_eq_true rfl] at e
    cases e
  unfold F1326_j3
  rw [e1]
  exact E1331 ⟨_, rfl, H⟩
/-- bits.Of32. -/
theorem K1332g {ng : Bool} {k : Nat} (hk : k ≤ 2139095040) (H : R (.returned (.int .i64 (W32 ng k : Int))) h) : Ent Tryz.prog B 77 #[.float .f32 (W32 ng k)] R h := by
  have hw := W32_lt (ng := ng) (show k < 2147483648 by omega)
  refine F1332_ok _ ⟨fun e => ?_, fun _ => E1334 ⟨_, rfl, ?_⟩⟩
  · rw [ord32_self hk] at e; cases e
  · rw [i64_in (by omega) (by omega)]; exact H
theorem K137c {x y : Nat} (H : R (.returned (.float .f64 3936146074321813504)) h) (hx : x = 3936146074321813504) (hy : y = 9218868437227405312) : Ent Tryz.prog B 162 #[.float .f64 x, .float .f64 y] R h := by
  subst hx hy
  refine F137_ok _ _ (E117 ⟨_, rfl, E117 ⟨_, rfl, ?_⟩⟩)
  have : bitsI .or .u64 (bitsI .andNot .u64 ((3936146074321813504 : Nat) : Int) (9223372036854775808 : Int)) (bitsI .and .u64 ((9218868437227405312 : Nat) : Int) (9223372036854775808 : Int)) = ((3936146074321813504 : Nat) : Int) := by decide +kernel
  rw [this]
  exact E116 ⟨_, rfl, H⟩
theorem isNaN_wid {ng : Bool} {k : Nat} (hk : k ≤ 2139095040) : widW (W32 ng k) < 18446744073709551616 ∧ isNaN (sg (widW (W32 ng k))) = false := by
  obtain ⟨r, r1, r2, r3⟩ := wid_word (ng := ng) hk
  rw [r3, wordN_sg (by omega)]
  refine ⟨?_, pat_nan r1⟩
  unfold wordN
  cases ng <;> simp <;> omega
/-- math.Nextafter32 to the upper infinity. -/
theorem K1339 {ng : Bool} {k : Nat} (hk : k < 2139095040 ∨ (k = 2139095040 ∧ ng = true)) (H : R (.returned (.float .f32 (W32 (nxS ng k).1 (nxS ng k).2))) h) :
    Ent Tryz.prog B 128 #[.float .f32 (W32 ng k), .float .f32 2139095040] R h := by
  have hk1 : k ≤ 2139095040 := by omega
  obtain ⟨o1, o2⟩ := ord32_inf hk
  have o0 := ord32_zero (ng := ng) hk1
  have hwk := W32_lt (ng := ng) (show k < 2147483648 by omega)
  have cinf : ∀ {K : Nat → Prop}, K (widW 2139095040) → cvW .f32 2139095040 .f64 K := fun {K} x => cv32g (ng := false) (k := 2139095040) (Nat.le_refl _) x
  have winf := isNaN_wid (ng := false) (k := 2139095040) (Nat.le_refl _)
  rw [W32_f] at winf
  obtain ⟨wk1, wk2⟩ := isNaN_wid (ng := ng) hk1
  have j3 : F1339_j3 B R (W32 ng k) 2139095040 false h := by
    refine ⟨fun e => (by cases e), fun _ => ?_⟩
    rw [o1, o2, o0]
    refine ⟨fun e => (by cases e), fun _ => ⟨fun e => ?_, fun e => ?_⟩⟩
    · have hz : k = 0 := by
        by_cases a : k = 0
        · exact a
        · rw [if_neg a] at e; cases ng <;> cases e
      subst hz
      have H : R (.returned (.float .f32 1)) h := H
      refine E1331 (n := 1) ⟨_, rfl, cv32g (ng := false) (k := 1) (by decide) (cinf (K137c ⟨_, rfl, ?_⟩ (by decide +kernel) (by decide +kernel)))⟩
      refine ⟨fun e => (by cases e), fun _ => ?_⟩
      have d : FloatKind.f64.decode 3936146074321813504 = .number false 4503599627370496 (-201) := by decide +kernel
      rw [d]
      refine ⟨fun e => absurd e (by decide +kernel), fun _ => ?_⟩
      have : FloatKind.f32.encode (.number false 4503599627370496 (-201)) = 1 := by decide +kernel
      rw [this]; exact H
    · have hz : k ≠ 0 := fun a => by rw [if_pos a] at e; cases e
      rw [if_neg hz]
      unfold nxS at H
      rw [if_neg hz] at H
      cases ng
      · refine ⟨fun _ => E1334 ⟨_, rfl, ?_⟩, fun e => (by cases e)⟩
        have hk2 : k < 2139095040 := by rcases hk with h | ⟨_, g⟩; exact h; cases g
        have e1 : IntKind.u32.wrap (((W32 false k : Nat) : Int) + (1 : Int)) = ((k + 1 : Nat) : Int) := by rw [W32_f, wrap_u32_in (by omega) (by omega)]; rfl
        rw [e1]
        exact E1331 ⟨_, rfl, H⟩
      · refine ⟨fun e => (by cases e), fun _ => E1334 ⟨_, rfl, ?_⟩⟩
        have e1 : IntKind.u32.wrap (((W32 true k : Nat) : Int) - (1 : Int)) = ((W32 true (k - 1) : Nat) : Int) := by rw [W32_t, W32_t, wrap_u32_in (by omega) (by omega)]; omega
        rw [e1]
        exact E1331 ⟨_, rfl, H⟩
  refine F1339_ok _ _ (cv32g hk1 (K183 wk1 wk2 ⟨_, rfl, fun e => (by cases e), fun _ => cinf (K183 winf.1 winf.2 ⟨_, rfl, j3⟩)⟩))
/-- bits.Next32. -/
theorem K1336 {ng : Bool} {k : Nat} (hk : k < 2139095040 ∨ (k = 2139095040 ∧ ng = true)) (H : R (.returned (.int .i64 (W32 (nxS ng k).1 (nxS ng k).2 : Int))) h) : Ent Tryz.prog B 84 #[.int .i64 (W32 ng k : Int)] R h := by
  refine F1336_ok _ (K1326g (W32_lt (by omega)) ⟨_, rfl, K185 (ng := false) rfl ⟨_, rfl, ?_⟩⟩)
  rw [wordN_f]
  refine ⟨fun e => (by cases e), fun _ => ?_⟩
  have d : FloatKind.f64.decode 9218868437227405312 = .infinity false := by decide +kernel
  have d2 : FloatKind.f32.encode (.infinity false) = 2139095040 := by decide +kernel
  rw [d]
  show Ent Tryz.prog B 128 _ _ _
  rw [d2]
  exact K1339 hk ⟨_, rfl, K1332g (nxS_le hk) ⟨_, rfl, H⟩⟩
/-- bits.Prev32. -/
theorem K1337 {ng : Bool} {k : Nat} (hk : k < 2139095040 ∨ (k = 2139095040 ∧ ng = false)) (H : R (.returned (.int .i64 (W32 (pvS ng k).1 (pvS ng k).2 : Int))) h) : Ent Tryz.prog B 85 #[.int .i64 (W32 ng k : Int)] R h := by
  have hk' : k < 2139095040 ∨ (k = 2139095040 ∧ (!ng) = true) := by
    rcases hk with h | ⟨h, g⟩
    · exact .inl h
    · exact .inr ⟨h, by rw [g]; rfl⟩
  have hl := nxS_le hk'
  refine F1337_ok _ (K1326g (W32_lt (by omega)) ⟨_, rfl, ?_⟩)
  rw [neg32 (by omega)]
  refine K1332g (by omega) ⟨_, rfl, K1336 hk' ⟨_, rfl, K1326g (W32_lt (by omega)) ⟨_, rfl, ?_⟩⟩⟩
  rw [neg32 (by omega)]
  exact K1332g hl ⟨_, rfl, H⟩
end Go.Proofs
set_option linter.unusedVariables false
/-! Rounding does not ask how a number is written. -/
namespace Go.Eng
open Go
theorem two_ways {X X' a b : Nat} (ha : 0 < a) (hb : 0 < b) (h : X * b = X' * a) : X / a = X' / b ∧ X % a * b = X' % b * a := by
  constructor
  · rw [← Nat.mul_div_mul_right X a hb, h, Nat.mul_comm a b, Nat.mul_div_mul_right X' b ha]
  · rw [← Nat.mul_mod_mul_right b X a, h, Nat.mul_comm a b, Nat.mul_mod_mul_right a X' b]
theorem lastP_scale {m : Nat} (k : Nat) (e : Int) (hm : m ≠ 0) : lastP (m * 2 ^ k) e = lastP m (e + k) := by
  unfold lastP; rw [log2_scale k hm, show e + ((m.log2 + k : Nat) : Int) - 52 = e + (k : Int) + (m.log2 : Int) - 52 by omega]
theorem cut_scale {m : Nat} (k : Nat) (e : Int) (hm : m ≠ 0) : cutX (m * 2 ^ k) e * 2 ^ cutD m (e + k) = cutX m (e + k) * 2 ^ cutD (m * 2 ^ k) e := by
  unfold cutX cutD
  rw [lastP_scale k e hm]
  generalize lastP m (e + k) = L
  rw [Nat.mul_assoc, Nat.mul_assoc, Nat.mul_assoc, ← Nat.pow_add, ← Nat.pow_add, ← Nat.pow_add]
  congr 2
  omega
theorem form_scale {m : Nat} (k : Nat) (e : Int) (hm : m ≠ 0) : flo (m * 2 ^ k) e = flo m (e + k) ∧ odd (m * 2 ^ k) e = odd m (e + k) ∧ incN (m * 2 ^ k) e = incN m (e + k) := by
  have hc := cut_scale k e hm
  have hL := lastP_scale k e hm
  have p1 : 0 < 2 ^ cutD (m * 2 ^ k) e := Nat.pow_pos (by decide)
  have p2 : 0 < 2 ^ cutD m (e + k) := Nat.pow_pos (by decide)
  obtain ⟨h1, h2⟩ := two_ways p1 p2 hc
  unfold flo odd incN
  rw [hL, h1]
  generalize cutX (m * 2 ^ k) e = X at *
  generalize cutX m (e + k) = X' at *
  generalize 2 ^ cutD (m * 2 ^ k) e = a at *
  generalize 2 ^ cutD m (e + k) = b at *
  generalize X % a = x at *
  generalize X' % b = x' at *
  generalize X' / b = q at *
  have e1 : a < 2 * x ↔ b < 2 * x' := by
    rw [← Nat.mul_lt_mul_right (a := b) p2, ← Nat.mul_lt_mul_right (a := a) (b := b) p1, Nat.mul_assoc 2, Nat.mul_assoc 2, h2, Nat.mul_comm a b]
  have e2 : a = 2 * x ↔ b = 2 * x' := by
    rw [← Nat.mul_left_inj (a := b) (b := a) (c := 2 * x) (by omega), ← Nat.mul_left_inj (a := a) (b := b) (c := 2 * x') (by omega), Nat.mul_assoc 2, Nat.mul_assoc 2, h2, Nat.mul_comm a b]
  have e3 : x = 0 ↔ x' = 0 := by
    constructor
    · intro h; rw [h, Nat.zero_mul] at h2
      rcases Nat.mul_eq_zero.1 h2.symm with h | h
      · exact h
      · omega
    · intro h; rw [h, Nat.zero_mul] at h2
      rcases Nat.mul_eq_zero.1 h2 with h | h
      · exact h
      · omega
  refine ⟨rfl, ?_, ?_⟩
  · rw [decide_eq_decide]; exact not_congr e3
  · rw [decide_eq_decide, e1, e2]
theorem near_scale {m : Nat} (k : Nat) (e : Int) (hm : m ≠ 0) : upN (m * 2 ^ k) e = upN m (e + k) ∧ inxN (m * 2 ^ k) e = inxN m (e + k) := by
  obtain ⟨h1, h2, h3⟩ := form_scale k e hm
  unfold upN inxN
  rw [h1, h2, h3]; exact ⟨rfl, rfl⟩
theorem accN_scale {m : Nat} (k : Nat) (e : Int) (ng : Bool) (hm : m ≠ 0) : accN (m * 2 ^ k) e ng = accN m (e + k) ng := by
  obtain ⟨h1, h2⟩ := near_scale k e hm
  unfold accN
  rw [h1, h2]
theorem dirP_scale {m : Nat} (k : Nat) (e : Int) (w : Nat) (ng : Bool) (hm : m ≠ 0) : dirP w ng (m * 2 ^ k) e = dirP w ng m (e + k) := by
  obtain ⟨h1, h2, h3⟩ := form_scale k e hm
  have ha : awayW w ng (m * 2 ^ k) e = awayW w ng m (e + k) := by
    unfold awayW
    rw [h2, h3]
  unfold dirP idxW
  rw [h1, ha]
/-- A number m times 2^e in a way, and whether it is another number. -/
def dirV (w : Nat) (m e : Int) : Int := if m = 0 then 0 else pat (decide (m < 0)) (dirP w (decide (m < 0)) m.natAbs e)
def inxV (m e : Int) : Bool := if m = 0 then false else inxN m.natAbs e
theorem dirV_scale (w : Nat) (m e : Int) (k : Nat) : dirV w (m * 2 ^ k) e = dirV w m (e + k) ∧ inxV (m * 2 ^ k) e = inxV m (e + k) := by
  have hp : (0 : Int) < 2 ^ k := Int.pow_pos (by decide)
  unfold dirV inxV
  by_cases h : m = 0
  · subst h
    rw [Int.zero_mul, if_pos rfl, if_pos rfl, if_pos rfl, if_pos rfl]; exact ⟨rfl, rfl⟩
  · have h2 : m * 2 ^ k ≠ 0 := Int.mul_ne_zero h (by omega)
    have h3 : decide (m * 2 ^ k < 0) = decide (m < 0) := by
      rw [decide_eq_decide]
      constructor
      · intro hh
        rcases Int.lt_or_le m 0 with h | h
        · exact h
        · have := Int.mul_nonneg h (Int.le_of_lt hp); omega
      · intro hh; exact Int.mul_neg_of_neg_of_pos hh hp
    have h4 : (m * 2 ^ k).natAbs = m.natAbs * 2 ^ k := by rw [Int.natAbs_mul, Int.natAbs_pow, show (2 : Int).natAbs = 2 from rfl]
    rw [if_neg h, if_neg h, if_neg h2, if_neg h2, h3, h4, dirP_scale k e w _ (by omega), (near_scale k e (by omega)).2]
    exact ⟨rfl, rfl⟩
/-- The nearest one, turned. -/
def turnK (w : Nat) (ng : Bool) (r : Nat) (above : Bool) : Int :=
  match w with
  | 0 => pat ng r
  | 1 => if above then pvK ng r else pat ng r
  | 2 => if above then pat ng r else nxK ng r
  | _ => if ng then (if above then pat ng r else nxK ng r) else (if above then pvK ng r else pat ng r)
theorem up_pos {m : Nat} {e : Int} (h : upN m e = true) : 0 < rung m e := by
  have hr := rung_idx m e false
  unfold idxW at hr
  rw [show awayW 0 false m e = incN m e from rfl] at hr
  have hI : 0 < INF := by decide
  unfold upN at h
  rw [Bool.or_eq_true, decide_eq_true_eq] at h
  generalize INF = J at *
  rcases h with h | h
  · rw [h] at hr
    have : true.toNat = 1 := rfl
    omega
  · omega
theorem down_lt {m : Nat} {e : Int} (h : upN m e = false) : rung m e < INF := by
  have hr := rung_idx m e false
  unfold idxW at hr
  rw [show awayW 0 false m e = incN m e from rfl] at hr
  unfold upN at h
  rw [Bool.or_eq_false_iff, decide_eq_false_iff_not] at h
  rw [h.1] at hr
  have : false.toNat = 0 := rfl
  generalize INF = J at *
  omega
theorem turn_dir (w : Nat) (ng : Bool) (m : Nat) (e : Int) (hi : inxN m e = true) : turnK w ng (rung m e) (upN m e != ng) = pat ng (dirP w ng m e) := by
  have hd := dir_near w ng m e
  rw [hi, if_neg (by decide)] at hd
  rw [hd]
  clear hd
  have hu := @up_pos m e
  generalize rung m e = r at *
  cases hupN : upN m e
  · have n2 : nxK false r = pat false (r + 1) := by
      unfold nxK; rw [if_neg (by decide), pat_f]; omega
    have p2 : pvK true r = pat true (r + 1) := by unfold pvK; rw [if_pos rfl]
    match w with
    | 0 => simp [turnK]
    | 1 => cases ng <;> simp [turnK, p2]
    | 2 => cases ng <;> simp [turnK, n2]
    | n + 3 => cases ng <;> simp [turnK]
  · have h0 := hu hupN
    have n1 : nxK true r = pat true (r - 1) := by unfold nxK; rw [if_pos rfl, if_neg (by omega)]
    have p1 : pvK false r = pat false (r - 1) := by
      unfold pvK; rw [if_neg (by decide), if_neg (by omega), pat_f]; omega
    match w with
    | 0 => simp [turnK]
    | 1 => cases ng <;> simp [turnK, p1]
    | 2 => cases ng <;> simp [turnK, n1]
    | n + 3 => cases ng <;> simp [turnK, n1, p1]
end Go.Eng
set_option linter.unusedVariables false
namespace Go.Eng
open Go
theorem cls_zero {ng : Bool} {k : Nat} (hk : k ≤ 9218868437227405312) : cls (pat ng k) = 0 ↔ k = 0 := by
  unfold cls
  rw [pat_fE ng (by omega), pat_fT ng (by omega)]
  constructor
  · intro h
    repeat' (split at h)
    all_goals (first | (exact absurd h (by decide)) | skip)
    rename_i h1 h2 h3 h4
    omega
  · intro h
    subst h; rfl
end Go.Eng
namespace Go.Proofs
open Go Go.Eng
variable {B : World} {R : Ending → Heap → Prop} {h : Heap}
/-- round.signed. -/
theorem K1082 {ng : Bool} {k : Nat} (hk : k ≤ 9218868437227405312) (H : R (.returned (.int .i64 (pat ng k))) h) : Ent Tryz.prog B 96 #[.int .i64 (pat ng k), .bool ng] R h := by
  refine F1082_ok _ _ (K17 ⟨_, rfl, fun e => H, fun e => ?_⟩)
  have h0 : k = 0 := by
    have : cls (pat ng k) = 0 := by simpa using e
    exact (cls_zero hk).1 this
  subst h0
  refine ⟨fun e2 => ?_, fun e2 => ?_⟩
  · subst e2
    exact K99 (by unfold I64; omega) ⟨_, rfl, H⟩
  · subst e2; exact H
/-- SetInt of 0. -/
theorem K1079z {rf r qx : Nat} (F : Flt h rf 0 0 0 false none 0 0 0) (hx : IntAt h r qx 0) (hr : rf ≠ r)
    (H : ∀ h', Fr (fun x => x = rf) h h' → Flt h' rf 64 0 0 false none 0 0 0 → R (.returned (.pointer (some ⟨rf, 0, none⟩))) h') :
    Ent Tryz.prog B 81 #[.pointer (some ⟨rf, 0, none⟩), .pointer (some ⟨r, 0, none⟩)] R h := by
  obtain ⟨p, n, c, h1, h2, h3, h4⟩ := hx.ex
  have hz := h2.zero
  have hn0 : n = 0 := by rw [hz]; rfl
  subst hn0
  refine F1079_ok _ _ (K124 hx ⟨_, rfl, F.p0 ⟨fun _ => F.sp0 fun g1 F1 f1 => ?_, fun e => by simp at e⟩⟩)
  rw [show IntKind.u32.wrap (bl (0 : Int).natAbs : Int) = 0 by decide, if_max] at F1
  have X1 : Own g1 r _ := h1.fr f1 (fun e => hr e.symm)
  refine F1.sac fun g2 F2 f2 => ?_
  have X2 : Own g2 r _ := X1.fr f2 (fun e => hr e.symm)
  refine ldB X2 (F2.sng fun g3 F3 f3 => ?_)
  have X3 : Own g3 r _ := X2.fr f3 (fun e => hr e.symm)
  have f13 : Fr (fun x => x = rf) h g3 := Fr.trans (Fr.trans f1 f2 fun _ _ e => e) f3 fun _ _ e => e
  refine ldS X3 ⟨fun _ => F3.sfo fun g4 F4 f4 => ?_, fun e => by simp at e⟩
  exact H g4 (Fr.trans f13 f4 fun _ _ e => e) F4
theorem K1080z {r : Nat} {e : Int} (F : Flt h r 64 0 0 false none 0 0 0) (H : R (.returned (.pointer (some ⟨r, 0, none⟩))) h) :
    Ent Tryz.prog B 82 #[.pointer (some ⟨r, 0, none⟩), .pointer (some ⟨r, 0, none⟩), .int .i64 e] R h := by
  have hcopy : Ent Tryz.prog B 124 #[.pointer (some ⟨r, 0, none⟩), .pointer (some ⟨r, 0, none⟩)] (fun en h' => en = .returned (.pointer (some ⟨r, 0, none⟩)) ∧ h' = h) h :=
    F1096_ok _ _ ⟨fun e => (by cases e), fun _ => .inr (.inr ⟨_, _, _, _, rfl, rfl, .inl ⟨rfl, ⟨fun e => by simp at e, fun _ => ⟨rfl, rfl⟩⟩⟩⟩)⟩
  refine F1080_ok _ _ _ ⟨fun e => (by cases e), fun _ => hcopy.mono fun en h' hh => ?_⟩
  obtain ⟨rfl, rfl⟩ := hh
  exact ⟨_, rfl, F.lfo ⟨fun e => by simp at e, fun _ => H⟩⟩
theorem K1081z {r : Nat} (F : Flt h r 64 0 0 false none 0 0 0) (H : R (.returned (.tuple #[.float .f64 0, .int .i8 (0 : Int)])) h) :
    Ent Tryz.prog B 93 #[.pointer (some ⟨r, 0, none⟩)] R h :=
  F1081_ok _ ⟨fun e => (by cases e), fun _ => F.lfo ⟨fun e => by simp at e, fun _ => ⟨fun _ => F.lng ⟨fun e => (by cases e), fun _ => H⟩, fun e => by simp at e⟩⟩⟩
/-- number.stuck, of what is all there. -/
theorem K1078 {r q : Nat} {m e : Int} (hx : IntAt h r q m) (hb : bl m.natAbs ≤ 1000000) (he : -4611686018427387904 ≤ e) (he2 : e ≤ 4611686018427387904)
    (H : ∀ r' q' h', Ext h h' → h.size ≤ r' → IntAt h' r' q' (m * 2) → R (.returned (.agg #[.pointer (some ⟨r', 0, none⟩), .int .i64 (e - 1), .bool false])) h') :
    Ent Tryz.prog B 80 #[.agg #[.pointer (some ⟨r, 0, none⟩), .int .i64 e, .bool false]] R h := by
  refine F1078_ok _ _ _ ?_
  refine alK fun r1 h1 e1 f1 o1 z1 => ?_
  refine alK fun r2 h2 e2 f2 o2 z2 => ?_
  refine alK fun r3 h3 e3 f3 o3 z3 => ?_
  have X3 := ((hx.ext f1).ext f2).ext f3
  have O1 := (o1.ext f2).ext f3
  have O2 := o2.ext f3
  have lr := hx.lt
  have fx := Ext.trans (Ext.trans f1 f2) f3
  refine ⟨r1, 0, rfl, r1, 0, rfl, _, O1.cell _, ?_⟩
  refine K128f (s := 1) o3 X3 (by omega) hb (by omega) fun q4 h4 f4 d4 I4 => ⟨_, rfl, ?_⟩
  rw [show m * 2 ^ 1 = m * 2 by rw [Int.pow_succ, Int.pow_zero, Int.one_mul]] at I4
  have n4 : ∀ x, x ≠ r3 → ¬ (x = r3 ∨ False) := fun x a b => b.elim a id
  have O1' := O1.fr f4 (n4 _ (by omega))
  have O2' := O2.fr f4 (n4 _ (by omega))
  refine ⟨r1, 0, rfl, r1, 0 + 2, rfl, _, O1'.cell _, fun e => (by cases e), fun _ => ⟨r1, 0, rfl, r1, 0 + 1, rfl, _, O1'.cell _, r1, 0, rfl, r1, 0 + 2, rfl, _, O1'.cell _, ?_⟩⟩
  rw [i64_in (x := e - 1) (by omega) (by omega)]
  have s4 := f4.size
  refine ⟨r2, 0, rfl, O2'.stC (by simp) rfl fun oa fa => oa.stC (by simp) rfl fun ob fb => ob.stC (by simp) rfl fun oc fc => ⟨r2, 0, rfl, _, oc.cell _, _, oc.cell _, _, oc.cell _, ?_⟩⟩
  have fabc := Fr.trans (S := fun x => x = r2) (Fr.trans (S := fun x => x = r2) fa fb fun _ _ e => e) fc fun _ _ e => e
  have F : Ext h h4 := Fr.trans fx f4 fun x hx e => n4 x (by omega) e
  refine H r3 q4 _ (Fr.trans F fabc fun x hx e => by omega) (by omega) (I4.fr fabc (by omega) ?_)
  rcases d4 with e | e | e
  · omega
  · exact e.elim
  · omega
end Go.Proofs
