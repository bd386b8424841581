import Derived.Test.YtpnfpefcjeafbaaGreatFmtA24
import Derived.Test.YtpnfpefcjeafbaaGreatFmtA09
import Derived.Tactics
import Derived.Recover
import Derived.Test.YtpnfpefcjeafbaaGreatFmtA27
/- Here stand lemmas and contracts, in the order in which they are used. -/
set_option linter.unusedVariables false
namespace Go.Proofs
open Go Go.Eng
variable {B : World} {R : Ending → Heap → Prop} {h : Heap}
theorem and_i64 {x : Int} {m : Nat} (hm : m < 4611686018427387904) : bitsI .and .i64 x (m : Int) = (((x % 18446744073709551616).toNat &&& m : Nat) : Int) := by
  have h1 : bitsI .and .i64 x (m : Int) = IntKind.i64.wrap (((BitVec.ofInt 64 x &&& BitVec.ofInt 64 (m : Int)).toNat : Nat) : Int) := rfl
  rw [h1, BitVec.toNat_and, BitVec.toNat_ofInt, BitVec.toNat_ofInt]
  have e1 : ((m : Int) % ((2 ^ 64 : Nat) : Int)).toNat = m := by omega
  have e2 : (x % ((2 ^ 64 : Nat) : Int)).toNat = (x % 18446744073709551616).toNat := rfl
  rw [e1, e2]
  have : (x % 18446744073709551616).toNat &&& m ≤ m := Nat.and_le_right
  exact i64_nat (by omega)
theorem and_fT (b : Int) : bitsI .and .i64 b (4503599627370495 : Int) = (fT b : Int) := by
  have := and_i64 (x := b) (m := 4503599627370495) (by decide)
  rw [show ((4503599627370495 : Nat) : Int) = 4503599627370495 from rfl] at this
  rw [this, show (b % 18446744073709551616).toNat &&& 4503599627370495 = (b % 18446744073709551616).toNat % 2 ^ 52 from Nat.and_two_pow_sub_one_eq_mod _ 52]
  unfold fT; omega
theorem and_fE (b : Int) : bitsI .and .i64 (Int.fdiv b (2 ^ min (Int.toNat (52 : Int)) IntKind.i64.bits)) (2047 : Int) = (fE b : Int) := by
  have e0 : Int.fdiv b (2 ^ min (Int.toNat (52 : Int)) IntKind.i64.bits) = b / 4503599627370496 := by
    have : min (Int.toNat (52 : Int)) IntKind.i64.bits = 52 := by decide
    rw [this, Int.fdiv_eq_ediv_of_nonneg _ (by decide)]; rfl
  have := and_i64 (x := b / 4503599627370496) (m := 2047) (by decide)
  rw [show ((2047 : Nat) : Int) = 2047 from rfl] at this
  rw [e0, this, show (b / 4503599627370496 % 18446744073709551616).toNat &&& 2047 = (b / 4503599627370496 % 18446744073709551616).toNat % 2 ^ 11 from Nat.and_two_pow_sub_one_eq_mod _ 11]
  unfold fE; omega
end Go.Proofs
namespace Go.Proofs
open Go Go.Eng
variable {B : World} {R : Ending → Heap → Prop} {h : Heap}
/-- A word that is told as the pattern i. -/
def WI (w : Nat) (i : Int) : Prop := w < 18446744073709551616 ∧ nrm (sg w) = i
theorem wi_wd {a : Int} (ha : I64 a) : WI (wd a) (nrm a) := ⟨wd_lt a, by rw [sg_wd ha]⟩
theorem WI.add {x y : Nat} {i j : Int} {K : Nat → Prop} (hx : WI x i) (hy : WI y j) (H : ∀ z, WI z (addP i j) → K z) : flW .f64 (FloatKind.f64.format.add x y) x y K :=
  fadd_in hx.1 hy.1 fun z h1 h2 => H z ⟨h1, by rw [h2, hx.2, hy.2]⟩
theorem WI.sub {x y : Nat} {i j : Int} {K : Nat → Prop} (hx : WI x i) (hy : WI y j) (H : ∀ z, WI z (subP i j) → K z) : flW .f64 (FloatKind.f64.format.sub x y) x y K :=
  fsub_in hx.1 hy.1 fun z h1 h2 => H z ⟨h1, by rw [h2, hx.2, hy.2]⟩
theorem WI.mul {x y : Nat} {i j : Int} {K : Nat → Prop} (hx : WI x i) (hy : WI y j) (H : ∀ z, WI z (mulP i j) → K z) : flW .f64 (FloatKind.f64.format.mul x y) x y K :=
  fmul_in hx.1 hy.1 fun z h1 h2 => H z ⟨h1, by rw [h2, hx.2, hy.2]⟩
theorem nrm_nan (a : Int) : isNaN (nrm a) = isNaN a := by
  unfold nrm; split
  · rename_i h; rw [h]; exact isNaN_NaNP
  · rfl
theorem nrm_inf (a : Int) : isInf (nrm a) = isInf a := by
  unfold nrm; split
  · rename_i h; rw [nan_inf h]; exact isInf_NaNP
  · rfl
theorem fin_eq (a : Int) : isFin a = (!isNaN a && !isInf a) := by
  have := fE_lt a
  unfold isFin isNaN isInf
  by_cases h1 : fE a = 2047
  · by_cases h2 : fT a = 0 <;> simp [h1, h2]
  · have h3 : fE a < 2047 := by omega
    simp [h1, h3]
theorem nrm_fin (a : Int) : isFin (nrm a) = isFin a := by rw [fin_eq, fin_eq, nrm_nan, nrm_inf]
theorem fin_nrm {a : Int} (h : isFin a = true) : nrm a = a := by
  rw [fin_eq] at h
  unfold nrm
  cases hn : isNaN a
  · simp
  · rw [hn] at h; simp at h
theorem WI.fin {w : Nat} {i : Int} (h : WI w i) : isFin (sg w) = isFin i := by rw [← h.2, nrm_fin]
theorem WI.nan {w : Nat} {i : Int} (h : WI w i) : isNaN (sg w) = isNaN i := by rw [← h.2, nrm_nan]
theorem WI.eq {w : Nat} {i : Int} (h : WI w i) (hn : isNaN i = false) : sg w = i := by
  have := h.2
  unfold nrm at this
  rw [h.nan, hn] at this
  exact this
theorem WI.i64 {w : Nat} {i : Int} (h : WI w i) : I64 i := by
  have := h.2
  unfold nrm at this
  split at this
  · rw [← this]; exact NaNP_I64
  · rw [← this]; exact sg_I64 h.1
/-- bits.Float. -/
theorem K54 {a : Int} (H : R (.returned (.float .f64 (wd a))) h) : Ent Tryz.prog B 31 #[.int .i64 a] R h := by
  have e : IntKind.u64.wrap a = ((wd a : Nat) : Int) := by
    have e0 : IntKind.u64.wrap a = a % 18446744073709551616 := rfl
    rw [e0]; unfold wd; omega
  refine F54_ok _ ?_
  unfold F54
  rw [e]
  exact E116 ⟨_, rfl, H⟩
/-- bits.Of. -/
theorem K56 {w : Nat} {i : Int} (hw : WI w i) (H : R (.returned (.int .i64 i)) h) : Ent Tryz.prog B 25 #[.float .f64 w] R h := by
  have ho : (FloatKind.f64.format.order w w != some .eq) = isNaN (sg w) := order_self hw.1
  refine F56_ok _ ⟨fun e => ?_, fun e => ?_⟩
  · rw [ho] at e
    have : i = NaNP := by rw [← hw.2]; unfold nrm; rw [if_pos e]
    rw [this] at H; exact H
  · rw [ho] at e
    refine E117 ⟨_, rfl, ?_⟩
    have : IntKind.i64.wrap (w : Int) = sg w := by
      have e0 : IntKind.i64.wrap (w : Int) = if (true && decide ((w : Int) % 18446744073709551616 ≥ 9223372036854775808)) = true then (w : Int) % 18446744073709551616 - 18446744073709551616 else (w : Int) % 18446744073709551616 := rfl
      have := hw.1
      rw [e0]
      unfold sg
      simp only [Bool.true_and, decide_eq_true_eq]
      split <;> split <;> omega
    rw [this, hw.eq (by rw [← hw.nan]; exact e)]
    exact H
theorem andNot_top {w : Nat} (hw : w < 18446744073709551616) : bitsI .andNot .u64 (w : Int) (9223372036854775808 : Int) = ((w % 9223372036854775808 : Nat) : Int) := by
  have h1 : bitsI .andNot .u64 (w : Int) (9223372036854775808 : Int) = IntKind.u64.wrap (((BitVec.ofInt 64 (w : Int) &&& ~~~(BitVec.ofInt 64 (9223372036854775808 : Int))).toNat : Nat) : Int) := rfl
  have h2 : ~~~(BitVec.ofInt 64 (9223372036854775808 : Int)) = BitVec.ofNat 64 9223372036854775807 := by decide
  rw [h1, h2, ofInt_nat, BitVec.toNat_and, BitVec.toNat_ofNat, BitVec.toNat_ofNat, Nat.mod_eq_of_lt (by omega : w < 2 ^ 64), Nat.mod_eq_of_lt (by omega : 9223372036854775807 < 2 ^ 64)]
  rw [show w &&& 9223372036854775807 = w % 2 ^ 63 from Nat.and_two_pow_sub_one_eq_mod w 63, wrap_u64_nat]
  omega
/-- math.IsInf, of either sign. -/
theorem K118 {w : Nat} (hw : w < 18446744073709551616) (H : R (.returned (.bool (isInf (sg w)))) h) : Ent Tryz.prog B 65 #[.float .f64 w, .int .i64 (0 : Int)] R h := by
  refine F118_ok _ _ ⟨fun _ => F94_ok _ (E117 ⟨_, rfl, ?_⟩), fun e => by cases e⟩
  rw [andNot_top hw]
  refine E116 ⟨_, rfl, _, rfl, ?_⟩
  have hi : isInf ((w % 9223372036854775808 : Nat) : Int) = isInf (sg w) := by
    have key : fE ((w % 9223372036854775808 : Nat) : Int) = fE (sg w) ∧ fT ((w % 9223372036854775808 : Nat) : Int) = fT (sg w) := by
      unfold fE fT sg
      split <;> omega
    unfold isInf
    rw [key.1, key.2]
  have := isInf_rung (r := w % 9223372036854775808) (Nat.mod_lt _ (by decide))
  show R (.returned (.bool (Ieee.double.order (w % 9223372036854775808) 9218868437227405311 == some .gt))) h
  rw [this, hi]; exact H
end Go.Proofs
namespace Go.Proofs
open Go Go.Eng
variable {B : World} {R : Ending → Heap → Prop} {h : Heap}
/-- bits.Class. -/
theorem K17 {b : Int} (H : R (.returned (.int .i64 (cls b))) h) : Ent Tryz.prog B 36 #[.int .i64 b] R h := by
  refine F17_ok _ ⟨by decide, ?_⟩
  rw [and_fE, and_fT]
  refine F53_ok _ _ _ ?_
  have dE : decide (((fE b : Nat) : Int) = 2047) = decide (fE b = 2047) := by rw [decide_eq_decide]; omega
  have dT : decide (((fT b : Nat) : Int) = 0) = decide (fT b = 0) := by rw [decide_eq_decide]; omega
  have dE0 : decide (((fE b : Nat) : Int) = 0) = decide (fE b = 0) := by rw [decide_eq_decide]; omega
  unfold F53 F53_j4 F53_j17 F53_j25 F53_j22 F53_j14 F53_j11
  rw [dE, dT, dE0]
  have Hc : ∀ x, x = cls b → ∃ x6, Value.int .i64 x = Value.int .i64 x6 ∧ R (.returned (.int .i64 x6)) h := by
    rintro x rfl; exact ⟨_, rfl, H⟩
  unfold cls at Hc
  by_cases h1 : fE b = 2047
  · by_cases h2 : fT b = 0
    · simp only [h1, h2, decide_true]
      exact ⟨fun _ => ⟨fun e => (by cases e), fun _ => ⟨fun _ => Hc _ (by simp [h1, h2]), fun e => (by cases e)⟩⟩, fun e => (by cases e)⟩
    · simp only [h1, h2, decide_true, decide_false]
      exact ⟨fun _ => ⟨fun _ => Hc _ (by simp [h1, h2]), fun e => (by cases e)⟩, fun e => (by cases e)⟩
  · refine ⟨fun e => absurd (of_decide_eq_true e) h1, fun _ => ⟨fun e => (by cases e), fun _ => ⟨fun e => absurd (of_decide_eq_true e) h1, fun _ => ⟨fun e => ?_, fun e => ?_⟩⟩⟩⟩
    · have h0 := of_decide_eq_true e
      by_cases h2 : fT b = 0
      · exact ⟨fun _ => Hc _ (by simp [h0, h2]), fun e => absurd h2 (of_decide_eq_false e)⟩
      · have : 0 < fT b := by omega
        exact ⟨fun e => absurd (of_decide_eq_true e) h2, fun _ => ⟨fun _ => Hc _ (by simp [h0, this]), fun e => absurd h0 (of_decide_eq_false e)⟩⟩
    · have h0 := of_decide_eq_false e
      have : 0 < fE b := by omega
      exact ⟨fun e => (by cases e), fun _ => ⟨fun e => absurd (of_decide_eq_true e) h0, fun _ => Hc _ (by simp [h1, this])⟩⟩
theorem xor63 {w : Nat} (h : w < 18446744073709551616) : w ^^^ 9223372036854775808 = if w < 9223372036854775808 then w + 9223372036854775808 else w - 9223372036854775808 := by
  have hd := Nat.xor_div_two_pow (a := w) (b := 9223372036854775808) (n := 63)
  have hm := Nat.xor_mod_two_pow (a := w) (b := 9223372036854775808) (n := 63)
  have e1 : 9223372036854775808 / 2 ^ 63 = 1 := by decide
  have e2 : 9223372036854775808 % 2 ^ 63 = 0 := by decide
  rw [e1] at hd
  rw [e2, Nat.xor_zero] at hm
  by_cases hw : w < 9223372036854775808
  · have : w / 2 ^ 63 = 0 := by omega
    rw [this, show 0 ^^^ 1 = 1 from rfl] at hd
    rw [if_pos hw]; omega
  · have : w / 2 ^ 63 = 1 := by omega
    rw [this, show 1 ^^^ 1 = 0 from rfl] at hd
    rw [if_neg hw]; omega
theorem bitsI_flip {b : Int} (hb : I64 b) : bitsI .xor .i64 b (-9223372036854775808 : Int) = if b < 0 then b + 9223372036854775808 else b - 9223372036854775808 := by
  unfold I64 at hb
  have h1 : bitsI .xor .i64 b (-9223372036854775808 : Int) = IntKind.i64.wrap (((BitVec.ofInt 64 b ^^^ BitVec.ofInt 64 (-9223372036854775808 : Int)).toNat : Nat) : Int) := rfl
  rw [h1, BitVec.toNat_xor, BitVec.toNat_ofInt, BitVec.toNat_ofInt]
  have e1 : ((-9223372036854775808 : Int) % ((2 ^ 64 : Nat) : Int)).toNat = 9223372036854775808 := by decide
  have e2 : (b % ((2 ^ 64 : Nat) : Int)).toNat = (b % 18446744073709551616).toNat := rfl
  rw [e1, e2, xor63 (by omega)]
  have e : ∀ y : Int, IntKind.i64.wrap y = if (true && decide (y % 18446744073709551616 ≥ 9223372036854775808)) = true then y % 18446744073709551616 - 18446744073709551616 else y % 18446744073709551616 := fun y => rfl
  rw [e]
  simp only [Bool.true_and, decide_eq_true_eq]
  split <;> split <;> split <;> omega
/-- bits.Neg. -/
theorem K99 {b : Int} (hb : I64 b) (H : R (.returned (.int .i64 (negP b))) h) : Ent Tryz.prog B 15 #[.int .i64 b] R h := by
  refine F99_ok _ (K17 ⟨_, rfl, ?_⟩)
  rw [cls_nan, bitsI_flip hb]
  unfold negP at H
  refine ⟨fun e => ?_, fun e => ?_⟩
  · rw [e] at H; exact H
  · rw [e] at H; exact H
end Go.Proofs
namespace Go.Proofs
open Go Go.Eng
variable {B : World} {R : Ending → Heap → Prop} {h : Heap}
/-- A slice of pairs of whole numbers that only is read. -/
def PairsH (h : Heap) (p : Option Addr) (n : Nat) : Prop :=
  ∀ i, i < n → ∃ r q, p = some ⟨r, q, none⟩ ∧ r < h.size ∧ ∃ x y, I64 x ∧ I64 y ∧ cell? h ⟨r, q + i * 2, none⟩ = some (.int .i64 x) ∧ cell? h ⟨r, q + i * 2 + 1, none⟩ = some (.int .i64 y)
theorem cell_ext {h h' : Heap} (f : Ext h h') {r o : Nat} (hr : r < h.size) : cell? h' ⟨r, o, none⟩ = cell? h ⟨r, o, none⟩ := by
  unfold cell?; rw [f.same r hr id]
theorem PairsH.ext {h h' : Heap} {p : Option Addr} {n : Nat} (H : PairsH h p n) (f : Ext h h') : PairsH h' p n := by
  intro i hi
  obtain ⟨r, q, e, hr, x, y, ix, iy, c1, c2⟩ := H i hi
  exact ⟨r, q, e, Nat.lt_of_lt_of_le hr f.size, x, y, ix, iy, (cell_ext f hr).trans c1, (cell_ext f hr).trans c2⟩
end Go.Proofs
namespace Go.Proofs
open Go Go.Eng
/-- math.Copysign -/
def F137 (B : World) (R : Po) (a0 b0 : Nat) (h : Heap) : Prop :=
 Ec B 56 #[.float .f64 a0] (retE (fun c0 d0 => ∃ e0, c0 = .int .u64 e0 ∧
 Ec B 56 #[.float .f64 b0] (retE (fun f0 g0 => ∃ i0, f0 = .int .u64 i0 ∧
 Ec B 64 #[.int .u64 (bitsI .or .u64 (bitsI .andNot .u64 e0 (9223372036854775808 : Int)) (bitsI .and .u64 i0 (9223372036854775808 : Int)))] (retE (fun j0 k0 => ∃ l0, j0 = .float .f64 l0 ∧
 R (.returned (.float .f64 l0)) k0)
(pk R)) g0)
(pk R)) d0)
(pk R)) h
def F137_L : Nat → List (Nat × TypeDesc) := fun _ => []
theorem F137_ok {B : World} {R : Ending → Heap → Prop} (a0 b0 : Nat) {h : Heap} (H : F137 B R a0 b0 h) : Ec B 162 #[.float .f64 a0, .float .f64 b0] R h :=
 Ek Tryz.func162 (by kernel_rfl) (by kernel_rfl) (by kernel_rfl) F137_L [] (by kernel_rfl) H

/-- math.Ldexp -/
def F93 (B : World) (R : Po) (a0 : Nat) (b0 : Int) (h : Heap) : Prop :=
(false = true →
 Ec B 138 #[.float .f64 a0, .int .i64 b0] (retE (fun c0 d0 => ∃ e0, c0 = .float .f64 e0 ∧
 R (.returned (.float .f64 e0)) d0)
(pk R)) h) ∧
(false = false →
 Ec B 139 #[.float .f64 a0, .int .i64 b0] (retE (fun f0 g0 => ∃ i0, f0 = .float .f64 i0 ∧
 R (.returned (.float .f64 i0)) g0)
(pk R)) h)
def F93_L : Nat → List (Nat × TypeDesc) := fun _ => []
theorem F93_ok {B : World} {R : Ending → Heap → Prop} (a0 : Nat) (b0 : Int) {h : Heap} (H : F93 B R a0 b0 h) : Ec B 100 #[.float .f64 a0, .int .i64 b0] R h :=
 Ek Tryz.func100 (by kernel_rfl) (by kernel_rfl) (by kernel_rfl) F93_L [] (by kernel_rfl) H
end Go.Proofs
namespace Go.Eng
open Go
theorem rn_exact (q d : Nat) : rn (q * 2 ^ d) d = q := by
  have := rn_scale q 0 d
  rw [Nat.zero_add, rn_zero] at this
  exact this
/-- n rounded to 53 bits. -/
def R53 (n : Nat) : Nat := rn n (n.log2 - 52) * 2 ^ (n.log2 - 52)
theorem R53_zero : R53 0 = 0 := by decide
theorem log2_of {n k : Nat} (h1 : 2 ^ k ≤ n) (h2 : n < 2 ^ (k + 1)) : n.log2 = k := by
  have h0 : n ≠ 0 := by have : 0 < 2 ^ k := Nat.pow_pos (by decide); omega
  exact (Nat.log2_eq_iff h0).2 ⟨h1, h2⟩
theorem R53_at {n j : Nat} (h1 : 2 ^ (52 + j) ≤ n) (h2 : n < 2 ^ (53 + j)) : R53 n = rn n j * 2 ^ j := by
  have : n.log2 = 52 + j := log2_of h1 (by rw [show 52 + j + 1 = 53 + j by omega]; exact h2)
  unfold R53
  rw [this, Nat.add_sub_cancel_left]
theorem R53_small {n : Nat} (h : n < 2 ^ 53) : R53 n = n := by
  unfold R53
  have : n.log2 - 52 = 0 := by
    by_cases h0 : n = 0
    · subst h0; decide
    · have := (Nat.log2_lt h0).2 h; omega
  rw [this, rn_zero, Nat.pow_zero, Nat.mul_one]
theorem R53_scale (n k : Nat) : R53 (n * 2 ^ k) = R53 n * 2 ^ k := by
  by_cases h0 : n = 0
  · subst h0; rw [Nat.zero_mul, R53_zero, Nat.zero_mul]
  unfold R53
  rw [log2_scale k h0]
  by_cases h : 52 ≤ n.log2
  · rw [show n.log2 + k - 52 = n.log2 - 52 + k by omega, rn_scale, Nat.pow_add, Nat.mul_assoc]
  · rw [show n.log2 - 52 = 0 by omega, rn_zero, Nat.pow_zero, Nat.mul_one]
    by_cases h3 : n.log2 + k ≤ 52
    · rw [show n.log2 + k - 52 = 0 by omega, rn_zero, Nat.pow_zero, Nat.mul_one]
    · obtain ⟨d, hd⟩ : ∃ d, n.log2 + k - 52 = d ∧ d ≤ k := ⟨_, rfl, by omega⟩
      rw [hd.1]
      have e : n * 2 ^ k = n * 2 ^ (k - d) * 2 ^ d := by rw [Nat.mul_assoc, ← Nat.pow_add]; congr 2; omega
      rw [e, rn_exact]
theorem R53_exact {q d : Nat} (h : q ≤ 2 ^ 53) : R53 (q * 2 ^ d) = q * 2 ^ d := by
  rw [R53_scale]
  rcases Nat.lt_or_ge q (2 ^ 53) with h1 | h1
  · rw [R53_small h1]
  · have : q = 1 * 2 ^ 53 := by omega
    rw [this, R53_scale, R53_small (by decide)]
theorem rn_near (n d : Nat) : 2 * (rn n d * 2 ^ d) ≤ 2 * n + 2 ^ d ∧ 2 * n ≤ 2 * (rn n d * 2 ^ d) + 2 ^ d := by
  have hd := Nat.div_add_mod n (2 ^ d)
  have hm := Nat.mod_lt n (Nat.pow_pos (by decide : 0 < 2) : 0 < 2 ^ d)
  unfold rn
  rw [Nat.mul_comm] at hd
  split
  · rw [Nat.add_mul, Nat.one_mul]; omega
  · rw [Nat.add_zero]; omega
end Go.Eng
namespace Go.Eng
open Go
/-- A whole number rounded to 53 bits. -/
def rndI (v : Int) : Int := Ieee.signed (decide (v < 0)) (R53 v.natAbs) 0
theorem signed_nat (s : Bool) (m j : Nat) : Ieee.signed s m j = if s then -((m * 2 ^ j : Nat) : Int) else ((m * 2 ^ j : Nat) : Int) := by
  unfold Ieee.signed; rw [Nat.shiftLeft_eq]
theorem pat_neg (neg : Bool) {r : Nat} (hr : r < 9223372036854775808) : decide (pat neg r < 0) = neg := by
  cases neg
  · show decide (((r : Nat) : Int) < 0) = false
    exact decide_eq_false (by omega)
  · show decide (((r : Nat) : Int) - 9223372036854775808 < 0) = true
    exact decide_eq_true (by omega)
theorem pat_fE (neg : Bool) {r : Nat} (hr : r < 9223372036854775808) : fE (pat neg r) = r / 4503599627370496 := by
  unfold fE
  cases neg
  · show ((((r : Nat) : Int)) / 4503599627370496 % 2048).toNat = _
    omega
  · show ((((r : Nat) : Int) - 9223372036854775808) / 4503599627370496 % 2048).toNat = _
    omega
theorem pat_fT (neg : Bool) {r : Nat} (hr : r < 9223372036854775808) : fT (pat neg r) = r % 4503599627370496 := by
  unfold fT
  cases neg
  · show ((((r : Nat) : Int)) % 4503599627370496).toNat = _
    omega
  · show ((((r : Nat) : Int) - 9223372036854775808) % 4503599627370496).toNat = _
    omega
theorem fV_pat (neg : Bool) {j k : Nat} (hk : k ≤ 9007199254740992) (hn : j ≠ 0 → 4503599627370496 ≤ k) (hr : j * 4503599627370496 + k < 9218868437227405312) :
    isFin (pat neg (j * 4503599627370496 + k)) = true ∧ fV (pat neg (j * 4503599627370496 + k)) = Ieee.signed neg k j := by
  have h63 : j * 4503599627370496 + k < 9223372036854775808 := by omega
  have e1 := pat_fE neg h63
  have e2 := pat_fT neg h63
  have e3 := pat_neg neg h63
  refine ⟨?_, ?_⟩
  · unfold isFin; rw [e1]; exact decide_eq_true (by omega)
  unfold fV fM fX
  rw [e1, e2, e3]
  rcases Nat.lt_or_ge k 4503599627370496 with h | h
  · have hj : j = 0 := by
      rcases Nat.eq_zero_or_pos j with h0 | h0
      · exact h0
      · have := hn (by omega); omega
    subst hj
    have a1 : (0 * 4503599627370496 + k) / 4503599627370496 = 0 := by omega
    have a2 : (0 * 4503599627370496 + k) % 4503599627370496 = k := by omega
    rw [a1, a2]; rfl
  · rcases Nat.lt_or_ge k 9007199254740992 with h' | h'
    · have a1 : (j * 4503599627370496 + k) / 4503599627370496 = j + 1 := by omega
      have a2 : (j * 4503599627370496 + k) % 4503599627370496 = k - 4503599627370496 := by omega
      rw [a1, a2, if_neg (by omega), if_neg (by omega), show 4503599627370496 + (k - 4503599627370496) = k by omega, show (((j + 1 : Nat) : Int) - 1075 + 1074).toNat = j by omega]
    · have hk' : k = 9007199254740992 := by omega
      subst hk'
      have a1 : (j * 4503599627370496 + 9007199254740992) / 4503599627370496 = j + 2 := by omega
      have a2 : (j * 4503599627370496 + 9007199254740992) % 4503599627370496 = 0 := by omega
      rw [a1, a2, if_neg (by omega), if_neg (by omega), show (((j + 2 : Nat) : Int) - 1075 + 1074).toNat = j + 1 by omega, signed_nat, signed_nat, Nat.pow_succ]
      have : (4503599627370496 + 0) * (2 ^ j * 2) = 9007199254740992 * 2 ^ j := by omega
      rw [this]
theorem rung_fV (neg : Bool) {n K : Nat} (hK : K ≤ 2045) (h : n < 3 * 2 ^ (51 + K)) : isFin (pat neg (rung n (-1074))) = true ∧ fV (pat neg (rung n (-1074))) = Ieee.signed neg (R53 n) 0 := by
  by_cases h0 : n = 0
  · subst h0
    rw [rung_zero, R53_zero]
    have := fV_pat neg (j := 0) (k := 0) (by omega) (by omega) (by omega)
    rw [Nat.zero_mul, Nat.zero_add] at this
    exact this
  obtain ⟨j, hj⟩ : ∃ j, n.log2 - 52 = j := ⟨_, rfl⟩
  have eL : lastP n (-1074) = -1074 + (j : Int) := by unfold lastP; omega
  have eK : kpt n (-1074) = rn n j := by
    unfold kpt
    rw [eL, show ((-1074 : Int) - (-1074 + (j : Int))).toNat = 0 by omega, Nat.pow_zero, Nat.mul_one, show (-1074 + (j : Int) - (-1074 : Int)).toNat = j by omega]
  obtain ⟨b1, b2⟩ := kpt_lt (-1074) h0
  rw [eK] at b1 b2
  have e52 : (2 : Nat) ^ 52 = 4503599627370496 := by decide
  have e53 : (2 : Nat) ^ 53 = 9007199254740992 := by decide
  have e51 : (2 : Nat) ^ 51 = 2251799813685248 := by decide
  rw [e53] at b1
  rw [e52] at b2
  have hjK : j ≤ K := by
    have : n < 2 ^ (53 + K) := by
      have : 2 ^ (53 + K) = 4 * 2 ^ (51 + K) := by rw [show 53 + K = 2 + (51 + K) by omega, Nat.pow_add]
      have : 0 < 2 ^ (51 + K) := Nat.pow_pos (by decide)
      omega
    have := (Nat.log2_lt h0).2 this
    omega
  have hlt : j * 4503599627370496 + rn n j < 9218868437227405312 := by
    rcases Nat.lt_or_ge j 2045 with h1 | h1
    · omega
    · have hjk : j = K := by omega
      have : n / 2 ^ j < 3 * 2251799813685248 := by
        rw [Nat.div_lt_iff_lt_mul (Nat.pow_pos (by decide)), Nat.mul_assoc, ← e51, ← Nat.pow_add, hjk]; exact h
      have := (rn_le n j).2
      omega
  have er : rung n (-1074) = j * 4503599627370496 + rn n j := by
    unfold rung
    rw [eL, eK, show (-1074 + (j : Int) + 1074).toNat = j by omega]
    exact Nat.min_eq_left (by omega)
  rw [er]
  obtain ⟨c1, c2⟩ := fV_pat neg (j := j) (k := rn n j) b1 (fun hne => b2 (by rw [eL]; omega)) hlt
  refine ⟨c1, ?_⟩
  rw [c2, signed_nat, signed_nat]
  unfold R53
  rw [hj, Nat.pow_zero, Nat.mul_one]
theorem fin_not {a : Int} (h : isFin a = true) : isNaN a = false ∧ isInf a = false := by
  unfold isFin at h
  have := of_decide_eq_true h
  unfold isNaN isInf
  have : decide (fE a = 2047) = false := decide_eq_false (by omega)
  rw [this]; exact ⟨rfl, rfl⟩
end Go.Eng
namespace Go.Eng
open Go
/-- A sign and a size. -/
def sgv (s : Bool) (n : Nat) : Int := if s then -(n : Int) else (n : Int)
theorem rndI_sgv (s : Bool) (n : Nat) : rndI (sgv s n) = sgv s (R53 n) := by
  unfold rndI sgv
  cases s
  · simp only [Bool.false_eq_true, if_false]
    rw [decide_eq_false (by omega), Int.natAbs_natCast]
    show Ieee.signed false (R53 n) 0 = _
    rw [signed_nat, Nat.pow_zero, Nat.mul_one]; rfl
  · simp only [if_true]
    by_cases h : n = 0
    · subst h; rw [R53_zero]; rfl
    · rw [decide_eq_true (by omega), Int.natAbs_neg, Int.natAbs_natCast, signed_nat, Nat.pow_zero, Nat.mul_one]; rfl
theorem sgv_abs (s : Bool) (n : Nat) : (sgv s n).natAbs = n := by unfold sgv; cases s <;> simp
theorem sgv_of (X : Int) : ∃ s, X = sgv s X.natAbs := by
  by_cases h : X < 0
  · exact ⟨true, by unfold sgv; simp only [if_true]; omega⟩
  · exact ⟨false, by unfold sgv; simp only [Bool.false_eq_true, if_false]; omega⟩
end Go.Eng
