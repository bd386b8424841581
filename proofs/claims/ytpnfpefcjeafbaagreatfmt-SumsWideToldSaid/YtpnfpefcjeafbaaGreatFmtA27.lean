import Derived.Test.YtpnfpefcjeafbaaGreatFmtA26
import Derived.Test.YtpnfpefcjeafbaaGreatFmtA09
/- Here stand lemmas and contracts, in the order in which they are used. -/
set_option linter.unusedVariables false
namespace Go.Proofs
open Go Go.Eng
variable {B : World} {R : Ending → Heap → Prop} {h : Heap}
/-- A word that is told as the pattern i. -/
def WI (w : Nat) (i : Int) : Prop := w < 18446744073709551616 ∧ nrm (sg w) = i
theorem wi_wd {a : Int} (ha : I64 a) : WI (wd a) (nrm a) := ⟨wd_lt a, by rw [sg_wd ha]⟩
theorem WI.add {x y : Nat} {i j : Int} {K : Nat → Prop} (hx : WI x i) (hy : WI y j) (H : ∀ z, WI z (addP i j) → K z) : flW .f64 (FloatKind.f64.format.add x y) x y K :=
  fadd_in hx.1 hy.1 fun z h1 h2 => H z ⟨h1, by rw [h2, hx.2, hy.2]⟩
theorem WI.sub {x y : Nat} {i j : Int} {K : Nat → Prop} (hx : WI x i) (hy : WI y j) (H : ∀ z, WI z (subP i j) → K z) : flW .f64 (FloatKind.f64.format.sub x y) x y K :=
  fsub_in hx.1 hy.1 fun z h1 h2 => H z ⟨h1, by rw [h2, hx.2, hy.2]⟩
theorem WI.mul {x y : Nat} {i j : Int} {K : Nat → Prop} (hx : WI x i) (hy : WI y j) (H : ∀ z, WI z (mulP i j) → K z) : flW .f64 (FloatKind.f64.format.mul x y) x y K :=
  fmul_in hx.1 hy.1 fun z h1 h2 => H z ⟨h1, by rw [h2, hx.2, hy.2]⟩
theorem nrm_nan (a : Int) : isNaN (nrm a) = isNaN a := by
  unfold nrm; split
  · rename_i h; rw [h]; exact isNaN_NaNP
  · rfl
theorem nrm_inf (a : Int) : isInf (nrm a) = isInf a := by
  unfold nrm; split
  · rename_i h; rw [nan_inf h]; exact isInf_NaNP
  · rfl
theorem fin_eq (a : Int) : isFin a = (!isNaN a && !isInf a) := by
  have := fE_lt a
  unfold isFin isNaN isInf
  by_cases h1 : fE a = 2047
  · by_cases h2 : fT a = 0 <;> simp [h1, h2]
  · have h3 : fE a < 2047 := by omega
    simp [h1, h3]
theorem nrm_fin (a : Int) : isFin (nrm a) = isFin a := by rw [fin_eq, fin_eq, nrm_nan, nrm_inf]
theorem fin_nrm {a : Int} (h : isFin a = true) : nrm a = a := by
  rw [fin_eq] at h
  unfold nrm
  cases hn : isNaN a
  · simp
  · rw [hn] at h; simp at h
theorem WI.fin {w : Nat} {i : Int} (h : WI w i) : isFin (sg w) = isFin i := by rw [← h.2, nrm_fin]
theorem WI.nan {w : Nat} {i : Int} (h : WI w i) : isNaN (sg w) = isNaN i := by rw [← h.2, nrm_nan]
theorem WI.eq {w : Nat} {i : Int} (h : WI w i) (hn : isNaN i = false) : sg w = i := by
  have := h.2
  unfold nrm at this
  rw [h.nan, hn] at this
  exact this
theorem WI.i64 {w : Nat} {i : Int} (h : WI w i) : I64 i := by
  have := h.2
  unfold nrm at this
  split at this
  · rw [← this]; exact NaNP_I64
  · rw [← this]; exact sg_I64 h.1
/-- bits.Float. -/
theorem K54 {a : Int} (H : R (.returned (.float .f64 (wd a))) h) : Ent Tryz.prog B 31 #[.int .i64 a] R h := by
  have e : IntKind.u64.wrap a = ((wd a : Nat) : Int) := by
    have e0 : IntKind.u64.wrap a = a % 18446744073709551616 := rfl
    rw [e0]; unfold wd; omega
  refine F54_ok _ ?_
  unfold F54
  rw [e]
  exact E116 ⟨_, rfl, H⟩
/-- bits.Of. -/
theorem K56 {w : Nat} {i : Int} (hw : WI w i) (H : R (.returned (.int .i64 i)) h) : Ent Tryz.prog B 25 #[.float .f64 w] R h := by
  have ho : (FloatKind.f64.format.order w w != some .eq) = isNaN (sg w) := order_self hw.1
  refine F56_ok _ ⟨fun e => ?_, fun e => ?_⟩
  · rw [ho] at e
    have : i = NaNP := by rw [← hw.2]; unfold nrm; rw [if_pos e]
    rw [this] at H; exact H
  · rw [ho] at e
    refine E117 ⟨_, rfl, ?_⟩
    have : IntKind.i64.wrap (w : Int) = sg w := by
      have e0 : IntKind.i64.wrap (w : Int) = if (true && decide ((w : Int) % 18446744073709551616 ≥ 9223372036854775808)) = true then (w : Int) % 18446744073709551616 - 18446744073709551616 else (w : Int) % 18446744073709551616 := rfl
      have := hw.1
      rw [e0]
      unfold sg
      simp only [Bool.true_and, decide_eq_true_eq]
      split <;> split <;> omega
    rw [this, hw.eq (by rw [← hw.nan]; exact e)]
    exact H
theorem andNot_top {w : Nat} (hw : w < 18446744073709551616) : bitsI .andNot .u64 (w : Int) (9223372036854775808 : Int) = ((w % 9223372036854775808 : Nat) : Int) := by
  have h1 : bitsI .andNot .u64 (w : Int) (9223372036854775808 : Int) = IntKind.u64.wrap (((BitVec.ofInt 64 (w : Int) &&& ~~~(BitVec.ofInt 64 (9223372036854775808 : Int))).toNat : Nat) : Int) := rfl
  have h2 : ~~~(BitVec.ofInt 64 (9223372036854775808 : Int)) = BitVec.ofNat 64 9223372036854775807 := by decide
  rw [h1, h2, ofInt_nat, BitVec.toNat_and, BitVec.toNat_ofNat, BitVec.toNat_ofNat, Nat.mod_eq_of_lt (by omega : w < 2 ^ 64), Nat.mod_eq_of_lt (by omega : 9223372036854775807 < 2 ^ 64)]
  rw [show w &&& 9223372036854775807 = w % 2 ^ 63 from Nat.and_two_pow_sub_one_eq_mod w 63, wrap_u64_nat]
  omega
/-- math.IsInf, of either sign. -/
theorem K118 {w : Nat} (hw : w < 18446744073709551616) (H : R (.returned (.bool (isInf (sg w)))) h) : Ent Tryz.prog B 65 #[.float .f64 w, .int .i64 (0 : Int)] R h := by
  refine F118_ok _ _ ⟨fun _ => F94_ok _ (E117 ⟨_, rfl, ?_⟩), fun e => by cases e⟩
  rw [andNot_top hw]
  refine E116 ⟨_, rfl, _, rfl, ?_⟩
  have hi : isInf ((w % 9223372036854775808 : Nat) : Int) = isInf (sg w) := by
    have key : fE ((w % 9223372036854775808 : Nat) : Int) = fE (sg w) ∧ fT ((w % 9223372036854775808 : Nat) : Int) = fT (sg w) := by
      unfold fE fT sg
      split <;> omega
    unfold isInf
    rw [key.1, key.2]
  have := isInf_rung (r := w % 9223372036854775808) (Nat.mod_lt _ (by decide))
  show R (.returned (.bool (Ieee.double.order (w % 9223372036854775808) 9218868437227405311 == some .gt))) h
  rw [this, hi]; exact H
end Go.Proofs
namespace Go.Proofs
open Go Go.Eng
/-- plumb/bits.Float32 -/
def F1326_j3 (B : World) (R : Po) (a0 : Int) (b0 : Heap) : Prop :=
 Ec B 76 #[.int .u32 (IntKind.u32.wrap a0)] (retE (fun c0 d0 => ∃ e0, c0 = .float .f32 e0 ∧
 R (.returned (.float .f32 e0)) d0)
(pk R)) b0
def F1326 (B : World) (R : Po) (f0 : Int) (h : Heap) : Prop :=
 Ec B 43 #[.int .i64 f0] (retE (fun g0 i0 => ∃ j0, g0 = .bool j0 ∧
((!j0) = true →
 F1326_j3 B R (2143289345 : Int) i0) ∧
((!j0) = false →
 F1326_j3 B R f0 i0))
(pk R)) h
def F1326_L : Nat → List (Nat × TypeDesc) := fun _ => []
def F1326_J (B : World) (R : Po) : Nat → Option JT := fun i => match i with
  | 3 => some ⟨[(0, .int .i64)], fun s v h => match s, v with
    | [], [.int _ a0] => F1326_j3 B R a0 h
    | _, _ => False⟩
  | _ => none
theorem F1326_ok {B : World} {R : Ending → Heap → Prop} (f0 : Int) {h : Heap} (H : F1326 B R f0 h) : Ec B 45 #[.int .i64 f0] R h :=
 Ej Tryz.func45 (by kernel_rfl) (by kernel_rfl) (by kernel_rfl) F1326_L (F1326_J B R) [] (by kernel_rfl) (by kernel_rfl) H

/-- plumb/round.Widen -/
def F1329 (B : World) (R : Po) (a0 : Int) (h : Heap) : Prop :=
 Ec B 45 #[.int .i64 a0] (retE (fun b0 c0 => ∃ d0, b0 = .float .f32 d0 ∧
 cvW .f32 d0 .f64 fun e0 =>
 Ec B 25 #[.float .f64 e0] (retE (fun f0 g0 => ∃ i0, f0 = .int .i64 i0 ∧
 R (.returned (.int .i64 i0)) g0)
(pk R)) c0)
(pk R)) h
def F1329_L : Nat → List (Nat × TypeDesc) := fun _ => []
theorem F1329_ok {B : World} {R : Ending → Heap → Prop} (a0 : Int) {h : Heap} (H : F1329 B R a0 h) : Ec B 20 #[.int .i64 a0] R h :=
 Ek Tryz.func20 (by kernel_rfl) (by kernel_rfl) (by kernel_rfl) F1329_L [] (by kernel_rfl) H

/-- plumb/bits.pattern -/
def F1330 (B : World) (R : Po) (a0 : Int) (h : Heap) : Prop :=
 R (.returned (.bool (decide (a0 = (IntKind.i64.wrap (IntKind.u32.wrap a0)))))) h
def F1330_L : Nat → List (Nat × TypeDesc) := fun _ => []
theorem F1330_ok {B : World} {R : Ending → Heap → Prop} (a0 : Int) {h : Heap} (H : F1330 B R a0 h) : Ec B 43 #[.int .i64 a0] R h :=
 Ek Tryz.func43 (by kernel_rfl) (by kernel_rfl) (by kernel_rfl) F1330_L [] (by kernel_rfl) H

/-- plumb/bits.Of32 -/
def F1332 (B : World) (R : Po) (a0 : Nat) (h : Heap) : Prop :=
((FloatKind.f32.format.order a0 a0 != some .eq) = true →
 R (.returned (.int .i64 (2143289345 : Int))) h) ∧
((FloatKind.f32.format.order a0 a0 != some .eq) = false →
 Ec B 116 #[.float .f32 a0] (retE (fun b0 c0 => ∃ d0, b0 = .int .u32 d0 ∧
 R (.returned (.int .i64 (IntKind.i64.wrap d0))) c0)
(pk R)) h)
def F1332_L : Nat → List (Nat × TypeDesc) := fun _ => []
theorem F1332_ok {B : World} {R : Ending → Heap → Prop} (a0 : Nat) {h : Heap} (H : F1332 B R a0 h) : Ec B 77 #[.float .f32 a0] R h :=
 Ek Tryz.func77 (by kernel_rfl) (by kernel_rfl) (by kernel_rfl) F1332_L [] (by kernel_rfl) H
end Go.Proofs
set_option linter.unusedVariables false
/-! binary32: words and patterns; 1 as binary32 and as binary64. -/
namespace Go.Proofs
open Go Go.Eng
variable {B : World} {R : Ending → Heap → Prop} {h : Heap}
theorem E1331 {n : Nat} (H : R (.returned (.float .f32 n)) h) : Ent Tryz.prog B 76 #[.int .u32 (n : Int)] R h :=
  Ent.of_ext (e := Extern.MathFloatBits.float32frombits) Tryz.func76 (by kernel_rfl) (by kernel_rfl) (by kernel_rfl) (by kernel_rfl) rfl H
theorem E1334 {n : Nat} (H : R (.returned (.int .u32 (n : Int))) h) : Ent Tryz.prog B 116 #[.float .f32 n] R h :=
  Ent.of_ext (e := Extern.MathFloatBits.float32bits) Tryz.func116 (by kernel_rfl) (by kernel_rfl) (by kernel_rfl) (by kernel_rfl) rfl H
abbrev S1 : Int := 1065353216
theorem K1326c (H : R (.returned (.float .f32 1065353216)) h) : Ent Tryz.prog B 45 #[.int .i64 S1] R h := by
  refine F1326_ok _ (F1330_ok _ ⟨_, rfl, fun e => absurd e (by decide +kernel), fun _ => ?_⟩)
  have e1 : IntKind.u32.wrap S1 = ((1065353216 : Nat) : Int) := by decide +kernel
  unfold F1326_j3
  rw [e1]
  exact E1331 ⟨_, rfl, H⟩
theorem dec32 : FloatKind.f32.decode 1065353216 = .number false 8388608 (-23) := by decide +kernel
theorem cv32 {K : Nat → Prop} (H : K 4607182418800017408) : cvW .f32 1065353216 .f64 K := by
  refine ⟨fun e => (by cases e), fun _ => ?_⟩
  rw [dec32]
  refine ⟨fun e => absurd e (by decide +kernel), fun _ => ?_⟩
  have : FloatKind.f64.encode (.number false 8388608 (-23)) = 4607182418800017408 := by decide +kernel
  rw [this]; exact H
end Go.Proofs
