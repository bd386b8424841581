import Derived.Test.YtobkdplpkgikhaaGreatFmtA09
import Derived.Tactics
import Derived.Recover
import Derived.Test.YtobkdplpkgikhaaGreatFmtA02
import Derived.Test.YtobkdplpkgikhaaGreatFmtA03
/- Here stand lemmas and contracts, in the order in which they are used. -/
set_option linter.unusedVariables false
namespace Go.Proofs
open Go Go.Eng
variable {B : World} {R : Ending → Heap → Prop} {h : Heap}
theorem nil_nil (w : World) : (binOp .eql 20 Value.nilIface Value.nilIface).run Tryz.prog w = .ok (.bool true) w :=
  pureRun_run (P := Tryz.prog) _ (by kernel_rfl) w
/-- dyadic.caught behind what returns. -/
theorem K62r {p : Option Addr} {K : FrameMode → Heap → Prop} (H : K .returning h) : FnD Tryz.prog B 52 #[.pointer p] .returning (dfE K) h := by
  intro n
  refine callsD_of_wpS Tryz.func52 rfl fun c₀ cs hu => ?_
  have hr : recoverD (c₀ :: cs) = none := by simp [recoverD, hu]
  apply wpS_seq
  apply wpS_region
  simp [wpOpsS, go_sem, hr, Exit.thenS, Tryz.f52]
  apply wpS_seq
  apply wpS_seq
  apply wpS_region
  simp [wpOpsS, go_sem, Exit.thenS, nil_nil]
  refine wpS_cond (t := true) (by simp [Act.eval, Array.replicate]) ?_
  simp only [if_true]
  refine wpS_of_wp (wp_ret ?_)
  refine ⟨rfl, .returning, ?_, .tuple #[], ?_, h, ⟨n, rfl⟩, H⟩
  rotate_left
  · simp [results, go_sem]
  cases c₀
  simp_all
end Go.Proofs
namespace Go.Proofs
open Go Go.Eng
/-- math.Abs -/
def F94 (B : World) (R : Po) (a0 : Nat) (h : Heap) : Prop :=
 Ec B 47 #[.float .f64 a0] (retE (fun b0 c0 => ∃ d0, b0 = .int .u64 d0 ∧
 Ec B 46 #[.int .u64 (bitsI .andNot .u64 d0 (9223372036854775808 : Int))] (retE (fun e0 f0 => ∃ g0, e0 = .float .f64 g0 ∧
 R (.returned (.float .f64 g0)) f0)
(pk R)) c0)
(pk R)) h
def F94_L : Nat → List (Nat × TypeDesc) := fun _ => []
theorem F94_ok {B : World} {R : Ending → Heap → Prop} (a0 : Nat) {h : Heap} (H : F94 B R a0 h) : Ec B 26 #[.float .f64 a0] R h :=
 Ek Tryz.func26 (by kernel_rfl) (by kernel_rfl) (by kernel_rfl) F94_L [] (by kernel_rfl) H
end Go.Proofs
namespace Go.Eng
open Go
abbrev INF : Nat := 9218868437227405312
/-- A number in a float's form. -/
theorem rung_norm {a : Nat} {x : Int} (h0 : a ≠ 0) (ha : a ≤ 9007199254740992) (hx : -1074 ≤ x) (hn : x = -1074 ∨ 4503599627370496 ≤ a) : rung a x = min ((x + 1074).toNat * 4503599627370496 + a) INF := by
  have hl := (Nat.log2_eq_iff h0).1 rfl
  unfold rung kpt
  by_cases h1 : a = 9007199254740992
  · subst h1
    have e : (9007199254740992 : Nat).log2 = 53 := by decide +kernel
    have hL : lastP 9007199254740992 x = x + 1 := by unfold lastP; rw [e]; omega
    rw [hL, show (x - (x + 1)).toNat = 0 by omega, show (x + 1 - x).toNat = 1 by omega]
    have : rn (9007199254740992 * 2 ^ 0) 1 = 4503599627370496 := by decide +kernel
    rw [this, show (x + 1 + 1074).toNat * 4503599627370496 + 4503599627370496 = (x + 1074).toNat * 4503599627370496 + 9007199254740992 by omega]
  · have hlt : a < 2 ^ 53 := by omega
    have hlog : a.log2 ≤ 52 := by
      have : 2 ^ a.log2 < 2 ^ 53 := by omega
      have := (Nat.pow_lt_pow_iff_right (by decide : 1 < 2)).1 this
      omega
    have hL : lastP a x = x := by
      unfold lastP
      rcases hn with h | h
      · omega
      · have : 2 ^ 52 < 2 ^ (a.log2 + 1) := by omega
        have := (Nat.pow_lt_pow_iff_right (by decide : 1 < 2)).1 this
        omega
    rw [hL, Int.sub_self, Int.toNat_zero, Nat.pow_zero, Nat.mul_one, rn_zero]
/-- The greatest rung. -/
theorem rung_form {m : Nat} (e : Int) : rung m e = min ((lastP m e + 1074).toNat * 4503599627370496 + kpt m e) INF := rfl
theorem lastP_ge (m : Nat) (e : Int) : -1074 ≤ lastP m e := by unfold lastP; omega
theorem isInf_rung {r : Nat} (hr : r < 9223372036854775808) : (Ieee.double.order r 9218868437227405311 == some .gt) = isInf (r : Int) := by
  have hI : I64 (r : Int) := by unfold I64; omega
  have hw : wd (r : Int) = r := by unfold wd; omega
  have hM : Ieee.double.read 9218868437227405311 = .number false 9007199254740991 971 := by decide +kernel
  unfold Ieee.Format.order
  rw [hM]
  have hneg : decide ((r : Int) < 0) = false := by simp
  have hl := look hI
  rw [hw, hneg] at hl
  rcases hl with ⟨a1, a2, a3, a4⟩ | ⟨a1, a2, a3, a4⟩ | ⟨a1, a2, a3, a4⟩
  · rw [a4, a2]
    have hE : fE (r : Int) < 2047 := by
      unfold isFin at a1; exact of_decide_eq_true a1
    have hM1 : fM (r : Int) ≤ 9007199254740991 := by
      have := fT_lt (r : Int)
      unfold fM; split <;> omega
    have hX : fX (r : Int) ≤ 971 := by unfold fX; split <;> omega
    have ho : Ieee.Datum.order (.number false (fM (r : Int)) (fX (r : Int))) (.number false 9007199254740991 971) =
        some (compare (Ieee.signed false (fM (r : Int)) (fX (r : Int) - min (fX (r : Int)) 971).toNat) (Ieee.signed false 9007199254740991 ((971 : Int) - min (fX (r : Int)) 971).toNat)) := rfl
    rw [ho, show min (fX (r : Int)) 971 = fX (r : Int) by omega, Int.sub_self, Int.toNat_zero]
    generalize ((971 : Int) - fX (r : Int)).toNat = k
    have h1 : Ieee.signed false (fM (r : Int)) 0 = (fM (r : Int) : Int) := by unfold Ieee.signed; simp
    have h2 : Ieee.signed false 9007199254740991 k = ((9007199254740991 * 2 ^ k : Nat) : Int) := by unfold Ieee.signed; rw [Nat.shiftLeft_eq]; simp
    rw [h1, h2]
    have hk : 0 < 2 ^ k := Nat.pow_pos (by decide)
    have hle : fM (r : Int) ≤ 9007199254740991 * 2 ^ k := Nat.le_trans hM1 (Nat.le_mul_of_pos_right _ hk)
    have hc : ∀ a b : Int, a ≤ b → compare a b ≠ .gt := by
      intro a b hab
      show compareOfLessAndEq a b ≠ .gt
      unfold compareOfLessAndEq
      split
      · simp
      · split
        · simp
        · omega
    have := hc (fM (r : Int) : Int) ((9007199254740991 * 2 ^ k : Nat) : Int) (by omega)
    simpa using this
  · rw [a4, a2]; rfl
  · rw [a4, a2]; rfl
theorem compare_self (a : Int) : compare a a = .eq := by
  show compareOfLessAndEq a a = .eq
  unfold compareOfLessAndEq
  rw [if_neg (by omega), if_pos rfl]
theorem order_self {w : Nat} (h : w < 18446744073709551616) : (Ieee.double.order w w != some .eq) = isNaN (sg w) := by
  unfold Ieee.Format.order
  have hl := look (sg_I64 h)
  rw [wd_sg h] at hl
  rcases hl with ⟨a1, a2, a3, a4⟩ | ⟨a1, a2, a3, a4⟩ | ⟨a1, a2, a3, a4⟩
  · rw [a4, a3]
    have ho : ∀ s m e, Ieee.Datum.order (.number s m e) (.number s m e) = some (compare (Ieee.signed s m (e - min e e).toNat) (Ieee.signed s m (e - min e e).toNat)) := fun _ _ _ => rfl
    rw [ho, compare_self]; rfl
  · rw [a4, a3]
    have ho : ∀ s : Bool, Ieee.Datum.order (.infinity s) (.infinity s) = some (compare s.toNat s.toNat) := fun _ => rfl
    rw [ho]
    cases decide (sg w < 0) <;> rfl
  · rw [a4, a3]; rfl
/-- What a float's operation gives, told. -/
theorem flW_in {f : Nat → Nat → Option Nat} {x y : Nat} {K : Nat → Prop} (hf : ∀ z, f x y = some z → z < 18446744073709551616 ∧ nrm (sg z) = sg z)
    (H : ∀ z, z < 18446744073709551616 → nrm (sg z) = opR (f x y) → K z) : flW .f64 (f x y) x y K := by
  refine ⟨fun z hz => ?_, fun hz t => ?_⟩
  · obtain ⟨h1, h2⟩ := hf z hz
    exact H z h1 (by rw [h2, hz]; rfl)
  · have hc : Question.cut (.nanBits .f64 x y) t = (t % 2) * 2 ^ 63 + 0x7ff0000000000000 + 1 + (t / 2) % (2 ^ 52 - 1) := rfl
    have hb : (t / 2) % (2 ^ 52 - 1) < 2 ^ 52 - 1 := Nat.mod_lt _ (by decide)
    refine H _ (by rw [hc]; omega) ?_
    rw [hz, hc]
    show nrm _ = NaNP
    have hn : isNaN (sg ((t % 2) * 2 ^ 63 + 0x7ff0000000000000 + 1 + (t / 2) % (2 ^ 52 - 1))) = true := by
      generalize (t / 2) % (2 ^ 52 - 1) = u at *
      have key : fE (sg ((t % 2) * 2 ^ 63 + 0x7ff0000000000000 + 1 + u)) = 2047 ∧ fT (sg ((t % 2) * 2 ^ 63 + 0x7ff0000000000000 + 1 + u)) = u + 1 := by
        unfold fE fT sg
        rcases Nat.mod_two_eq_zero_or_one t with h | h <;> rw [h] <;> split <;> omega
      unfold isNaN
      rw [key.1, key.2]
      simp
    unfold nrm; rw [hn]; rfl
theorem fadd_in {x y : Nat} {K : Nat → Prop} (hx : x < 18446744073709551616) (hy : y < 18446744073709551616) (H : ∀ z, z < 18446744073709551616 → nrm (sg z) = addP (nrm (sg x)) (nrm (sg y)) → K z) : flW .f64 (FloatKind.f64.format.add x y) x y K := by
  refine flW_in (f := Ieee.double.add) (fun z hz => map_write (fun d hd => sum_nan _ _ d hd) hz) fun z h1 h2 => H z h1 ?_
  have := add_opR (sg_I64 hx) (sg_I64 hy)
  rw [wd_sg hx, wd_sg hy] at this
  rw [h2, this, addP_nl, addP_nr]
theorem fsub_in {x y : Nat} {K : Nat → Prop} (hx : x < 18446744073709551616) (hy : y < 18446744073709551616) (H : ∀ z, z < 18446744073709551616 → nrm (sg z) = subP (nrm (sg x)) (nrm (sg y)) → K z) : flW .f64 (FloatKind.f64.format.sub x y) x y K := by
  refine flW_in (f := Ieee.double.sub) (fun z hz => map_write (fun d hd => sum_nan _ _ d hd) hz) fun z h1 h2 => H z h1 ?_
  have := sub_opR (sg_I64 hx) (sg_I64 hy)
  rw [wd_sg hx, wd_sg hy] at this
  rw [h2, this, subP_nl, subP_nr]
theorem fmul_in {x y : Nat} {K : Nat → Prop} (hx : x < 18446744073709551616) (hy : y < 18446744073709551616) (H : ∀ z, z < 18446744073709551616 → nrm (sg z) = mulP (nrm (sg x)) (nrm (sg y)) → K z) : flW .f64 (FloatKind.f64.format.mul x y) x y K := by
  refine flW_in (f := Ieee.double.mul) (fun z hz => map_write (fun d hd => prod_nan _ _ d hd) hz) fun z h1 h2 => H z h1 ?_
  have := mul_opR (sg_I64 hx) (sg_I64 hy)
  rw [wd_sg hx, wd_sg hy] at this
  rw [h2, this, mulP_nl, mulP_nr]
/-- A pattern's class. -/
def cls (b : Int) : Int := if fE b = 2047 ∧ fT b = 0 then 3 else if fE b = 2047 then 4 else if 0 < fE b then 2 else if 0 < fT b then 1 else 0
theorem cls_fin (b : Int) : decide (cls b < 3) = isFin b := by
  have := fE_lt b
  unfold cls isFin
  by_cases h1 : fE b = 2047
  · by_cases h2 : fT b = 0 <;> simp [h1, h2]
  · have h3 : fE b < 2047 := by omega
    simp only [h1, false_and, if_false]
    split
    · simp [h3]
    · split <;> simp [h3]
theorem cls_nan (b : Int) : decide (cls b = 4) = isNaN b := by
  unfold cls isNaN
  by_cases h1 : fE b = 2047
  · by_cases h2 : fT b = 0 <;> simp [h1, h2]
  · simp only [h1, false_and, if_false]
    split
    · simp
    · split <;> simp
end Go.Eng
set_option linter.unusedVariables false
/-! Rounding in the four ways, by the rungs of binary64: ahead of the sign. -/
namespace Go.Eng
open Go
/-- How many places are cut off. -/
def cutD (m : Nat) (e : Int) : Nat := (lastP m e - e).toNat
/-- The number, brought to the last place where it is coarser. -/
def cutX (m : Nat) (e : Int) : Nat := m * 2 ^ (e - lastP m e).toNat
/-- The rung below or at the number (there may be no such one). -/
def flo (m : Nat) (e : Int) : Nat := (lastP m e + 1074).toNat * 4503599627370496 + cutX m e / 2 ^ cutD m e
/-- Is anything left above that rung? -/
def odd (m : Nat) (e : Int) : Bool := decide (cutX m e % 2 ^ cutD m e ≠ 0)
/-- Is the next rung the nearest one? -/
def incN (m : Nat) (e : Int) : Bool := decide (2 ^ cutD m e < 2 * (cutX m e % 2 ^ cutD m e) ∨ (2 ^ cutD m e = 2 * (cutX m e % 2 ^ cutD m e) ∧ cutX m e / 2 ^ cutD m e % 2 = 1))
/-- Away from 0? (0 to the nearest, 1 down, 2 up, 3 to 0.) -/
def awayW (w : Nat) (neg : Bool) (m : Nat) (e : Int) : Bool :=
  match w with
  | 0 => incN m e
  | 1 => neg && odd m e
  | 2 => !neg && odd m e
  | _ => false
/-- Is what is too great infinite? -/
def topW (w : Nat) (neg : Bool) : Bool :=
  match w with
  | 0 => true
  | 1 => neg
  | 2 => !neg
  | _ => false
def idxW (w : Nat) (neg : Bool) (m : Nat) (e : Int) : Nat := flo m e + (awayW w neg m e).toNat
/-- The rung of a number in a way. -/
def dirP (w : Nat) (neg : Bool) (m : Nat) (e : Int) : Nat := if idxW w neg m e < INF then idxW w neg m e else if topW w neg then INF else INF - 1
/-- Is it another number? -/
def inx (w : Nat) (neg : Bool) (m : Nat) (e : Int) : Bool := odd m e || decide (INF ≤ idxW w neg m e)

theorem incN_odd {m : Nat} {e : Int} (h : incN m e = true) : odd m e = true := by
  unfold incN at h
  unfold odd
  have hp : 0 < 2 ^ cutD m e := Nat.pow_pos (by decide)
  rw [decide_eq_true_eq] at h ⊢
  omega
theorem rung_idx (m : Nat) (e : Int) (neg : Bool) : rung m e = min (idxW 0 neg m e) INF := by
  unfold idxW awayW
  have : kpt m e = cutX m e / 2 ^ cutD m e + (incN m e).toNat := by
    unfold kpt rn incN cutX cutD
    congr 1
    generalize (m * 2 ^ (e - lastP m e).toNat) = X
    generalize (lastP m e - e).toNat = d
    by_cases h : 2 ^ d < 2 * (X % 2 ^ d) ∨ (2 ^ d = 2 * (X % 2 ^ d) ∧ X / 2 ^ d % 2 = 1)
    · rw [if_pos h]; simp [h]
    · rw [if_neg h]; simp [h]
  rw [rung_form, this]
  unfold flo
  rw [Nat.add_assoc]
  rfl
theorem rung_dir (m : Nat) (e : Int) (neg : Bool) : rung m e = dirP 0 neg m e := by
  rw [rung_idx m e neg]
  unfold dirP
  split
  · omega
  · show _ = INF
    omega
theorem dirP_le (w : Nat) (neg : Bool) (m : Nat) (e : Int) : dirP w neg m e ≤ INF := by
  unfold dirP
  have hI : INF = 9218868437227405312 := rfl
  split
  · omega
  · split <;> omega
/-- Is the nearest one above, signs aside? (What is exact is not.) -/
def upN (m : Nat) (e : Int) : Bool := incN m e || decide (INF ≤ flo m e)
/-- Is the nearest one another number? -/
def inxN (m : Nat) (e : Int) : Bool := odd m e || decide (INF ≤ flo m e)
theorem inx_near (m : Nat) (e : Int) (w : Nat) (neg : Bool) : inx w neg m e = inxN m e := by
  unfold inx inxN idxW
  cases ho : odd m e
  · have : awayW w neg m e = false := by
      unfold awayW
      have hi : incN m e = false := by
        cases h : incN m e
        · rfl
        · rw [incN_odd h] at ho; cases ho
      split <;> simp [ho, hi]
    rw [this]; simp
  · simp
/-- The ways by the nearest one and whether it lies above. -/
theorem dir_near (w : Nat) (neg : Bool) (m : Nat) (e : Int) : dirP w neg m e =
    if inxN m e = false then rung m e else
    match w with
    | 0 => rung m e
    | 1 => if neg then (if upN m e then rung m e else rung m e + 1) else (if upN m e then rung m e - 1 else rung m e)
    | 2 => if neg then (if upN m e then rung m e - 1 else rung m e) else (if upN m e then rung m e else rung m e + 1)
    | _ => if upN m e then rung m e - 1 else rung m e := by
  have hI : 0 < INF := by decide
  have hr := rung_idx m e neg
  unfold idxW at hr
  have hw0 : awayW 0 neg m e = incN m e := rfl
  rw [hw0] at hr
  unfold dirP idxW inxN upN topW
  have hio := @incN_odd m e
  generalize flo m e = q at *
  generalize INF = J at *
  rw [hr]
  cases ho : odd m e
  · have hi : incN m e = false := by
      cases h : incN m e
      · rfl
      · rw [hio h] at ho; cases ho
    rw [hi]
    have ha : awayW w neg m e = false := by unfold awayW; split <;> simp [ho, hi]
    rw [ha]
    by_cases hq : q < J
    · have : ¬ J ≤ q := by omega
      simp only [Bool.toNat_false, Nat.add_zero, if_pos hq, Bool.false_or, this, decide_false, if_true]
      omega
    · have h2 : J ≤ q := by omega
      simp only [Bool.toNat_false, Nat.add_zero, if_neg hq, Bool.false_or, h2, decide_true, Bool.true_eq_false, if_false, if_true, Nat.min_eq_right h2]
      match w with
      | 0 => simp
      | 1 => cases neg <;> simp
      | 2 => cases neg <;> simp
      | n + 3 => simp
  · simp only [Bool.true_or, Bool.true_eq_false, if_false]
    unfold awayW
    match w with
    | 0 =>
      simp only [if_true]
      split <;> omega
    | 1 =>
      cases neg <;> cases hi : incN m e <;> simp [ho] <;> (repeat' split) <;> (try simp at *) <;> omega
    | 2 =>
      cases neg <;> cases hi : incN m e <;> simp [ho] <;> (repeat' split) <;> (try simp at *) <;> omega
    | n + 3 =>
      cases hi : incN m e <;> simp <;> (repeat' split) <;> (try simp at *) <;> omega
end Go.Eng
