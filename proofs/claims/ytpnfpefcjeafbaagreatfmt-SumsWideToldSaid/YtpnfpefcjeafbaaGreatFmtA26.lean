import Derived.Test.YtpnfpefcjeafbaaGreatFmtA09
import Derived.Tactics
import Derived.Recover
import Derived.Test.YtpnfpefcjeafbaaGreatFmtA02
import Derived.Test.YtpnfpefcjeafbaaGreatFmtA03
import Derived.Test.YtpnfpefcjeafbaaGreatFmtA25
/- Here stand lemmas and contracts, in the order in which they are used. -/
set_option linter.unusedVariables false
namespace Go.Proofs
open Go Go.Eng
variable {B : World} {R : Ending → Heap → Prop} {h : Heap}
theorem nil_nil (w : World) : (binOp .eql 20 Value.nilIface Value.nilIface).run Tryz.prog w = .ok (.bool true) w :=
  pureRun_run (P := Tryz.prog) _ (by kernel_rfl) w
/-- dyadic.caught behind what returns. -/
theorem K62r {p : Option Addr} {K : FrameMode → Heap → Prop} (H : K .returning h) : FnD Tryz.prog B 86 #[.pointer p] .returning (dfE K) h := by
  intro n
  refine callsD_of_wpS Tryz.func86 rfl fun c₀ cs hu => ?_
  have hr : recoverD (c₀ :: cs) = none := by simp [recoverD, hu]
  apply wpS_seq
  apply wpS_region
  simp [wpOpsS, go_sem, hr, Exit.thenS, Tryz.f86]
  apply wpS_seq
  apply wpS_seq
  apply wpS_region
  simp [wpOpsS, go_sem, Exit.thenS, nil_nil]
  refine wpS_cond (t := true) (by simp [Act.eval, Array.replicate]) ?_
  simp only [if_true]
  refine wpS_of_wp (wp_ret ?_)
  refine ⟨rfl, .returning, ?_, .tuple #[], ?_, h, ⟨n, rfl⟩, H⟩
  rotate_left
  · simp [results, go_sem]
  cases c₀
  simp_all
end Go.Proofs
namespace Go.Proofs
open Go Go.Eng
/-- math.Abs -/
def F94 (B : World) (R : Po) (a0 : Nat) (h : Heap) : Prop :=
 Ec B 56 #[.float .f64 a0] (retE (fun b0 c0 => ∃ d0, b0 = .int .u64 d0 ∧
 Ec B 64 #[.int .u64 (bitsI .andNot .u64 d0 (9223372036854775808 : Int))] (retE (fun e0 f0 => ∃ g0, e0 = .float .f64 g0 ∧
 R (.returned (.float .f64 g0)) f0)
(pk R)) c0)
(pk R)) h
def F94_L : Nat → List (Nat × TypeDesc) := fun _ => []
theorem F94_ok {B : World} {R : Ending → Heap → Prop} (a0 : Nat) {h : Heap} (H : F94 B R a0 h) : Ec B 35 #[.float .f64 a0] R h :=
 Ek Tryz.func35 (by kernel_rfl) (by kernel_rfl) (by kernel_rfl) F94_L [] (by kernel_rfl) H
end Go.Proofs
namespace Go.Eng
open Go
abbrev INF : Nat := 9218868437227405312
/-- The greatest rung. -/
theorem rung_form {m : Nat} (e : Int) : rung m e = min ((lastP m e + 1074).toNat * 4503599627370496 + kpt m e) INF := rfl
theorem isInf_rung {r : Nat} (hr : r < 9223372036854775808) : (Ieee.double.order r 9218868437227405311 == some .gt) = isInf (r : Int) := by
  have hI : I64 (r : Int) := by unfold I64; omega
  have hw : wd (r : Int) = r := by unfold wd; omega
  have hM : Ieee.double.read 9218868437227405311 = .number false 9007199254740991 971 := by decide +kernel
  unfold Ieee.Format.order
  rw [hM]
  have hneg : decide ((r : Int) < 0) = false := by simp
  have hl := look hI
  rw [hw, hneg] at hl
  rcases hl with ⟨a1, a2, a3, a4⟩ | ⟨a1, a2, a3, a4⟩ | ⟨a1, a2, a3, a4⟩
  · rw [a4, a2]
    have hE : fE (r : Int) < 2047 := by
      unfold isFin at a1; exact of_decide_eq_true a1
    have hM1 : fM (r : Int) ≤ 9007199254740991 := by
      have := fT_lt (r : Int)
      unfold fM; split <;> omega
    have hX : fX (r : Int) ≤ 971 := by unfold fX; split <;> omega
    have ho : Ieee.Datum.order (.number false (fM (r : Int)) (fX (r : Int))) (.number false 9007199254740991 971) =
        some (compare (Ieee.signed false (fM (r : Int)) (fX (r : Int) - min (fX (r : Int)) 971).toNat) (Ieee.signed false 9007199254740991 ((971 : Int) - min (fX (r : Int)) 971).toNat)) := rfl
    rw [ho, show min (fX (r : Int)) 971 = fX (r : Int) by omega, Int.sub_self, Int.toNat_zero]
    generalize ((971 : Int) - fX (r : Int)).toNat = k
    have h1 : Ieee.signed false (fM (r : Int)) 0 = (fM (r : Int) : Int) := by unfold Ieee.signed; simp
    have h2 : Ieee.signed false 9007199254740991 k = ((9007199254740991 * 2 ^ k : Nat) : Int) := by unfold Ieee.signed; rw [Nat.shiftLeft_eq]; simp
    rw [h1, h2]
    have hk : 0 < 2 ^ k := Nat.pow_pos (by decide)
    have hle : fM (r : Int) ≤ 9007199254740991 * 2 ^ k := Nat.le_trans hM1 (Nat.le_mul_of_pos_right _ hk)
    have hc : ∀ a b : Int, a ≤ b → compare a b ≠ .gt := by
      intro a b hab
      show compareOfLessAndEq a b ≠ .gt
      unfold compareOfLessAndEq
      split
      · simp
      · split
        · simp
        · omega
    have := hc (fM (r : Int) : Int) ((9007199254740991 * 2 ^ k : Nat) : Int) (by omega)
    simpa using this
  · rw [a4, a2]; rfl
  · rw [a4, a2]; rfl
theorem compare_self (a : Int) : compare a a = .eq := by
  show compareOfLessAndEq a a = .eq
  unfold compareOfLessAndEq
  rw [if_neg (by omega), if_pos rfl]
theorem order_self {w : Nat} (h : w < 18446744073709551616) : (Ieee.double.order w w != some .eq) = isNaN (sg w) := by
  unfold Ieee.Format.order
  have hl := look (sg_I64 h)
  rw [wd_sg h] at hl
  rcases hl with ⟨a1, a2, a3, a4⟩ | ⟨a1, a2, a3, a4⟩ | ⟨a1, a2, a3, a4⟩
  · rw [a4, a3]
    have ho : ∀ s m e, Ieee.Datum.order (.number s m e) (.number s m e) = some (compare (Ieee.signed s m (e - min e e).toNat) (Ieee.signed s m (e - min e e).toNat)) := fun _ _ _ => rfl
    rw [ho, compare_self]; rfl
  · rw [a4, a3]
    have ho : ∀ s : Bool, Ieee.Datum.order (.infinity s) (.infinity s) = some (compare s.toNat s.toNat) := fun _ => rfl
    rw [ho]
    cases decide (sg w < 0) <;> rfl
  · rw [a4, a3]; rfl
/-- What a float's operation gives, told. -/
theorem flW_in {f : Nat → Nat → Option Nat} {x y : Nat} {K : Nat → Prop} (hf : ∀ z, f x y = some z → z < 18446744073709551616 ∧ nrm (sg z) = sg z)
    (H : ∀ z, z < 18446744073709551616 → nrm (sg z) = opR (f x y) → K z) : flW .f64 (f x y) x y K := by
  refine ⟨fun z hz => ?_, fun hz t => ?_⟩
  · obtain ⟨h1, h2⟩ := hf z hz
    exact H z h1 (by rw [h2, hz]; rfl)
  · have hc : Question.cut (.nanBits .f64 x y) t = (t % 2) * 2 ^ 63 + 0x7ff0000000000000 + 1 + (t / 2) % (2 ^ 52 - 1) := rfl
    have hb : (t / 2) % (2 ^ 52 - 1) < 2 ^ 52 - 1 := Nat.mod_lt _ (by decide)
    refine H _ (by rw [hc]; omega) ?_
    rw [hz, hc]
    show nrm _ = NaNP
    have hn : isNaN (sg ((t % 2) * 2 ^ 63 + 0x7ff0000000000000 + 1 + (t / 2) % (2 ^ 52 - 1))) = true := by
      generalize (t / 2) % (2 ^ 52 - 1) = u at *
      have key : fE (sg ((t % 2) * 2 ^ 63 + 0x7ff0000000000000 + 1 + u)) = 2047 ∧ fT (sg ((t % 2) * 2 ^ 63 + 0x7ff0000000000000 + 1 + u)) = u + 1 := by
        unfold fE fT sg
        rcases Nat.mod_two_eq_zero_or_one t with h | h <;> rw [h] <;> split <;> omega
      unfold isNaN
      rw [key.1, key.2]
      simp
    unfold nrm; rw [hn]; rfl
theorem fadd_in {x y : Nat} {K : Nat → Prop} (hx : x < 18446744073709551616) (hy : y < 18446744073709551616) (H : ∀ z, z < 18446744073709551616 → nrm (sg z) = addP (nrm (sg x)) (nrm (sg y)) → K z) : flW .f64 (FloatKind.f64.format.add x y) x y K := by
  refine flW_in (f := Ieee.double.add) (fun z hz => map_write (fun d hd => sum_nan _ _ d hd) hz) fun z h1 h2 => H z h1 ?_
  have := add_opR (sg_I64 hx) (sg_I64 hy)
  rw [wd_sg hx, wd_sg hy] at this
  rw [h2, this, addP_nl, addP_nr]
theorem fsub_in {x y : Nat} {K : Nat → Prop} (hx : x < 18446744073709551616) (hy : y < 18446744073709551616) (H : ∀ z, z < 18446744073709551616 → nrm (sg z) = subP (nrm (sg x)) (nrm (sg y)) → K z) : flW .f64 (FloatKind.f64.format.sub x y) x y K := by
  refine flW_in (f := Ieee.double.sub) (fun z hz => map_write (fun d hd => sum_nan _ _ d hd) hz) fun z h1 h2 => H z h1 ?_
  have := sub_opR (sg_I64 hx) (sg_I64 hy)
  rw [wd_sg hx, wd_sg hy] at this
  rw [h2, this, subP_nl, subP_nr]
theorem fmul_in {x y : Nat} {K : Nat → Prop} (hx : x < 18446744073709551616) (hy : y < 18446744073709551616) (H : ∀ z, z < 18446744073709551616 → nrm (sg z) = mulP (nrm (sg x)) (nrm (sg y)) → K z) : flW .f64 (FloatKind.f64.format.mul x y) x y K := by
  refine flW_in (f := Ieee.double.mul) (fun z hz => map_write (fun d hd => prod_nan _ _ d hd) hz) fun z h1 h2 => H z h1 ?_
  have := mul_opR (sg_I64 hx) (sg_I64 hy)
  rw [wd_sg hx, wd_sg hy] at this
  rw [h2, this, mulP_nl, mulP_nr]
/-- A pattern's class. -/
def cls (b : Int) : Int := if fE b = 2047 ∧ fT b = 0 then 3 else if fE b = 2047 then 4 else if 0 < fE b then 2 else if 0 < fT b then 1 else 0
theorem cls_nan (b : Int) : decide (cls b = 4) = isNaN b := by
  unfold cls isNaN
  by_cases h1 : fE b = 2047
  · by_cases h2 : fT b = 0 <;> simp [h1, h2]
  · simp only [h1, false_and, if_false]
    split
    · simp
    · split <;> simp
end Go.Eng
set_option linter.unusedVariables false
/-! Rounding in the four ways, by the rungs of binary64: ahead of the sign. -/
namespace Go.Eng
open Go
/-- How many places are cut off. -/
def cutD (m : Nat) (e : Int) : Nat := (lastP m e - e).toNat
/-- The number, brought to the last place where it is coarser. -/
def cutX (m : Nat) (e : Int) : Nat := m * 2 ^ (e - lastP m e).toNat
/-- The rung below or at the number (there may be no such one). -/
def flo (m : Nat) (e : Int) : Nat := (lastP m e + 1074).toNat * 4503599627370496 + cutX m e / 2 ^ cutD m e
/-- Is anything left above that rung? -/
def odd (m : Nat) (e : Int) : Bool := decide (cutX m e % 2 ^ cutD m e ≠ 0)
/-- Is the next rung the nearest one? -/
def incN (m : Nat) (e : Int) : Bool := decide (2 ^ cutD m e < 2 * (cutX m e % 2 ^ cutD m e) ∨ (2 ^ cutD m e = 2 * (cutX m e % 2 ^ cutD m e) ∧ cutX m e / 2 ^ cutD m e % 2 = 1))
/-- Away from 0? (0 to the nearest, 1 down, 2 up, 3 to 0.) -/
def awayW (w : Nat) (neg : Bool) (m : Nat) (e : Int) : Bool :=
  match w with
  | 0 => incN m e
  | 1 => neg && odd m e
  | 2 => !neg && odd m e
  | _ => false
/-- Is what is too great infinite? -/
def topW (w : Nat) (neg : Bool) : Bool :=
  match w with
  | 0 => true
  | 1 => neg
  | 2 => !neg
  | _ => false
def idxW (w : Nat) (neg : Bool) (m : Nat) (e : Int) : Nat := flo m e + (awayW w neg m e).toNat
/-- The rung of a number in a way. -/
def dirP (w : Nat) (neg : Bool) (m : Nat) (e : Int) : Nat := if idxW w neg m e < INF then idxW w neg m e else if topW w neg then INF else INF - 1
theorem incN_odd {m : Nat} {e : Int} (h : incN m e = true) : odd m e = true := by
  unfold incN at h
  unfold odd
  have hp : 0 < 2 ^ cutD m e := Nat.pow_pos (by decide)
  rw [decide_eq_true_eq] at h ⊢
  omega
theorem rung_idx (m : Nat) (e : Int) (neg : Bool) : rung m e = min (idxW 0 neg m e) INF := by
  unfold idxW awayW
  have : kpt m e = cutX m e / 2 ^ cutD m e + (incN m e).toNat := by
    unfold kpt rn incN cutX cutD
    congr 1
    generalize (m * 2 ^ (e - lastP m e).toNat) = X
    generalize (lastP m e - e).toNat = d
    by_cases h : 2 ^ d < 2 * (X % 2 ^ d) ∨ (2 ^ d = 2 * (X % 2 ^ d) ∧ X / 2 ^ d % 2 = 1)
    · rw [if_pos h]; simp [h]
    · rw [if_neg h]; simp [h]
  rw [rung_form, this]
  unfold flo
  rw [Nat.add_assoc]
  rfl
theorem dirP_le (w : Nat) (neg : Bool) (m : Nat) (e : Int) : dirP w neg m e ≤ INF := by
  unfold dirP
  have hI : INF = 9218868437227405312 := rfl
  split
  · omega
  · split <;> omega
/-- Is the nearest one above, signs aside? (What is exact is not.) -/
def upN (m : Nat) (e : Int) : Bool := incN m e || decide (INF ≤ flo m e)
/-- Is the nearest one another number? -/
def inxN (m : Nat) (e : Int) : Bool := odd m e || decide (INF ≤ flo m e)
/-- The ways by the nearest one and whether it lies above. -/
theorem dir_near (w : Nat) (neg : Bool) (m : Nat) (e : Int) : dirP w neg m e =
    if inxN m e = false then rung m e else
    match w with
    | 0 => rung m e
    | 1 => if neg then (if upN m e then rung m e else rung m e + 1) else (if upN m e then rung m e - 1 else rung m e)
    | 2 => if neg then (if upN m e then rung m e - 1 else rung m e) else (if upN m e then rung m e else rung m e + 1)
    | _ => if upN m e then rung m e - 1 else rung m e := by
  have hI : 0 < INF := by decide
  have hr := rung_idx m e neg
  unfold idxW at hr
  have hw0 : awayW 0 neg m e = incN m e := rfl
  rw [hw0] at hr
  unfold dirP idxW inxN upN topW
  have hio := @incN_odd m e
  generalize flo m e = q at *
  generalize INF = J at *
  rw [hr]
  cases ho : odd m e
  · have hi : incN m e = false := by
      cases h : incN m e
      · rfl
      · rw [hio h] at ho; cases ho
    rw [hi]
    have ha : awayW w neg m e = false := by unfold awayW; split <;> simp [ho, hi]
    rw [ha]
    by_cases hq : q < J
    · have : ¬ J ≤ q := by omega
      simp only [Bool.toNat_false, Nat.add_zero, if_pos hq, Bool.false_or, this, decide_false, if_true]
      omega
    · have h2 : J ≤ q := by omega
      simp only [Bool.toNat_false, Nat.add_zero, if_neg hq, Bool.false_or, h2, decide_true, Bool.true_eq_false, if_false, if_true, Nat.min_eq_right h2]
      match w with
      | 0 => simp
      | 1 => cases neg <;> simp
      | 2 => cases neg <;> simp
      | n + 3 => simp
  · simp only [Bool.true_or, Bool.true_eq_false, if_false]
    unfold awayW
    match w with
    | 0 =>
      simp only [if_true]
      split <;> omega
    | 1 =>
      cases neg <;> cases hi : incN m e <;> simp [ho] <;> (repeat' split) <;> (try simp at *) <;> omega
    | 2 =>
      cases neg <;> cases hi : incN m e <;> simp [ho] <;> (repeat' split) <;> (try simp at *) <;> omega
    | n + 3 =>
      cases hi : incN m e <;> simp <;> (repeat' split) <;> (try simp at *) <;> omega
end Go.Eng
namespace Go.Eng
open Go
theorem growBy_le (n : Nat) : ∀ (r c : Nat), c ≤ 2 * n + 200 → Builtin.growBy n r c ≤ 2 * n + 200
  | 0, c, h => h
  | r + 1, c, h => by
    unfold Builtin.growBy
    split
    · exact h
    · exact growBy_le n r _ (by omega)
theorem nsc_le {n c : Nat} (h : c < n) : Builtin.nextslicecap n c ≤ 2 * n + 200 := by
  unfold Builtin.nextslicecap
  split
  · omega
  · split
    · omega
    · exact growBy_le n 4 c (by omega)
/-- A list that is being made, in blocks that h0 has not. -/
structure Lst (h0 h : Heap) (p : Option Addr) (n c : Nat) (ws : List Nat) : Prop where
  sl : Sl .i64 h p ws
  len : ws.length = n
  room : Room h p c (fun b => h0.size ≤ b)
  le : n ≤ c
  pt : Pt p
  fresh : Fresh h0 p
theorem Lst.nil {h0 h : Heap} : Lst h0 h none 0 0 [] := ⟨Sl.nil, rfl, .inl rfl, Nat.le_refl _, .inl rfl, Fresh.nil⟩
theorem Lst.fr {h0 h h' : Heap} {p : Option Addr} {n c : Nat} {ws : List Nat} (L : Lst h0 h p n c ws) (f : Ext h h') : Lst h0 h' p n c ws := ⟨L.sl.ext f, L.len, L.room.ext f, L.le, L.pt, L.fresh⟩
theorem i64_nat {x : Nat} (h : x < 9223372036854775808) : IntKind.i64.wrap (x : Int) = (x : Int) := wrap_i64_in (by omega) (by omega)
end Go.Eng
namespace Go.Proofs
open Go Go.Eng
variable {B : World} {R : Ending → Heap → Prop} {h : Heap}
/-- Digits to the base 2^30, perhaps with zeros on top. -/
structure DigU (h : Heap) (p : Option Addr) (n : Nat) (ds : List Nat) : Prop where
  pt : Pt p
  sl : Sl .i64 h p ds
  len : ds.length = n
  dig : Dig B30 ds
theorem DigI.u {p : Option Addr} {n : Nat} {ds : List Nat} (H : DigI h p n ds) : DigU h p n ds := ⟨H.pt, H.sl, H.len, H.dig⟩
theorem DigU.ext {h' : Heap} {p : Option Addr} {n : Nat} {ds : List Nat} (H : DigU h p n ds) (f : Ext h h') : DigU h' p n ds := ⟨H.pt, H.sl.ext f, H.len, H.dig⟩
theorem DigI.nil : DigI h none 0 [] := ⟨.inl rfl, Sl.nil, rfl, Dig.nil, by simp [Trim]⟩
end Go.Proofs
namespace Go.Proofs
open Go Go.Eng
variable {B : World} {R : Ending → Heap → Prop} {h : Heap}
theorem _root_.Go.Eng.Lst.u {h0 h : Heap} {p : Option Addr} {n c : Nat} {ws : List Nat} (L : Lst h0 h p n c ws) (d : Dig B30 ws) : DigU h p n ws := ⟨L.pt, L.sl, L.len, d⟩
end Go.Proofs
namespace Go.Eng
open Go
theorem Dig.set {b : Nat} {l : List Nat} (h : Dig b l) (k x : Nat) (hx : x < b) : Dig b (l.set k x) := fun w hw => by
  rcases List.mem_or_eq_of_mem_set hw with h1 | h1
  · exact h w h1
  · rw [h1]; exact hx
end Go.Eng
namespace Go.Proofs
open Go Go.Eng
variable {B : World} {R : Ending → Heap → Prop} {h : Heap}
end Go.Proofs
namespace Go.Proofs
open Go Go.Eng
variable {B : World} {R : Ending → Heap → Prop} {h : Heap}
/-- plumbref1.Neg. -/
def negP (b : Int) : Int := if isNaN b then NaNP else if b < 0 then b + 9223372036854775808 else b - 9223372036854775808
end Go.Proofs
namespace Go.Proofs
open Go Go.Eng
variable {B : World} {R : Ending → Heap → Prop} {h : Heap}
/-- A number laid and handed back. -/
theorem ret3 {r n c : Nat} {x0 x1 x2 : Value} {neg : Bool} {p : Option Addr} {e : Int} (O : Own h r #[x0, x1, x2]) (H : ∀ h', Fr (fun x => x = r) h h' → R (.returned (.agg #[.bool neg, .slice p n c, .int .i64 e])) h') :
    isP (some ⟨r, 0, none⟩) fun b11 o12 => stC h b11 o12 (.bool neg) fun h13 =>
 stC h13 b11 (o12 + 1) (.slice p n c) fun h14 =>
 stC h14 b11 (o12 + 1 + 1) (.int .i64 e) fun h15 =>
 isP (some ⟨r, 0, none⟩) fun b16 o17 =>
∃ x18, cell? h15 ⟨b16, o17, none⟩ = some (.bool x18) ∧
∃ x19 x19n x19c, cell? h15 ⟨b16, o17 + 1, none⟩ = some (.slice x19 x19n x19c) ∧
∃ x20, cell? h15 ⟨b16, o17 + 1 + 1, none⟩ = some (.int .i64 x20) ∧
 R (.returned (.agg #[.bool x18, .slice x19 x19n x19c, .int .i64 x20])) h15 := by
  refine ⟨r, 0, rfl, O.stC (by simp) rfl fun oa fa => oa.stC (by simp) rfl fun ob fb => ob.stC (by simp) rfl fun oc fc => ⟨r, 0, rfl, _, oc.cell _, _, _, _, oc.cell _, _, oc.cell _, ?_⟩⟩
  exact H _ (Fr.trans (S := fun x => x = r) (Fr.trans (S := fun x => x = r) fa fb fun _ _ e => e) fc fun _ _ e => e)
theorem fM_lt (b : Int) : fM b < 9007199254740992 := by
  have := fT_lt b
  unfold fM; split <;> omega
theorem fX_lt {b : Int} (hf : isFin b = true) : fX b ≤ 971 := by
  have hE : fE b < 2047 := by unfold isFin at hf; exact of_decide_eq_true hf
  unfold fX; split <;> omega
theorem fV_bl {b : Int} (hf : isFin b = true) : bl (fV b).natAbs ≤ 2100 := by
  have h1 := fX_lt hf
  have h2 := fM_lt b
  have h3 := fX_ge b
  unfold fV
  rw [signed_abs]
  by_cases h0 : fM b = 0
  · rw [h0, Nat.zero_mul]; decide
  · have hl : bl (fM b) ≤ 53 := bl_le_iff.2 h2
    rw [bl_scale _ h0]; omega
theorem signed_neg {neg : Bool} {M k : Nat} (h : M ≠ 0) : decide (Ieee.signed neg M k < 0) = neg := by
  have h2 : 0 < M * 2 ^ k := Nat.mul_pos (by omega) (Nat.pow_pos (by decide))
  unfold Ieee.signed
  rw [Nat.shiftLeft_eq]
  cases neg
  · have : ¬ ((M * 2 ^ k : Nat) : Int) < 0 := by omega
    simp only [Bool.false_eq_true, if_false, this, decide_false]
  · simp only [if_true, decide_eq_true_eq]; omega
theorem DigI.short {p : Option Addr} {n N : Nat} {es : List Nat} (D : DigI h p n es) (hb : bl (val B30 es) ≤ 30 * N) : n ≤ N := by
  have : digs B30 (val B30 es) = es := digs_of (by decide) D.dig D.trim
  rw [← D.len, ← this]
  exact digs_len (k := 30) rfl (by decide) hb
theorem bl_add {a b : Int} {L : Nat} (ha : bl a.natAbs ≤ L) (hb : bl b.natAbs ≤ L) : bl (a + b).natAbs ≤ L + 1 := by
  rw [bl_le_iff] at *
  rw [Nat.pow_succ]; omega
theorem bl_mul {a b : Int} {L L' : Nat} (ha : bl a.natAbs ≤ L) (hb : bl b.natAbs ≤ L') : bl (a * b).natAbs ≤ L + L' := by
  rw [bl_le_iff] at *
  rw [Int.natAbs_mul, Nat.pow_add]
  exact Nat.mul_lt_mul'' ha hb
end Go.Proofs
set_option linter.unusedVariables false
namespace Go.Eng
open Go
/-- The bits behind the last place: the first one, and whether there are others. -/
def halfB (M d : Nat) : Bool := decide (0 < d) && decide (M / 2 ^ (d - 1) % 2 = 1)
def restB (M d : Nat) : Bool := decide (0 < d - 1) && decide (M % 2 ^ (d - 1) ≠ 0)
theorem odd_bits (M d : Nat) : decide (M % 2 ^ d ≠ 0) = (halfB M d || restB M d) := by
  unfold halfB restB
  cases d with
  | zero => simp [Nat.mod_one]
  | succ d =>
    have hp : 0 < 2 ^ d := Nat.pow_pos (by decide)
    have h1 : M % 2 ^ (d + 1) = 2 ^ d * (M / 2 ^ d % 2) + M % 2 ^ d := by
      rw [Nat.pow_succ, Nat.mod_mul, Nat.add_comm]
    have hd : d + 1 - 1 = d := rfl
    rw [hd, h1]
    rcases Nat.mod_two_eq_zero_or_one (M / 2 ^ d) with h | h
    · rw [h]
      by_cases h0 : M % 2 ^ d = 0
      · simp [h0]
      · have hd0 : 0 < d := by
          rcases Nat.eq_zero_or_pos d with hz | hz
          · subst hz; rw [Nat.pow_zero, Nat.mod_one] at h0; exact absurd rfl h0
          · exact hz
        simp [h0, hd0]
    · rw [h]; simp
theorem rn_bits' (M d : Nat) : rn M d = M / 2 ^ d + (if (halfB M d && (restB M d || decide (M / 2 ^ d % 2 = 1))) = true then 1 else 0) := by
  unfold halfB restB
  cases d with
  | zero => rw [rn_zero]; simp
  | succ d =>
    unfold rn
    congr 1
    have hp : 0 < 2 ^ d := Nat.pow_pos (by decide)
    have h1 : M % 2 ^ (d + 1) = 2 ^ d * (M / 2 ^ d % 2) + M % 2 ^ d := by
      rw [Nat.pow_succ, Nat.mod_mul, Nat.add_comm]
    have h2 : M % 2 ^ d < 2 ^ d := Nat.mod_lt _ hp
    have h3 : 2 ^ (d + 1) = 2 ^ d * 2 := Nat.pow_succ ..
    have hd : d + 1 - 1 = d := rfl
    rw [hd, h1]
    generalize M / 2 ^ (d + 1) % 2 = q
    rcases Nat.mod_two_eq_zero_or_one (M / 2 ^ d) with h | h
    · rw [h, if_neg (by omega)]; simp
    · rw [h]
      by_cases h0 : M % 2 ^ d = 0
      · by_cases hq : q = 1
        · rw [if_pos (by omega)]; simp [h0, hq]
        · rw [if_neg (by omega)]; simp [h0, hq]
      · have hd0 : 0 < d := by
          rcases Nat.eq_zero_or_pos d with hz | hz
          · subst hz; rw [Nat.pow_zero, Nat.mod_one] at h0; exact absurd rfl h0
          · exact hz
        rw [if_pos (by omega)]; simp [h0, hd0]
end Go.Eng
namespace Go.Proofs
open Go Go.Eng
variable {B : World} {R : Ending → Heap → Prop} {h : Heap}
/-- A cell of a block that is known, stored. -/
theorem _root_.Go.Eng.Own.stL {h : Heap} {b o : Nat} {l : List Value} {v : Value} {K : Heap → Prop} (H : Own h b l.toArray) (ho : o < l.length) (hv : oneCell v = true)
    (k : ∀ h', Own h' b (l.set o v).toArray → Fr (fun x => x = b) h h' → K h') : stC h b o v K :=
  H.stC (by simpa using ho) hv fun O f => k _ (by simpa using O) f
end Go.Proofs
namespace Go.Proofs
open Go Go.Eng
variable {B : World} {R : Ending → Heap → Prop} {h : Heap}
theorem NaNP_I64 : I64 NaNP := by unfold I64 NaNP; omega
theorem mulP_I64 (a b : Int) : I64 (mulP a b) := by
  unfold mulP timesP
  split
  · exact NaNP_I64
  · split
    · exact pat_I64 (by decide)
    · exact pat_I64 (by have := rung_lt (fW a * fW b).natAbs (-2148); omega)
theorem NumS.up {K : Nat} {neg : Bool} {p : Option Addr} {n : Nat} {e v : Int} (N : NumS K h neg p n e v) (d : Nat) : NumS (K + d) h neg p n e (v * ((2 ^ d : Nat) : Int)) := by
  obtain ⟨M, I, a1, a2⟩ := N
  refine ⟨M, I, by omega, ?_⟩
  rw [show (e + ((K + d : Nat) : Int)).toNat = (e + (K : Int)).toNat + d by omega, signed_add, a2]
end Go.Proofs
namespace Go.Proofs
open Go Go.Eng
variable {B : World} {R : Ending → Heap → Prop} {h : Heap}
theorem and_i64 {x : Int} {m : Nat} (hm : m < 4611686018427387904) : bitsI .and .i64 x (m : Int) = (((x % 18446744073709551616).toNat &&& m : Nat) : Int) := by
  have h1 : bitsI .and .i64 x (m : Int) = IntKind.i64.wrap (((BitVec.ofInt 64 x &&& BitVec.ofInt 64 (m : Int)).toNat : Nat) : Int) := rfl
  rw [h1, BitVec.toNat_and, BitVec.toNat_ofInt, BitVec.toNat_ofInt]
  have e1 : ((m : Int) % ((2 ^ 64 : Nat) : Int)).toNat = m := by omega
  have e2 : (x % ((2 ^ 64 : Nat) : Int)).toNat = (x % 18446744073709551616).toNat := rfl
  rw [e1, e2]
  have : (x % 18446744073709551616).toNat &&& m ≤ m := Nat.and_le_right
  exact i64_nat (by omega)
theorem and_fT (b : Int) : bitsI .and .i64 b (4503599627370495 : Int) = (fT b : Int) := by
  have := and_i64 (x := b) (m := 4503599627370495) (by decide)
  rw [show ((4503599627370495 : Nat) : Int) = 4503599627370495 from rfl] at this
  rw [this, show (b % 18446744073709551616).toNat &&& 4503599627370495 = (b % 18446744073709551616).toNat % 2 ^ 52 from Nat.and_two_pow_sub_one_eq_mod _ 52]
  unfold fT; omega
theorem and_fE (b : Int) : bitsI .and .i64 (Int.fdiv b (2 ^ min (Int.toNat (52 : Int)) IntKind.i64.bits)) (2047 : Int) = (fE b : Int) := by
  have e0 : Int.fdiv b (2 ^ min (Int.toNat (52 : Int)) IntKind.i64.bits) = b / 4503599627370496 := by
    have : min (Int.toNat (52 : Int)) IntKind.i64.bits = 52 := by decide
    rw [this, Int.fdiv_eq_ediv_of_nonneg _ (by decide)]; rfl
  have := and_i64 (x := b / 4503599627370496) (m := 2047) (by decide)
  rw [show ((2047 : Nat) : Int) = 2047 from rfl] at this
  rw [e0, this, show (b / 4503599627370496 % 18446744073709551616).toNat &&& 2047 = (b / 4503599627370496 % 18446744073709551616).toNat % 2 ^ 11 from Nat.and_two_pow_sub_one_eq_mod _ 11]
  unfold fE; omega
theorem or_fM (t : Nat) (ht : t < 4503599627370496) : bitsI .or .i64 (t : Int) (4503599627370496 : Int) = ((4503599627370496 + t : Nat) : Int) := by
  have h1 : bitsI .or .i64 (t : Int) (4503599627370496 : Int) = IntKind.i64.wrap (((BitVec.ofInt 64 (t : Int) ||| BitVec.ofInt 64 ((4503599627370496 : Nat) : Int)).toNat : Nat) : Int) := rfl
  rw [h1, ofInt_nat, ofInt_nat, BitVec.toNat_or, BitVec.toNat_ofNat, BitVec.toNat_ofNat, Nat.mod_eq_of_lt (by omega : t < 2 ^ 64), Nat.mod_eq_of_lt (by omega : 4503599627370496 < 2 ^ 64)]
  have e : t ||| 4503599627370496 = 4503599627370496 + t := by
    rw [Nat.or_comm]
    have := or_add (a := 1) (b := t) (s := 52) ht
    rw [Nat.one_mul] at this
    exact this
  rw [e, i64_nat (by omega)]
/-- bits.Parts, of what is finite. -/
theorem K63 {b : Int} (hf : isFin b = true) (H : R (.returned (.tuple #[.bool (decide (b < 0)), .int .i64 (fM b : Int), .int .i64 (fX b), .bool true])) h) : Ent Tryz.prog B 87 #[.int .i64 b] R h := by
  refine F63_ok _ ?_
  unfold F63
  rw [and_fE, and_fT]
  have hE : fE b < 2047 := by unfold isFin at hf; exact of_decide_eq_true hf
  have hT := fT_lt b
  unfold fM fX at H
  refine ⟨by decide, fun e => by have := of_decide_eq_true e; omega, fun _ => ⟨fun e => ?_, fun e => ?_⟩⟩
  · have h0 : fE b = 0 := by have := of_decide_eq_true e; omega
    rw [if_pos h0, if_pos h0] at H
    exact H
  · have h0 : fE b ≠ 0 := by have := of_decide_eq_false e; omega
    rw [if_neg h0, if_neg h0] at H
    rw [or_fM _ hT, i64_in (by omega) (by omega)]
    exact H
theorem Ent62 : Enters Tryz.prog 86 := enters_of Tryz.func86 (by kernel_rfl) (by kernel_rfl)
/-- What a call of dyadic ends with: a number is laid, nothing is given up. -/
theorem numEnd {r2 r4 n c : Nat} {x0 x1 x2 y0 : Value} {neg : Bool} {p : Option Addr} {e : Int} (O2 : Own h r2 #[x0, x1, x2]) (O4 : Own h r4 #[y0]) (hne : r2 ≠ r4)
    (H : ∀ h', Fr (fun x => x = r2 ∨ x = r4) h h' → R (.returned (.tuple #[.agg #[.bool neg, .slice p n c, .int .i64 e], .int .i64 (0 : Int)])) h') :
    isP (some ⟨r2, 0, none⟩) fun b47 o48 => stC h b47 o48 (.bool neg) fun h49 =>
 stC h49 b47 (o48 + 1) (.slice p n c) fun h50 =>
 stC h50 b47 (o48 + 1 + 1) (.int .i64 e) fun h51 =>
 isP (some ⟨r4, 0, none⟩) fun b52 o53 => stC h51 b52 o53 (.int .i64 (0 : Int)) fun h54 =>
 Enters Tryz.prog 86 ∧ FnD Tryz.prog B 86 #[.pointer (some ⟨r4, 0, none⟩)] .returning (dfE fun u55 h56 => lvW (fun h57 => isP (some ⟨r2, 0, none⟩) fun b60 o61 =>
∃ x62, cell? h57 ⟨b60, o61, none⟩ = some (.bool x62) ∧
∃ x63 x63n x63c, cell? h57 ⟨b60, o61 + 1, none⟩ = some (.slice x63 x63n x63c) ∧
∃ x64, cell? h57 ⟨b60, o61 + 1 + 1, none⟩ = some (.int .i64 x64) ∧
 isP (some ⟨r4, 0, none⟩) fun b65 o66 => ∃ x67, cell? h57 ⟨b65, o66, none⟩ = some (.int .i64 x67) ∧
 R (.returned (.tuple #[.agg #[.bool x62, .slice x63 x63n x63c, .int .i64 x64], .int .i64 x67])) h57) (fun ch59 h58 => R (.panicked ch59) h58) u55 h56) h54 := by
  refine ⟨r2, 0, rfl, O2.stL (by simp) rfl fun _ a1 g1 => a1.stL (by simp) rfl fun _ a2 g2 => a2.stL (by simp) rfl fun h3 a3 g3 => ⟨r4, 0, rfl, ?_⟩⟩
  have k := Fr.trans (S := fun x => x = r2) (Fr.trans (S := fun x => x = r2) g1 g2 fun _ _ e => e) g3 fun _ _ e => e
  refine (O4.fr k (show ¬ r4 = r2 from fun e => hne e.symm)).stL (by simp) rfl fun h4 a4 g4 => ⟨Ent62, K62r ?_⟩
  have A3 : Own h4 r2 #[.bool neg, .slice p n c, .int .i64 e] := a3.fr g4 hne
  have A4 : Own h4 r4 #[.int .i64 (0 : Int)] := a4
  exact ⟨r2, 0, rfl, _, A3.cell _, _, _, _, A3.cell _, _, A3.cell _, r4, 0, rfl, _, A4.cell _, H h4 (Fr.trans (Fr.mono k fun _ _ e => .inl e) g4 fun _ _ e => .inr e)⟩
/-- dyadic.of, of finite parts. -/
theorem K64 {neg : Bool} {m : Nat} {e : Int} {K : Nat} (ht : TabH h) (hm : m < 4611686018427387904) (he : 0 ≤ e + (K : Int)) (hb : bl (Ieee.signed neg m (e + (K : Int)).toNat).natAbs ≤ 60000) (hK : K ≤ 1048576)
    (H : ∀ neg' p n c e' h', Ext h h' → Fresh h p → NumS K h' neg' p n e' (Ieee.signed neg m (e + (K : Int)).toNat) → R (.returned (.agg #[.bool neg', .slice p n c, .int .i64 e'])) h') :
    Ent Tryz.prog B 88 #[.bool neg, .int .i64 (m : Int), .int .i64 e, .bool true] R h := by
  refine F64_ok _ _ _ _ (alK fun r h6 e5 f5 o5 z5 => ⟨fun e => (by cases e), fun _ => ?_⟩)
  have main : ∀ v : Int, (v = if neg then -(m : Int) else (m : Int)) → F64_j7 B R v e (some ⟨r, 0, none⟩) h6 := by
    intro v hv
    have hs : v * 2 ^ (e + (K : Int)).toNat = Ieee.signed neg m (e + (K : Int)).toNat := by
      rw [hv]
      unfold Ieee.signed
      rw [Nat.shiftLeft_eq]
      have h1 : (2 : Int) ^ (e + (K : Int)).toNat = ((2 ^ (e + (K : Int)).toNat : Nat) : Int) := by rw [Int.natCast_pow]; rfl
      rw [h1]
      cases neg
      · simp only [Bool.false_eq_true, if_false, Int.natCast_mul]
      · simp only [if_true, Int.natCast_mul, Int.neg_mul]
    refine K120 (by rw [hv]; split <;> omega) (by rw [hv]; split <;> omega) fun r2 q2 h13 f13 g1 g2 g3 I => ⟨_, rfl, ?_⟩
    refine K65 (ht.ext (Ext.trans f5 f13)) I he hs.symm hb hK fun neg' p n c e' h18 f18 fr18 N => ⟨_, _, _, _, _, rfl, ?_⟩
    have s13 := f13.size
    refine ret3 ((o5.ext f13).ext f18) fun h' f => ?_
    exact H neg' p n c e' h' (Fr.trans (Ext.trans f5 (Ext.trans f13 f18)) f fun x hx e => by omega) (fr18.mono (by omega)) (N.fr f fun b o e e2 => by have := fr18 b o e; omega)
  cases neg
  · exact ⟨fun e => (by cases e), fun _ => main _ rfl⟩
  · refine ⟨fun _ => ?_, fun e => (by cases e)⟩
    rw [i64_in (by omega) (by omega)]
    exact main _ (by simp)
/-- dyadic.Of, of what is finite. -/
theorem K21 {b : Int} (ht : TabH h) (hf : isFin b = true) (H : ∀ neg p n c e h', Ext h h' → Fresh h p → NumS 1074 h' neg p n e (fV b) → R (.returned (.tuple #[.agg #[.bool neg, .slice p n c, .int .i64 e], .int .i64 (0 : Int)])) h') :
    Ent Tryz.prog B 51 #[.int .i64 b] R h := by
  refine F21_ok _ (alK fun r2 h3 e2 f2 o2 z2 => alK fun r4 h5 e4 f4 o4 z4 => K63 hf ⟨_, _, _, _, rfl, ?_⟩)
  have hX := fX_ge b
  have hM := fM_lt b
  have hv : Ieee.signed (decide (b < 0)) (fM b) (fX b + ((1074 : Nat) : Int)).toNat = fV b := rfl
  have hbl := fV_bl hf
  have F5 := Ext.trans f2 f4
  refine K64 (K := 1074) (ht.ext F5) (by omega) (by omega) (by rw [hv]; omega) (by decide) fun neg p n c e h28 f28 fr28 N => ⟨_, _, _, _, _, rfl, ?_⟩
  rw [hv] at N
  refine numEnd ((o2.ext f4).ext f28) (o4.ext f28) (by omega) fun h' f => ?_
  exact H neg p n c e h' (Fr.trans (Ext.trans F5 f28) f fun x hx e => by omega) (fr28.mono (by omega)) (N.fr f fun b o e e3 => by have := fr28 b o e; omega)
end Go.Proofs
