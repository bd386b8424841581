import Derived.Test.YtpnfpefcjeafbaaGreatFmtA02
import Derived.Test.YtpnfpefcjeafbaaGreatFmtA03
import Derived.Test.YtpnfpefcjeafbaaGreatFmtA23
import Derived.Test.YtpnfpefcjeafbaaGreatFmtA09
/- Here stand lemmas and contracts, in the order in which they are used. -/
set_option linter.unusedVariables false
namespace Go.Eng
open Go
abbrev INF : Nat := 9218868437227405312
/-- The greatest rung. -/
theorem rung_form {m : Nat} (e : Int) : rung m e = min ((lastP m e + 1074).toNat * 4503599627370496 + kpt m e) INF := rfl
theorem isInf_rung {r : Nat} (hr : r < 9223372036854775808) : (Ieee.double.order r 9218868437227405311 == some .gt) = isInf (r : Int) := by
  have hI : I64 (r : Int) := by unfold I64; omega
  have hw : wd (r : Int) = r := by unfold wd; omega
  have hM : Ieee.double.read 9218868437227405311 = .number false 9007199254740991 971 := by decide +kernel
  unfold Ieee.Format.order
  rw [hM]
  have hneg : decide ((r : Int) < 0) = false := by simp
  have hl := look hI
  rw [hw, hneg] at hl
  rcases hl with ⟨a1, a2, a3, a4⟩ | ⟨a1, a2, a3, a4⟩ | ⟨a1, a2, a3, a4⟩
  · rw [a4, a2]
    have hE : fE (r : Int) < 2047 := by
      unfold isFin at a1; exact of_decide_eq_true a1
    have hM1 : fM (r : Int) ≤ 9007199254740991 := by
      have := fT_lt (r : Int)
      unfold fM; split <;> omega
    have hX : fX (r : Int) ≤ 971 := by unfold fX; split <;> omega
    have ho : Ieee.Datum.order (.number false (fM (r : Int)) (fX (r : Int))) (.number false 9007199254740991 971) =
        some (compare (Ieee.signed false (fM (r : Int)) (fX (r : Int) - min (fX (r : Int)) 971).toNat) (Ieee.signed false 9007199254740991 ((971 : Int) - min (fX (r : Int)) 971).toNat)) := rfl
    rw [ho, show min (fX (r : Int)) 971 = fX (r : Int) by omega, Int.sub_self, Int.toNat_zero]
    generalize ((971 : Int) - fX (r : Int)).toNat = k
    have h1 : Ieee.signed false (fM (r : Int)) 0 = (fM (r : Int) : Int) := by unfold Ieee.signed; simp
    have h2 : Ieee.signed false 9007199254740991 k = ((9007199254740991 * 2 ^ k : Nat) : Int) := by unfold Ieee.signed; rw [Nat.shiftLeft_eq]; simp
    rw [h1, h2]
    have hk : 0 < 2 ^ k := Nat.pow_pos (by decide)
    have hle : fM (r : Int) ≤ 9007199254740991 * 2 ^ k := Nat.le_trans hM1 (Nat.le_mul_of_pos_right _ hk)
    have hc : ∀ a b : Int, a ≤ b → compare a b ≠ .gt := by
      intro a b hab
      show compareOfLessAndEq a b ≠ .gt
      unfold compareOfLessAndEq
      split
      · simp
      · split
        · simp
        · omega
    have := hc (fM (r : Int) : Int) ((9007199254740991 * 2 ^ k : Nat) : Int) (by omega)
    simpa using this
  · rw [a4, a2]; rfl
  · rw [a4, a2]; rfl
theorem compare_self (a : Int) : compare a a = .eq := by
  show compareOfLessAndEq a a = .eq
  unfold compareOfLessAndEq
  rw [if_neg (by omega), if_pos rfl]
theorem order_self {w : Nat} (h : w < 18446744073709551616) : (Ieee.double.order w w != some .eq) = isNaN (sg w) := by
  unfold Ieee.Format.order
  have hl := look (sg_I64 h)
  rw [wd_sg h] at hl
  rcases hl with ⟨a1, a2, a3, a4⟩ | ⟨a1, a2, a3, a4⟩ | ⟨a1, a2, a3, a4⟩
  · rw [a4, a3]
    have ho : ∀ s m e, Ieee.Datum.order (.number s m e) (.number s m e) = some (compare (Ieee.signed s m (e - min e e).toNat) (Ieee.signed s m (e - min e e).toNat)) := fun _ _ _ => rfl
    rw [ho, compare_self]; rfl
  · rw [a4, a3]
    have ho : ∀ s : Bool, Ieee.Datum.order (.infinity s) (.infinity s) = some (compare s.toNat s.toNat) := fun _ => rfl
    rw [ho]
    cases decide (sg w < 0) <;> rfl
  · rw [a4, a3]; rfl
/-- What a float's operation gives, told. -/
theorem flW_in {f : Nat → Nat → Option Nat} {x y : Nat} {K : Nat → Prop} (hf : ∀ z, f x y = some z → z < 18446744073709551616 ∧ nrm (sg z) = sg z)
    (H : ∀ z, z < 18446744073709551616 → nrm (sg z) = opR (f x y) → K z) : flW .f64 (f x y) x y K := by
  refine ⟨fun z hz => ?_, fun hz t => ?_⟩
  · obtain ⟨h1, h2⟩ := hf z hz
    exact H z h1 (by rw [h2, hz]; rfl)
  · have hc : Question.cut (.nanBits .f64 x y) t = (t % 2) * 2 ^ 63 + 0x7ff0000000000000 + 1 + (t / 2) % (2 ^ 52 - 1) := rfl
    have hb : (t / 2) % (2 ^ 52 - 1) < 2 ^ 52 - 1 := Nat.mod_lt _ (by decide)
    refine H _ (by rw [hc]; omega) ?_
    rw [hz, hc]
    show nrm _ = NaNP
    have hn : isNaN (sg ((t % 2) * 2 ^ 63 + 0x7ff0000000000000 + 1 + (t / 2) % (2 ^ 52 - 1))) = true := by
      generalize (t / 2) % (2 ^ 52 - 1) = u at *
      have key : fE (sg ((t % 2) * 2 ^ 63 + 0x7ff0000000000000 + 1 + u)) = 2047 ∧ fT (sg ((t % 2) * 2 ^ 63 + 0x7ff0000000000000 + 1 + u)) = u + 1 := by
        unfold fE fT sg
        rcases Nat.mod_two_eq_zero_or_one t with h | h <;> rw [h] <;> split <;> omega
      unfold isNaN
      rw [key.1, key.2]
      simp
    unfold nrm; rw [hn]; rfl
theorem fadd_in {x y : Nat} {K : Nat → Prop} (hx : x < 18446744073709551616) (hy : y < 18446744073709551616) (H : ∀ z, z < 18446744073709551616 → nrm (sg z) = addP (nrm (sg x)) (nrm (sg y)) → K z) : flW .f64 (FloatKind.f64.format.add x y) x y K := by
  refine flW_in (f := Ieee.double.add) (fun z hz => map_write (fun d hd => sum_nan _ _ d hd) hz) fun z h1 h2 => H z h1 ?_
  have := add_opR (sg_I64 hx) (sg_I64 hy)
  rw [wd_sg hx, wd_sg hy] at this
  rw [h2, this, addP_nl, addP_nr]
theorem fsub_in {x y : Nat} {K : Nat → Prop} (hx : x < 18446744073709551616) (hy : y < 18446744073709551616) (H : ∀ z, z < 18446744073709551616 → nrm (sg z) = subP (nrm (sg x)) (nrm (sg y)) → K z) : flW .f64 (FloatKind.f64.format.sub x y) x y K := by
  refine flW_in (f := Ieee.double.sub) (fun z hz => map_write (fun d hd => sum_nan _ _ d hd) hz) fun z h1 h2 => H z h1 ?_
  have := sub_opR (sg_I64 hx) (sg_I64 hy)
  rw [wd_sg hx, wd_sg hy] at this
  rw [h2, this, subP_nl, subP_nr]
theorem fmul_in {x y : Nat} {K : Nat → Prop} (hx : x < 18446744073709551616) (hy : y < 18446744073709551616) (H : ∀ z, z < 18446744073709551616 → nrm (sg z) = mulP (nrm (sg x)) (nrm (sg y)) → K z) : flW .f64 (FloatKind.f64.format.mul x y) x y K := by
  refine flW_in (f := Ieee.double.mul) (fun z hz => map_write (fun d hd => prod_nan _ _ d hd) hz) fun z h1 h2 => H z h1 ?_
  have := mul_opR (sg_I64 hx) (sg_I64 hy)
  rw [wd_sg hx, wd_sg hy] at this
  rw [h2, this, mulP_nl, mulP_nr]
/-- A pattern's class. -/
def cls (b : Int) : Int := if fE b = 2047 ∧ fT b = 0 then 3 else if fE b = 2047 then 4 else if 0 < fE b then 2 else if 0 < fT b then 1 else 0
theorem cls_fin (b : Int) : decide (cls b < 3) = isFin b := by
  have := fE_lt b
  unfold cls isFin
  by_cases h1 : fE b = 2047
  · by_cases h2 : fT b = 0 <;> simp [h1, h2]
  · have h3 : fE b < 2047 := by omega
    simp only [h1, false_and, if_false]
    split
    · simp [h3]
    · split <;> simp [h3]
theorem cls_nan (b : Int) : decide (cls b = 4) = isNaN b := by
  unfold cls isNaN
  by_cases h1 : fE b = 2047
  · by_cases h2 : fT b = 0 <;> simp [h1, h2]
  · simp only [h1, false_and, if_false]
    split
    · simp
    · split <;> simp
end Go.Eng
set_option linter.unusedVariables false
/-! Rounding in the four ways, by the rungs of binary64: ahead of the sign. -/
namespace Go.Eng
open Go
/-- How many places are cut off. -/
def cutD (m : Nat) (e : Int) : Nat := (lastP m e - e).toNat
/-- The number, brought to the last place where it is coarser. -/
def cutX (m : Nat) (e : Int) : Nat := m * 2 ^ (e - lastP m e).toNat
/-- The rung below or at the number (there may be no such one). -/
def flo (m : Nat) (e : Int) : Nat := (lastP m e + 1074).toNat * 4503599627370496 + cutX m e / 2 ^ cutD m e
/-- Is anything left above that rung? -/
def odd (m : Nat) (e : Int) : Bool := decide (cutX m e % 2 ^ cutD m e ≠ 0)
/-- Is the next rung the nearest one? -/
def incN (m : Nat) (e : Int) : Bool := decide (2 ^ cutD m e < 2 * (cutX m e % 2 ^ cutD m e) ∨ (2 ^ cutD m e = 2 * (cutX m e % 2 ^ cutD m e) ∧ cutX m e / 2 ^ cutD m e % 2 = 1))
/-- Away from 0? (0 to the nearest, 1 down, 2 up, 3 to 0.) -/
def awayW (w : Nat) (neg : Bool) (m : Nat) (e : Int) : Bool :=
  match w with
  | 0 => incN m e
  | 1 => neg && odd m e
  | 2 => !neg && odd m e
  | _ => false
/-- Is what is too great infinite? -/
def topW (w : Nat) (neg : Bool) : Bool :=
  match w with
  | 0 => true
  | 1 => neg
  | 2 => !neg
  | _ => false
def idxW (w : Nat) (neg : Bool) (m : Nat) (e : Int) : Nat := flo m e + (awayW w neg m e).toNat
/-- The rung of a number in a way. -/
def dirP (w : Nat) (neg : Bool) (m : Nat) (e : Int) : Nat := if idxW w neg m e < INF then idxW w neg m e else if topW w neg then INF else INF - 1
theorem incN_odd {m : Nat} {e : Int} (h : incN m e = true) : odd m e = true := by
  unfold incN at h
  unfold odd
  have hp : 0 < 2 ^ cutD m e := Nat.pow_pos (by decide)
  rw [decide_eq_true_eq] at h ⊢
  omega
theorem rung_idx (m : Nat) (e : Int) (neg : Bool) : rung m e = min (idxW 0 neg m e) INF := by
  unfold idxW awayW
  have : kpt m e = cutX m e / 2 ^ cutD m e + (incN m e).toNat := by
    unfold kpt rn incN cutX cutD
    congr 1
    generalize (m * 2 ^ (e - lastP m e).toNat) = X
    generalize (lastP m e - e).toNat = d
    by_cases h : 2 ^ d < 2 * (X % 2 ^ d) ∨ (2 ^ d = 2 * (X % 2 ^ d) ∧ X / 2 ^ d % 2 = 1)
    · rw [if_pos h]; simp [h]
    · rw [if_neg h]; simp [h]
  rw [rung_form, this]
  unfold flo
  rw [Nat.add_assoc]
  rfl
theorem dirP_le (w : Nat) (neg : Bool) (m : Nat) (e : Int) : dirP w neg m e ≤ INF := by
  unfold dirP
  have hI : INF = 9218868437227405312 := rfl
  split
  · omega
  · split <;> omega
/-- Is the nearest one above, signs aside? (What is exact is not.) -/
def upN (m : Nat) (e : Int) : Bool := incN m e || decide (INF ≤ flo m e)
/-- Is the nearest one another number? -/
def inxN (m : Nat) (e : Int) : Bool := odd m e || decide (INF ≤ flo m e)
/-- The ways by the nearest one and whether it lies above. -/
theorem dir_near (w : Nat) (neg : Bool) (m : Nat) (e : Int) : dirP w neg m e =
    if inxN m e = false then rung m e else
    match w with
    | 0 => rung m e
    | 1 => if neg then (if upN m e then rung m e else rung m e + 1) else (if upN m e then rung m e - 1 else rung m e)
    | 2 => if neg then (if upN m e then rung m e - 1 else rung m e) else (if upN m e then rung m e else rung m e + 1)
    | _ => if upN m e then rung m e - 1 else rung m e := by
  have hI : 0 < INF := by decide
  have hr := rung_idx m e neg
  unfold idxW at hr
  have hw0 : awayW 0 neg m e = incN m e := rfl
  rw [hw0] at hr
  unfold dirP idxW inxN upN topW
  have hio := @incN_odd m e
  generalize flo m e = q at *
  generalize INF = J at *
  rw [hr]
  cases ho : odd m e
  · have hi : incN m e = false := by
      cases h : incN m e
      · rfl
      · rw [hio h] at ho; cases ho
    rw [hi]
    have ha : awayW w neg m e = false := by unfold awayW; split <;> simp [ho, hi]
    rw [ha]
    by_cases hq : q < J
    · have : ¬ J ≤ q := by omega
      simp only [Bool.toNat_false, Nat.add_zero, if_pos hq, Bool.false_or, this, decide_false, if_true]
      omega
    · have h2 : J ≤ q := by omega
      simp only [Bool.toNat_false, Nat.add_zero, if_neg hq, Bool.false_or, h2, decide_true, Bool.true_eq_false, if_false, if_true, Nat.min_eq_right h2]
      match w with
      | 0 => simp
      | 1 => cases neg <;> simp
      | 2 => cases neg <;> simp
      | n + 3 => simp
  · simp only [Bool.true_or, Bool.true_eq_false, if_false]
    unfold awayW
    match w with
    | 0 =>
      simp only [if_true]
      split <;> omega
    | 1 =>
      cases neg <;> cases hi : incN m e <;> simp [ho] <;> (repeat' split) <;> (try simp at *) <;> omega
    | 2 =>
      cases neg <;> cases hi : incN m e <;> simp [ho] <;> (repeat' split) <;> (try simp at *) <;> omega
    | n + 3 =>
      cases hi : incN m e <;> simp <;> (repeat' split) <;> (try simp at *) <;> omega
end Go.Eng
namespace Go.Proofs
open Go Go.Eng
variable {B : World} {R : Ending → Heap → Prop} {h : Heap}
abbrev B30 : Nat := 1073741824
/-- A number's digits, to the base 2^30. -/
structure DigI (h : Heap) (p : Option Addr) (n : Nat) (ds : List Nat) : Prop where
  pt : Pt p
  sl : Sl .i64 h p ds
  len : ds.length = n
  dig : Dig B30 ds
  trim : Trim ds
theorem DigI.ext {h h' : Heap} {p : Option Addr} {n : Nat} {ds : List Nat} (H : DigI h p n ds) (f : Ext h h') : DigI h' p n ds := ⟨H.pt, H.sl.ext f, H.len, H.dig, H.trim⟩
/-- nat.Valid of valid digits. -/
theorem K174 {p : Option Addr} {n c : Nat} {ds : List Nat} (hd : DigI h p n ds) (hn : n ≤ 2000) (H : R (.returned (.bool true)) h) : Ent Tryz.prog B 117 #[.slice p n c] R h := by
  have hl := hd.len
  refine F174_ok _ _ _ ⟨fun m vs h' => match vs with
    | [.slice p1 n1 _, .slice p2 n2 _, .int _ nn, .int _ i] => p = p1 ∧ n = n1 ∧ p = p2 ∧ n = n2 ∧ (n : Int) = nn ∧ h = h' ∧ ∃ j : Nat, i = (j : Int) ∧ j ≤ n ∧ m = n - j
    | _ => False, n, ⟨rfl, rfl, rfl, rfl, rfl, rfl, 0, rfl, by omega, rfl⟩, ?_⟩
  rintro m h' _ _ _ _ _ _ _ _ ⟨rfl, rfl, rfl, rfl, rfl, rfl, j, rfl, hj, rfl⟩ _
  refine ⟨fun e => ?_, fun e => ⟨fun e1 => ⟨fun _ => H, fun e2 => ?_⟩, fun e1 => ?_⟩⟩
  · have hjn : j < n := by simp at e; omega
    have dj : ds[j]'(by omega) < 1073741824 := hd.dig.get (by omega)
    refine hd.sl.get j rfl (by omega) (by omega) ⟨fun e => by simp at e; omega, fun _ => ?_⟩
    have : decide ((1073741824 : Int) ≤ ((ds[j]'(by omega) : Nat) : Int)) = false := by simp; omega
    rw [this]
    exact ⟨fun e => (by cases e), fun _ => ⟨n - (j + 1), by omega, rfl, rfl, rfl, rfl, rfl, rfl, j + 1, by rw [i64_in (by omega) (by omega)]; rfl, by omega, rfl⟩⟩
  · have hn0 : 0 < n := by simp at e2; omega
    refine hd.sl.get (n - 1) (by rw [i64_in (by omega) (by omega)]; omega) (by omega) (by omega) ?_
    have hw : ds[n - 1]'(by omega) ≠ 0 := by
      intro e0
      apply hd.trim
      rw [List.getLast?_eq_getElem?, hl, List.getElem?_eq_getElem (by omega), e0]
    have : (!decide (((ds[n - 1]'(by omega) : Nat) : Int) = 0)) = true := by simp; omega
    rw [this]; exact H
  · simp at e1; omega
theorem bl_dig {b k : Nat} {ds : List Nat} (hb : b = 2 ^ k) (hd : Dig b ds) : bl (val b ds) ≤ k * ds.length := by
  rw [bl_le_iff, Nat.pow_mul, ← hb]; exact val_lt hd
theorem or30 {v d : Nat} (hd : d < B30) : v * 2 ^ 30 ||| d = v * 2 ^ 30 + d := or_add hd
end Go.Proofs
namespace Go.Proofs
open Go Go.Eng
variable {B : World} {R : Ending → Heap → Prop} {h : Heap}
theorem and1_i64 {a : Nat} (ha : a < 9223372036854775808) : bitsI .and .i64 (a : Int) (1 : Int) = ((a % 2 : Nat) : Int) := by
  have h1 : bitsI .and .i64 (a : Int) (1 : Int) = IntKind.i64.wrap (((BitVec.ofInt 64 (a : Int) &&& BitVec.ofInt 64 ((1 : Nat) : Int)).toNat : Nat) : Int) := rfl
  rw [h1, ofInt_nat, ofInt_nat, BitVec.toNat_and, BitVec.toNat_ofNat, BitVec.toNat_ofNat, Nat.mod_eq_of_lt (by omega : a < 2 ^ 64), Nat.mod_eq_of_lt (by omega : 1 < 2 ^ 64), show a &&& 1 = a % 2 from Nat.and_two_pow_sub_one_eq_mod a 1]
  exact i64_in (by omega) (by omega)
/-- An exact number in its one form. -/
structure NumI (h : Heap) (neg : Bool) (p : Option Addr) (n : Nat) (e : Int) (ds : List Nat) : Prop where
  d : DigI h p n ds
  le : n ≤ 2000
  zero : n = 0 → neg = false ∧ e = 0
  pos : 0 < n → val B30 ds % 2 = 1 ∧ -1048576 ≤ e ∧ e ≤ 1048576
theorem NumI.ext {h h' : Heap} {neg : Bool} {p : Option Addr} {n : Nat} {e : Int} {ds : List Nat} (H : NumI h neg p n e ds) (f : Ext h h') : NumI h' neg p n e ds := ⟨H.d.ext f, H.le, H.zero, H.pos⟩
theorem val_mod2 {ds : List Nat} (hn : 0 < ds.length) : val B30 ds % 2 = ds[0] % 2 := by
  have := val_drop B30 ds (i := 0) hn
  rw [List.drop_zero] at this
  rw [this]; unfold B30; omega
/-- dyadic.Valid of a valid one. -/
theorem K129 {neg : Bool} {p : Option Addr} {n c : Nat} {e : Int} {ds : List Nat} (hx : NumI h neg p n e ds) (H : ∀ h', Ext h h' → R (.returned (.bool true)) h') : Ent Tryz.prog B 78 #[.agg #[.bool neg, .slice p n c, .int .i64 e]] R h := by
  have o : Own (h.push (.cells #[.bool neg, .slice p n c, .int .i64 e] 38)) h.size #[.bool neg, .slice p n c, .int .i64 e] := own_new
  have f : Ext h (h.push (.cells #[.bool neg, .slice p n c, .int .i64 e] 38)) := Ext.push
  have ld0 : ∀ {K : Bool → Prop}, K neg → isP (some ⟨h.size, 0, none⟩) fun b o => isP (some ⟨b, o, none⟩) fun b o => ∃ x, cell? (h.push (.cells #[.bool neg, .slice p n c, .int .i64 e] 38)) ⟨b, o, none⟩ = some (.bool x) ∧ K x :=
    fun k => ⟨h.size, 0, rfl, h.size, 0, rfl, neg, o.cell _, k⟩
  have ld1 : ∀ {K : Option Addr → Nat → Nat → Prop}, K p n c → isP (some ⟨h.size, 0, none⟩) fun b o => isP (some ⟨b, o + 1, none⟩) fun b o => ∃ x xn xc, cell? (h.push (.cells #[.bool neg, .slice p n c, .int .i64 e] 38)) ⟨b, o, none⟩ = some (.slice x xn xc) ∧ K x xn xc :=
    fun k => ⟨h.size, 0, rfl, h.size, 0 + 1, rfl, p, n, c, o.cell _, k⟩
  have ld2 : ∀ {K : Int → Prop}, K e → isP (some ⟨h.size, 0, none⟩) fun b o => isP (some ⟨b, o + 2, none⟩) fun b o => ∃ x, cell? (h.push (.cells #[.bool neg, .slice p n c, .int .i64 e] 38)) ⟨b, o, none⟩ = some (.int .i64 x) ∧ K x :=
    fun k => ⟨h.size, 0, rfl, h.size, 0 + 2, rfl, e, o.cell _, k⟩
  refine F129_ok _ _ _ _ _ (ld1 ⟨fun e0 => ld0 ?_, fun e0 => ld1 (K174 (hx.d.ext f) hx.le ⟨_, rfl, fun _ => ld1 ?_, fun e => (by cases e)⟩)⟩)
  · have hn : n = 0 := by simpa using e0
    obtain ⟨rfl, rfl⟩ := hx.zero hn
    exact ⟨fun _ => ld2 (H _ f), fun e => (by cases e)⟩
  · have hn : 0 < n := by simp at e0; omega
    obtain ⟨p1, p2, p3⟩ := hx.pos hn
    have hl := hx.d.len
    have hdg : ds[0]'(by omega) < 1073741824 := hx.d.dig.get (by omega)
    refine (hx.d.sl.ext f).get 0 rfl (by omega) (by omega) ?_
    rw [and1_i64 (by omega), ← val_mod2, p1]
    refine ⟨fun _ => ld2 ⟨fun _ => ld2 ?_, fun e => ?_⟩, fun e => by simp at e⟩
    · have : decide (e ≤ (1048576 : Int)) = true := by simp; omega
      rw [this]; exact H _ f
    · simp at e; omega
end Go.Proofs
namespace Go.Eng
open Go
theorem alK {h : Heap} {cs : Array Value} {e : TypeId} {K : Nat → Heap → Prop} (k : ∀ r h', r = h.size → Ext h h' → Own h' r cs → h'.size = h.size + 1 → K r h') : alW h (.cells cs e) K :=
  k _ _ rfl Ext.push own_new (by simp)
theorem same1 {h h' : Heap} {b o : Nat} {cs : Array Value} {S : Nat → Prop} (H : Own h b cs) (f : Fr S h h') (hb : ¬ S b) : sameCells h h' b o 1 := by
  have h1 := H.fr f hb
  simp only [sameCells]
  simp [H.cell, h1.cell]
end Go.Eng
namespace Go.Proofs
open Go Go.Eng
variable {B : World} {R : Ending → Heap → Prop} {h : Heap}
end Go.Proofs
namespace Go.Eng
open Go
theorem digs_snoc {b w : Nat} (hb : 1 < b) (hw : 0 < w) (l : List Nat) : l ++ digs b w = (l ++ [w % b]) ++ digs b (w / b) := by
  rw [digs_ne hb (by omega)]; simp
theorem digs_len {b k w n : Nat} (hb : b = 2 ^ k) (hk : 0 < k) (h : bl w ≤ k * n) : (digs b w).length ≤ n := by
  have h1 : 1 < b := by rw [hb]; exact Nat.one_lt_two_pow (by omega)
  have hv : val b (digs b w) < b ^ n := by rw [digs_val h1, hb, ← Nat.pow_mul]; exact bl_le_iff.1 h
  by_cases he : digs b w = []
  · rw [he]; simp
  · have := val_pos (b := b) he (digs_trim h1 w) (by omega)
    have h3 : b ^ ((digs b w).length - 1) < b ^ n := Nat.lt_of_le_of_lt this hv
    have := (Nat.pow_lt_pow_iff_right h1).1 h3
    omega
end Go.Eng
namespace Go.Proofs
open Go Go.Eng
variable {B : World} {R : Ending → Heap → Prop} {h : Heap}
/-- What told needs to know of the heap, once its loop runs. -/
structure Told (h0 h : Heap) (r3 r5 rx rm qm bd : Nat) (e : Int) : Prop where
  f : Ext h0 h
  o3 : Own h r3 #[.pointer (some ⟨rx, 0, none⟩), .int .i64 e]
  o5 : Own h r5 #[.bool false, .slice none 0 0, .int .i64 0]
  im : IntAt h rm qm ((1073741823 : Nat) : Int)
  g3 : h0.size ≤ r3
  g5 : h0.size ≤ r5
  gm : h0.size ≤ rm
  gq : h0.size ≤ qm
  gb : h0.size ≤ bd
  d3 : bd ≠ r3
  d5 : bd ≠ r5
  dm : bd ≠ rm
  dq : bd ≠ qm
  ne : r3 ≠ r5
theorem Told.fr {h0 h h' : Heap} {r3 r5 rx rm qm bd : Nat} {e : Int} {S : Nat → Prop} (T : Told h0 h r3 r5 rx rm qm bd e) (f : Fr S h h') (h3 : ¬ S r3) (h5 : ¬ S r5) (hm : ¬ S rm) (hq : ¬ S qm) (h0s : ∀ x, x < h0.size → ¬ S x) : Told h0 h' r3 r5 rx rm qm bd e :=
  ⟨Fr.trans T.f f fun x hx s => h0s x hx s, T.o3.fr f h3, T.o5.fr f h5, T.im.fr f hm hq, T.g3, T.g5, T.gm, T.gq, T.gb, T.d3, T.d5, T.dm, T.dq, T.ne⟩
end Go.Proofs
namespace Go.Eng
open Go
/-- Not in a block of h. -/
def Fresh (h : Heap) (p : Option Addr) : Prop := ∀ b o, p = some (⟨b, o, none⟩ : Addr) → h.size ≤ b
theorem Fresh.nil {h : Heap} : Fresh h none := fun _ _ e => by cases e
theorem Fresh.mono {h h' : Heap} {p : Option Addr} (H : Fresh h' p) (f : h.size ≤ h'.size) : Fresh h p := fun b o e => Nat.le_trans f (H b o e)
end Go.Eng
namespace Go.Proofs
open Go Go.Eng
variable {B : World} {R : Ending → Heap → Prop} {h : Heap}
theorem and_mask30 (w : Nat) : w &&& 1073741823 = w % B30 := Nat.and_two_pow_sub_one_eq_mod w 30
end Go.Proofs
namespace Go.Eng
open Go
theorem bl_eq {v : Nat} (h : v ≠ 0) : bl v = v.log2 + 1 := by rw [bl, if_neg h]
theorem bl_scale {m : Nat} (k : Nat) (h : m ≠ 0) : bl (m * 2 ^ k) = bl m + k := by
  have hk : 0 < 2 ^ k := Nat.pow_pos (by decide)
  rw [bl_eq h, bl_eq (Nat.mul_ne_zero h (by omega)), log2_scale k h]; omega
end Go.Eng
namespace Go.Proofs
open Go Go.Eng
variable {B : World} {R : Ending → Heap → Prop} {h : Heap}
theorem TabH.ext {h h' : Heap} (H : TabH h) (f : Ext h h') : TabH h' := H.fr f id
/-- An exact number in its one form, of value v in units of 2^-K. -/
def NumS (K : Nat) (h : Heap) (neg : Bool) (p : Option Addr) (n : Nat) (e v : Int) : Prop :=
  ∃ M : Nat, NumI h neg p n e (digs B30 M) ∧ 0 ≤ e + (K : Int) ∧ v = Ieee.signed neg M (e + (K : Int)).toNat
theorem NumS.ext {K : Nat} {h h' : Heap} {neg : Bool} {p : Option Addr} {n : Nat} {e v : Int} (H : NumS K h neg p n e v) (f : Ext h h') : NumS K h' neg p n e v :=
  let ⟨M, a, b⟩ := H; ⟨M, a.ext f, b⟩
theorem NumS.fr {K : Nat} {h h' : Heap} {neg : Bool} {p : Option Addr} {n : Nat} {e v : Int} {S : Nat → Prop} (H : NumS K h neg p n e v) (f : Fr S h h') (hp : ∀ b o, p = some ⟨b, o, none⟩ → ¬ S b) : NumS K h' neg p n e v :=
  let ⟨M, a, b⟩ := H; ⟨M, ⟨⟨a.d.pt, a.d.sl.fr f fun b o e _ => hp b o e, a.d.len, a.d.dig, a.d.trim⟩, a.le, a.zero, a.pos⟩, b⟩
theorem NumI.fr {h h' : Heap} {neg : Bool} {p : Option Addr} {n : Nat} {e : Int} {ds : List Nat} {S : Nat → Prop} (H : NumI h neg p n e ds) (f : Fr S h h') (hs : ∀ x, x < h.size → ¬ S x) : NumI h' neg p n e ds :=
  H.ext ⟨f.size, fun b hb _ => f.same b hb (hs b hb)⟩
theorem Fr.toExt {h h' : Heap} {S : Nat → Prop} (f : Fr S h h') (hs : ∀ x, x < h.size → ¬ S x) : Ext h h' := ⟨f.size, fun b hb _ => f.same b hb (hs b hb)⟩
theorem digI_nil {h : Heap} : DigI h none 0 (digs B30 0) := by
  rw [digs_zero]; exact ⟨.inl rfl, Sl.nil, rfl, Dig.nil, by simp [Trim]⟩
theorem numS_zero (K : Nat) (h : Heap) : NumS K h false none 0 0 0 :=
  ⟨0, ⟨digI_nil, by decide, fun _ => ⟨rfl, rfl⟩, fun h => absurd h (by decide)⟩, by omega, by simp [Ieee.signed]⟩
end Go.Proofs
namespace Go.Proofs
open Go Go.Eng
variable {B : World} {R : Ending → Heap → Prop} {h : Heap}
/-- A list of exact numbers, in units of 2^-K. -/
def NumL (K : Nat) (h : Heap) (p : Option Addr) (vs : List Int) : Prop :=
  vs = [] ∨ ∃ b o cs, p = some ⟨b, o, none⟩ ∧ Own h b cs ∧ ∀ i (hi : i < vs.length), ∃ neg q n c e, cs[o + i * 3]? = some (.bool neg) ∧ cs[o + i * 3 + 1]? = some (.slice q n c) ∧ cs[o + i * 3 + 1 + 1]? = some (.int .i64 e) ∧ NumS K h neg q n e vs[i]
theorem NumL.ext {K : Nat} {h h' : Heap} {p : Option Addr} {vs : List Int} (H : NumL K h p vs) (f : Ext h h') : NumL K h' p vs := by
  rcases H with H | ⟨b, o, cs, h1, h2, h3⟩
  · exact .inl H
  · exact .inr ⟨b, o, cs, h1, h2.ext f, fun i hi => let ⟨neg, q, n, c, e, a1, a2, a3, a4⟩ := h3 i hi; ⟨neg, q, n, c, e, a1, a2, a3, a4.ext f⟩⟩
/-- An exact number as it is reckoned with: where its big.Int lies, the Int's words; m times 2^e. -/
structure Ex where
  r : Nat
  q : Nat
  m : Int
  e : Int
def ExE (K : Nat) (h : Heap) (x : Ex) (v : Int) : Prop := IntAt h x.r x.q x.m ∧ 0 ≤ x.e + (K : Int) ∧ x.e ≤ 1048576 ∧ v = x.m * 2 ^ (x.e + (K : Int)).toNat ∧ (x.m = 0 ∨ x.m.natAbs % 2 = 1)
def exApart (x y : Ex) : Prop := x.r < y.r ∧ x.q < y.r ∧ x.r < y.q ∧ x.q < y.q
structure ExL (K : Nat) (h : Heap) (b : Nat) (xs : List Ex) (vs : List Int) : Prop where
  len : xs.length = vs.length
  own : ∃ cs, Own h b cs ∧ ∀ i (hi : i < xs.length), cs[i * 2]? = some (.pointer (some ⟨xs[i].r, 0, none⟩)) ∧ cs[i * 2 + 1]? = some (.int .i64 xs[i].e)
  at_ : ∀ i (hi : i < xs.length) (hv : i < vs.length), ExE K h xs[i] vs[i] ∧ b < xs[i].r ∧ b < xs[i].q
  apart : ∀ i j (hij : i < j) (hj : j < xs.length), exApart (xs[i]'(by omega)) xs[j]
theorem ExE.ext {K : Nat} {h h' : Heap} {x : Ex} {v : Int} (H : ExE K h x v) (f : Ext h h') : ExE K h' x v := ⟨H.1.ext f, H.2⟩
theorem ExL.ext {K : Nat} {h h' : Heap} {b : Nat} {xs : List Ex} {vs : List Int} (H : ExL K h b xs vs) (f : Ext h h') : ExL K h' b xs vs :=
  ⟨H.len, let ⟨cs, a, b⟩ := H.own; ⟨cs, a.ext f, b⟩, fun i hi hv => ⟨(H.at_ i hi hv).1.ext f, (H.at_ i hi hv).2⟩, H.apart⟩
end Go.Proofs
namespace Go.Eng
open Go
theorem growBy_le (n : Nat) : ∀ (r c : Nat), c ≤ 2 * n + 200 → Builtin.growBy n r c ≤ 2 * n + 200
  | 0, c, h => h
  | r + 1, c, h => by
    unfold Builtin.growBy
    split
    · exact h
    · exact growBy_le n r _ (by omega)
theorem nsc_le {n c : Nat} (h : c < n) : Builtin.nextslicecap n c ≤ 2 * n + 200 := by
  unfold Builtin.nextslicecap
  split
  · omega
  · split
    · omega
    · exact growBy_le n 4 c (by omega)
/-- A list that is being made, in blocks that h0 has not. -/
structure Lst (h0 h : Heap) (p : Option Addr) (n c : Nat) (ws : List Nat) : Prop where
  sl : Sl .i64 h p ws
  len : ws.length = n
  room : Room h p c (fun b => h0.size ≤ b)
  le : n ≤ c
  pt : Pt p
  fresh : Fresh h0 p
theorem Lst.nil {h0 h : Heap} : Lst h0 h none 0 0 [] := ⟨Sl.nil, rfl, .inl rfl, Nat.le_refl _, .inl rfl, Fresh.nil⟩
theorem Lst.fr {h0 h h' : Heap} {p : Option Addr} {n c : Nat} {ws : List Nat} (L : Lst h0 h p n c ws) (f : Ext h h') : Lst h0 h' p n c ws := ⟨L.sl.ext f, L.len, L.room.ext f, L.le, L.pt, L.fresh⟩
theorem i64_nat {x : Nat} (h : x < 9223372036854775808) : IntKind.i64.wrap (x : Int) = (x : Int) := wrap_i64_in (by omega) (by omega)
end Go.Eng
namespace Go.Proofs
open Go Go.Eng
variable {B : World} {R : Ending → Heap → Prop} {h : Heap}
/-- Digits to the base 2^30, perhaps with zeros on top. -/
structure DigU (h : Heap) (p : Option Addr) (n : Nat) (ds : List Nat) : Prop where
  pt : Pt p
  sl : Sl .i64 h p ds
  len : ds.length = n
  dig : Dig B30 ds
theorem DigI.u {p : Option Addr} {n : Nat} {ds : List Nat} (H : DigI h p n ds) : DigU h p n ds := ⟨H.pt, H.sl, H.len, H.dig⟩
theorem DigU.ext {h' : Heap} {p : Option Addr} {n : Nat} {ds : List Nat} (H : DigU h p n ds) (f : Ext h h') : DigU h' p n ds := ⟨H.pt, H.sl.ext f, H.len, H.dig⟩
theorem DigI.nil : DigI h none 0 [] := ⟨.inl rfl, Sl.nil, rfl, Dig.nil, by simp [Trim]⟩
end Go.Proofs
namespace Go.Proofs
open Go Go.Eng
variable {B : World} {R : Ending → Heap → Prop} {h : Heap}
theorem _root_.Go.Eng.Lst.u {h0 h : Heap} {p : Option Addr} {n c : Nat} {ws : List Nat} (L : Lst h0 h p n c ws) (d : Dig B30 ws) : DigU h p n ws := ⟨L.pt, L.sl, L.len, d⟩
end Go.Proofs
namespace Go.Eng
open Go
theorem Dig.set {b : Nat} {l : List Nat} (h : Dig b l) (k x : Nat) (hx : x < b) : Dig b (l.set k x) := fun w hw => by
  rcases List.mem_or_eq_of_mem_set hw with h1 | h1
  · exact h w h1
  · rw [h1]; exact hx
end Go.Eng
namespace Go.Proofs
open Go Go.Eng
variable {B : World} {R : Ending → Heap → Prop} {h : Heap}
end Go.Proofs
namespace Go.Proofs
open Go Go.Eng
variable {B : World} {R : Ending → Heap → Prop} {h : Heap}
/-- plumbref1.Neg. -/
def negP (b : Int) : Int := if isNaN b then NaNP else if b < 0 then b + 9223372036854775808 else b - 9223372036854775808
end Go.Proofs
namespace Go.Proofs
open Go Go.Eng
variable {B : World} {R : Ending → Heap → Prop} {h : Heap}
theorem fM_lt (b : Int) : fM b < 9007199254740992 := by
  have := fT_lt b
  unfold fM; split <;> omega
theorem fX_lt {b : Int} (hf : isFin b = true) : fX b ≤ 971 := by
  have hE : fE b < 2047 := by unfold isFin at hf; exact of_decide_eq_true hf
  unfold fX; split <;> omega
theorem signed_neg {neg : Bool} {M k : Nat} (h : M ≠ 0) : decide (Ieee.signed neg M k < 0) = neg := by
  have h2 : 0 < M * 2 ^ k := Nat.mul_pos (by omega) (Nat.pow_pos (by decide))
  unfold Ieee.signed
  rw [Nat.shiftLeft_eq]
  cases neg
  · have : ¬ ((M * 2 ^ k : Nat) : Int) < 0 := by omega
    simp only [Bool.false_eq_true, if_false, this, decide_false]
  · simp only [if_true, decide_eq_true_eq]; omega
theorem DigI.short {p : Option Addr} {n N : Nat} {es : List Nat} (D : DigI h p n es) (hb : bl (val B30 es) ≤ 30 * N) : n ≤ N := by
  have : digs B30 (val B30 es) = es := digs_of (by decide) D.dig D.trim
  rw [← D.len, ← this]
  exact digs_len (k := 30) rfl (by decide) hb
theorem bl_mul {a b : Int} {L L' : Nat} (ha : bl a.natAbs ≤ L) (hb : bl b.natAbs ≤ L') : bl (a * b).natAbs ≤ L + L' := by
  rw [bl_le_iff] at *
  rw [Int.natAbs_mul, Nat.pow_add]
  exact Nat.mul_lt_mul'' ha hb
end Go.Proofs
set_option linter.unusedVariables false
namespace Go.Eng
open Go
/-- The bits behind the last place: the first one, and whether there are others. -/
def halfB (M d : Nat) : Bool := decide (0 < d) && decide (M / 2 ^ (d - 1) % 2 = 1)
def restB (M d : Nat) : Bool := decide (0 < d - 1) && decide (M % 2 ^ (d - 1) ≠ 0)
theorem odd_bits (M d : Nat) : decide (M % 2 ^ d ≠ 0) = (halfB M d || restB M d) := by
  unfold halfB restB
  cases d with
  | zero => simp [Nat.mod_one]
  | succ d =>
    have hp : 0 < 2 ^ d := Nat.pow_pos (by decide)
    have h1 : M % 2 ^ (d + 1) = 2 ^ d * (M / 2 ^ d % 2) + M % 2 ^ d := by
      rw [Nat.pow_succ, Nat.mod_mul, Nat.add_comm]
    have hd : d + 1 - 1 = d := rfl
    rw [hd, h1]
    rcases Nat.mod_two_eq_zero_or_one (M / 2 ^ d) with h | h
    · rw [h]
      by_cases h0 : M % 2 ^ d = 0
      · simp [h0]
      · have hd0 : 0 < d := by
          rcases Nat.eq_zero_or_pos d with hz | hz
          · subst hz; rw [Nat.pow_zero, Nat.mod_one] at h0; exact absurd rfl h0
          · exact hz
        simp [h0, hd0]
    · rw [h]; simp
theorem rn_bits' (M d : Nat) : rn M d = M / 2 ^ d + (if (halfB M d && (restB M d || decide (M / 2 ^ d % 2 = 1))) = true then 1 else 0) := by
  unfold halfB restB
  cases d with
  | zero => rw [rn_zero]; simp
  | succ d =>
    unfold rn
    congr 1
    have hp : 0 < 2 ^ d := Nat.pow_pos (by decide)
    have h1 : M % 2 ^ (d + 1) = 2 ^ d * (M / 2 ^ d % 2) + M % 2 ^ d := by
      rw [Nat.pow_succ, Nat.mod_mul, Nat.add_comm]
    have h2 : M % 2 ^ d < 2 ^ d := Nat.mod_lt _ hp
    have h3 : 2 ^ (d + 1) = 2 ^ d * 2 := Nat.pow_succ ..
    have hd : d + 1 - 1 = d := rfl
    rw [hd, h1]
    generalize M / 2 ^ (d + 1) % 2 = q
    rcases Nat.mod_two_eq_zero_or_one (M / 2 ^ d) with h | h
    · rw [h, if_neg (by omega)]; simp
    · rw [h]
      by_cases h0 : M % 2 ^ d = 0
      · by_cases hq : q = 1
        · rw [if_pos (by omega)]; simp [h0, hq]
        · rw [if_neg (by omega)]; simp [h0, hq]
      · have hd0 : 0 < d := by
          rcases Nat.eq_zero_or_pos d with hz | hz
          · subst hz; rw [Nat.pow_zero, Nat.mod_one] at h0; exact absurd rfl h0
          · exact hz
        rw [if_pos (by omega)]; simp [h0, hd0]
end Go.Eng
