import Derived.Test.YtcbcgggnmncbjaaGreatFmtA24
import Derived.Test.YtcbcgggnmncbjaaGreatFmtA02
import Derived.Test.YtcbcgggnmncbjaaGreatFmtA03
/- Here stand lemmas and contracts, in the order in which they are used. -/
set_option linter.unusedVariables false
set_option linter.unusedVariables false
namespace Go.Eng
open Go
/-- A mantissa with its highest bit set. -/
def Top (n V : Nat) : Prop := 2 ^ (64 * n - 1) ≤ V ∧ V < 2 ^ (64 * n)
theorem top_pos {n V : Nat} (h : Top n V) : 0 < n ∧ 0 < V := by
  obtain ⟨h1, h2⟩ := h
  have : 0 < 2 ^ (64 * n - 1) := Nat.pow_pos (by decide)
  refine ⟨?_, by omega⟩
  rcases Nat.eq_zero_or_pos n with h | h
  · subst h; simp at h1 h2; omega
  · exact h
theorem top_log {n V : Nat} (h : Top n V) : V.log2 = 64 * n - 1 := by
  obtain ⟨a, b⟩ := top_pos h
  exact (Nat.log2_eq_iff (by omega)).2 ⟨h.1, by rw [show 64 * n - 1 + 1 = 64 * n by omega]; exact h.2⟩
theorem bl_val {ws : List Nat} (d : Dig 18446744073709551616 ws) (hw : ws ≠ []) (ht : ws.getLast hw ≠ 0) : bl (val 18446744073709551616 ws) = 64 * (ws.length - 1) + bl (ws.getLast hw) := by
  rw [val_top hw]
  have h1 : val 18446744073709551616 ws.dropLast < 18446744073709551616 ^ (ws.length - 1) := by
    have := val_lt (b := 18446744073709551616) (x := ws.dropLast) (fun w hw' => d w (List.dropLast_subset _ hw'))
    rwa [List.length_dropLast] at this
  have e : (18446744073709551616 : Nat) ^ (ws.length - 1) = 2 ^ (64 * (ws.length - 1)) := by
    rw [show (18446744073709551616 : Nat) = 2 ^ 64 from by decide, ← Nat.pow_mul]
  rw [e] at h1 ⊢
  exact bl_top h1 ht
theorem norm_top {V n : Nat} (h0 : V ≠ 0) (hb : bl V ≤ 64 * n) : Top n (V * 2 ^ (64 * n - bl V)) := by
  have h1 := bl_le h0
  have h2 := bl_lt V
  have hp := bl_pos h0
  constructor
  · have := Nat.mul_le_mul_right (2 ^ (64 * n - bl V)) h1
    rw [← Nat.pow_add, show bl V - 1 + (64 * n - bl V) = 64 * n - 1 by omega] at this
    exact this
  · have := Nat.mul_lt_mul_of_pos_right h2 (show 0 < 2 ^ (64 * n - bl V) from Nat.pow_pos (by decide))
    rw [← Nat.pow_add, show bl V + (64 * n - bl V) = 64 * n by omega] at this
    exact this
end Go.Eng
namespace Go.Proofs
open Go Go.Eng
variable {B : World} {R : Ending → Heap → Prop} {h : Heap}
/-- fnorm: the highest bit is brought up. -/
theorem K1093 {q o n c V : Nat} {ws : List Nat} (M : Mn h q o n c ws) (h0 : 0 < n) (ht : ws.getD (n - 1) 0 ≠ 0) (hV : val B64 ws = V)
    (H : ∀ zs h', Mn h' q o n c zs → Fr (fun x => x = q) h h' → val B64 zs = V * 2 ^ (64 * n - bl V) → R (.returned (.int .i64 ((64 * n - bl V : Nat) : Int))) h') :
    Ent Tryz.prog B 83 #[.slice (some ⟨q, o, none⟩) n c] R h := by
  have hB : B64 = 18446744073709551616 := rfl
  have hl := M.len
  have hle := M.le
  have hlim := M.lim
  have d : Dig B64 ws := M.dig
  have hw : ws ≠ [] := fun e => by rw [e] at hl; simp at hl; omega
  have hlast : ws.getLast hw = ws.getD (n - 1) 0 := by
    rw [List.getD_eq_getElem?_getD, List.getElem?_eq_getElem (by omega), Option.getD_some, List.getLast_eq_getElem]
    congr 1; omega
  have hbl : bl V = 64 * (n - 1) + bl (ws.getD (n - 1) 0) := by
    rw [← hV, ← hlast, ← hl]; exact bl_val d hw (by rw [hlast]; exact ht)
  have htop : ws.getD (n - 1) 0 < B64 := by
    rw [← hlast]; exact d _ (List.getLast_mem hw)
  have hb64 : bl (ws.getD (n - 1) 0) ≤ 64 := bl_le_iff.2 htop
  have hs : 64 - bl (ws.getD (n - 1) 0) = 64 * n - bl V := by omega
  have hV0 : V ≠ 0 := by
    intro e
    rw [e] at hbl
    have := bl_pos ht
    have h00 : bl 0 = 0 := rfl
    omega
  have e1 : IntKind.i64.wrap ((n : Int) - 1) = ((n - 1 : Nat) : Int) := by rw [i64_in (by omega) (by omega)]; omega
  refine F1093_ok _ _ _ ⟨fun e => (by cases e), fun _ => ⟨fun e => (by cases e), fun _ => ?_⟩⟩
  unfold F1093_j3
  rw [e1]
  refine M.sl.get (n - 1) rfl (by omega) (by omega) ?_
  have hg : ws[n - 1]'(by omega) = ws.getD (n - 1) 0 := by
    rw [List.getD_eq_getElem?_getD, List.getElem?_eq_getElem (by omega), Option.getD_some]
  rw [hg]
  refine K1108 htop ⟨_, rfl, ?_⟩
  rw [hs]
  have e2 : IntKind.i64.wrap ((64 * n - bl V : Nat) : Int) = ((64 * n - bl V : Nat) : Int) := i64_in (by omega) (by omega)
  have fin : ∀ zs h', Mn h' q o n c zs → Fr (fun x => x = q) h h' → val B64 zs = V * 2 ^ (64 * n - bl V) → F1093_j8 B R ((64 * n - bl V : Nat) : Int) h' := by
    intro zs h' m f hv
    unfold F1093_j8
    rw [e2]
    exact H zs h' m f hv
  refine ⟨fun e => ?_, fun e => ?_⟩
  · obtain ⟨cs, c1, c2, c3⟩ := M.own
    refine E206 (K140 rfl c1 (by omega) M.sl pt_some hl (by omega) d (fun b o' e => by cases e; exact .inr (Nat.le_refl _)) (by have := bl_pos ht; omega) fun zs cc h' W lz dz hc hv => ⟨_, rfl, fun e => (by cases e), fun _ => ⟨fun e => (by cases e), fun _ => ?_⟩⟩)
    have hlt : V * 2 ^ (64 * n - bl V) < B64 ^ n := by
      have := (norm_top hV0 (n := n) (by omega)).2
      rwa [pow64]
    have hc0 : cc = 0 := by
      rw [hV] at hv
      rcases Nat.eq_zero_or_pos cc with h | h
      · exact h
      · have : B64 ^ n * 1 ≤ B64 ^ n * cc := Nat.mul_le_mul_left _ h
        omega
    subst hc0
    exact fin zs h' (M.wrote W lz dz) W.fr (by rw [hV] at hv; simpa using hv)
  · have hs0 : 64 * n - bl V = 0 := by have := of_decide_eq_false e; omega
    refine fin ws h M Fr.rfl' ?_
    rw [hs0]; simpa using hV
end Go.Proofs
namespace Go.Eng
open Go
abbrev INF : Nat := 9218868437227405312
/-- The greatest rung. -/
theorem rung_form {m : Nat} (e : Int) : rung m e = min ((lastP m e + 1074).toNat * 4503599627370496 + kpt m e) INF := rfl
theorem isInf_rung {r : Nat} (hr : r < 9223372036854775808) : (Ieee.double.order r 9218868437227405311 == some .gt) = isInf (r : Int) := by
  have hI : I64 (r : Int) := by unfold I64; omega
  have hw : wd (r : Int) = r := by unfold wd; omega
  have hM : Ieee.double.read 9218868437227405311 = .number false 9007199254740991 971 := by decide +kernel
  unfold Ieee.Format.order
  rw [hM]
  have hneg : decide ((r : Int) < 0) = false := by simp
  have hl := look hI
  rw [hw, hneg] at hl
  rcases hl with ⟨a1, a2, a3, a4⟩ | ⟨a1, a2, a3, a4⟩ | ⟨a1, a2, a3, a4⟩
  · rw [a4, a2]
    have hE : fE (r : Int) < 2047 := by
      unfold isFin at a1; exact of_decide_eq_true a1
    have hM1 : fM (r : Int) ≤ 9007199254740991 := by
      have := fT_lt (r : Int)
      unfold fM; split <;> omega
    have hX : fX (r : Int) ≤ 971 := by unfold fX; split <;> omega
    have ho : Ieee.Datum.order (.number false (fM (r : Int)) (fX (r : Int))) (.number false 9007199254740991 971) =
        some (compare (Ieee.signed false (fM (r : Int)) (fX (r : Int) - min (fX (r : Int)) 971).toNat) (Ieee.signed false 9007199254740991 ((971 : Int) - min (fX (r : Int)) 971).toNat)) := rfl
    rw [ho, show min (fX (r : Int)) 971 = fX (r : Int) by omega, Int.sub_self, Int.toNat_zero]
    generalize ((971 : Int) - fX (r : Int)).toNat = k
    have h1 : Ieee.signed false (fM (r : Int)) 0 = (fM (r : Int) : Int) := by unfold Ieee.signed; simp
    have h2 : Ieee.signed false 9007199254740991 k = ((9007199254740991 * 2 ^ k : Nat) : Int) := by unfold Ieee.signed; rw [Nat.shiftLeft_eq]; simp
    rw [h1, h2]
    have hk : 0 < 2 ^ k := Nat.pow_pos (by decide)
    have hle : fM (r : Int) ≤ 9007199254740991 * 2 ^ k := Nat.le_trans hM1 (Nat.le_mul_of_pos_right _ hk)
    have hc : ∀ a b : Int, a ≤ b → compare a b ≠ .gt := by
      intro a b hab
      show compareOfLessAndEq a b ≠ .gt
      unfold compareOfLessAndEq
      split
      · simp
      · split
        · simp
        · omega
    have := hc (fM (r : Int) : Int) ((9007199254740991 * 2 ^ k : Nat) : Int) (by omega)
    simpa using this
  · rw [a4, a2]; rfl
  · rw [a4, a2]; rfl
theorem compare_self (a : Int) : compare a a = .eq := by
  show compareOfLessAndEq a a = .eq
  unfold compareOfLessAndEq
  rw [if_neg (by omega), if_pos rfl]
theorem order_self {w : Nat} (h : w < 18446744073709551616) : (Ieee.double.order w w != some .eq) = isNaN (sg w) := by
  unfold Ieee.Format.order
  have hl := look (sg_I64 h)
  rw [wd_sg h] at hl
  rcases hl with ⟨a1, a2, a3, a4⟩ | ⟨a1, a2, a3, a4⟩ | ⟨a1, a2, a3, a4⟩
  · rw [a4, a3]
    have ho : ∀ s m e, Ieee.Datum.order (.number s m e) (.number s m e) = some (compare (Ieee.signed s m (e - min e e).toNat) (Ieee.signed s m (e - min e e).toNat)) := fun _ _ _ => rfl
    rw [ho, compare_self]; rfl
  · rw [a4, a3]
    have ho : ∀ s : Bool, Ieee.Datum.order (.infinity s) (.infinity s) = some (compare s.toNat s.toNat) := fun _ => rfl
    rw [ho]
    cases decide (sg w < 0) <;> rfl
  · rw [a4, a3]; rfl
/-- What a float's operation gives, told. -/
theorem flW_in {f : Nat → Nat → Option Nat} {x y : Nat} {K : Nat → Prop} (hf : ∀ z, f x y = some z → z < 18446744073709551616 ∧ nrm (sg z) = sg z)
    (H : ∀ z, z < 18446744073709551616 → nrm (sg z) = opR (f x y) → K z) : flW .f64 (f x y) x y K := by
  refine ⟨fun z hz => ?_, fun hz t => ?_⟩
  · obtain ⟨h1, h2⟩ := hf z hz
    exact H z h1 (by rw [h2, hz]; rfl)
  · have hc : Question.cut (.nanBits .f64 x y) t = (t % 2) * 2 ^ 63 + 0x7ff0000000000000 + 1 + (t / 2) % (2 ^ 52 - 1) := rfl
    have hb : (t / 2) % (2 ^ 52 - 1) < 2 ^ 52 - 1 := Nat.mod_lt _ (by decide)
    refine H _ (by rw [hc]; omega) ?_
    rw [hz, hc]
    show nrm _ = NaNP
    have hn : isNaN (sg ((t % 2) * 2 ^ 63 + 0x7ff0000000000000 + 1 + (t / 2) % (2 ^ 52 - 1))) = true := by
      generalize (t / 2) % (2 ^ 52 - 1) = u at *
      have key : fE (sg ((t % 2) * 2 ^ 63 + 0x7ff0000000000000 + 1 + u)) = 2047 ∧ fT (sg ((t % 2) * 2 ^ 63 + 0x7ff0000000000000 + 1 + u)) = u + 1 := by
        unfold fE fT sg
        rcases Nat.mod_two_eq_zero_or_one t with h | h <;> rw [h] <;> split <;> omega
      unfold isNaN
      rw [key.1, key.2]
      simp
    unfold nrm; rw [hn]; rfl
theorem fadd_in {x y : Nat} {K : Nat → Prop} (hx : x < 18446744073709551616) (hy : y < 18446744073709551616) (H : ∀ z, z < 18446744073709551616 → nrm (sg z) = addP (nrm (sg x)) (nrm (sg y)) → K z) : flW .f64 (FloatKind.f64.format.add x y) x y K := by
  refine flW_in (f := Ieee.double.add) (fun z hz => map_write (fun d hd => sum_nan _ _ d hd) hz) fun z h1 h2 => H z h1 ?_
  have := add_opR (sg_I64 hx) (sg_I64 hy)
  rw [wd_sg hx, wd_sg hy] at this
  rw [h2, this, addP_nl, addP_nr]
theorem fsub_in {x y : Nat} {K : Nat → Prop} (hx : x < 18446744073709551616) (hy : y < 18446744073709551616) (H : ∀ z, z < 18446744073709551616 → nrm (sg z) = subP (nrm (sg x)) (nrm (sg y)) → K z) : flW .f64 (FloatKind.f64.format.sub x y) x y K := by
  refine flW_in (f := Ieee.double.sub) (fun z hz => map_write (fun d hd => sum_nan _ _ d hd) hz) fun z h1 h2 => H z h1 ?_
  have := sub_opR (sg_I64 hx) (sg_I64 hy)
  rw [wd_sg hx, wd_sg hy] at this
  rw [h2, this, subP_nl, subP_nr]
theorem fmul_in {x y : Nat} {K : Nat → Prop} (hx : x < 18446744073709551616) (hy : y < 18446744073709551616) (H : ∀ z, z < 18446744073709551616 → nrm (sg z) = mulP (nrm (sg x)) (nrm (sg y)) → K z) : flW .f64 (FloatKind.f64.format.mul x y) x y K := by
  refine flW_in (f := Ieee.double.mul) (fun z hz => map_write (fun d hd => prod_nan _ _ d hd) hz) fun z h1 h2 => H z h1 ?_
  have := mul_opR (sg_I64 hx) (sg_I64 hy)
  rw [wd_sg hx, wd_sg hy] at this
  rw [h2, this, mulP_nl, mulP_nr]
/-- A pattern's class. -/
def cls (b : Int) : Int := if fE b = 2047 ∧ fT b = 0 then 3 else if fE b = 2047 then 4 else if 0 < fE b then 2 else if 0 < fT b then 1 else 0
theorem cls_fin (b : Int) : decide (cls b < 3) = isFin b := by
  have := fE_lt b
  unfold cls isFin
  by_cases h1 : fE b = 2047
  · by_cases h2 : fT b = 0 <;> simp [h1, h2]
  · have h3 : fE b < 2047 := by omega
    simp only [h1, false_and, if_false]
    split
    · simp [h3]
    · split <;> simp [h3]
theorem cls_nan (b : Int) : decide (cls b = 4) = isNaN b := by
  unfold cls isNaN
  by_cases h1 : fE b = 2047
  · by_cases h2 : fT b = 0 <;> simp [h1, h2]
  · simp only [h1, false_and, if_false]
    split
    · simp
    · split <;> simp
end Go.Eng
set_option linter.unusedVariables false
/-! Rounding in the four ways, by the rungs of binary64: ahead of the sign. -/
namespace Go.Eng
open Go
/-- How many places are cut off. -/
def cutD (m : Nat) (e : Int) : Nat := (lastP m e - e).toNat
/-- The number, brought to the last place where it is coarser. -/
def cutX (m : Nat) (e : Int) : Nat := m * 2 ^ (e - lastP m e).toNat
/-- The rung below or at the number (there may be no such one). -/
def flo (m : Nat) (e : Int) : Nat := (lastP m e + 1074).toNat * 4503599627370496 + cutX m e / 2 ^ cutD m e
/-- Is anything left above that rung? -/
def odd (m : Nat) (e : Int) : Bool := decide (cutX m e % 2 ^ cutD m e ≠ 0)
/-- Is the next rung the nearest one? -/
def incN (m : Nat) (e : Int) : Bool := decide (2 ^ cutD m e < 2 * (cutX m e % 2 ^ cutD m e) ∨ (2 ^ cutD m e = 2 * (cutX m e % 2 ^ cutD m e) ∧ cutX m e / 2 ^ cutD m e % 2 = 1))
/-- Away from 0? (0 to the nearest, 1 down, 2 up, 3 to 0.) -/
def awayW (w : Nat) (neg : Bool) (m : Nat) (e : Int) : Bool :=
  match w with
  | 0 => incN m e
  | 1 => neg && odd m e
  | 2 => !neg && odd m e
  | _ => false
/-- Is what is too great infinite? -/
def topW (w : Nat) (neg : Bool) : Bool :=
  match w with
  | 0 => true
  | 1 => neg
  | 2 => !neg
  | _ => false
def idxW (w : Nat) (neg : Bool) (m : Nat) (e : Int) : Nat := flo m e + (awayW w neg m e).toNat
/-- The rung of a number in a way. -/
def dirP (w : Nat) (neg : Bool) (m : Nat) (e : Int) : Nat := if idxW w neg m e < INF then idxW w neg m e else if topW w neg then INF else INF - 1
theorem incN_odd {m : Nat} {e : Int} (h : incN m e = true) : odd m e = true := by
  unfold incN at h
  unfold odd
  have hp : 0 < 2 ^ cutD m e := Nat.pow_pos (by decide)
  rw [decide_eq_true_eq] at h ⊢
  omega
theorem rung_idx (m : Nat) (e : Int) (neg : Bool) : rung m e = min (idxW 0 neg m e) INF := by
  unfold idxW awayW
  have : kpt m e = cutX m e / 2 ^ cutD m e + (incN m e).toNat := by
    unfold kpt rn incN cutX cutD
    congr 1
    generalize (m * 2 ^ (e - lastP m e).toNat) = X
    generalize (lastP m e - e).toNat = d
    by_cases h : 2 ^ d < 2 * (X % 2 ^ d) ∨ (2 ^ d = 2 * (X % 2 ^ d) ∧ X / 2 ^ d % 2 = 1)
    · rw [if_pos h]; simp [h]
    · rw [if_neg h]; simp [h]
  rw [rung_form, this]
  unfold flo
  rw [Nat.add_assoc]
  rfl
theorem dirP_le (w : Nat) (neg : Bool) (m : Nat) (e : Int) : dirP w neg m e ≤ INF := by
  unfold dirP
  have hI : INF = 9218868437227405312 := rfl
  split
  · omega
  · split <;> omega
/-- Is the nearest one above, signs aside? (What is exact is not.) -/
def upN (m : Nat) (e : Int) : Bool := incN m e || decide (INF ≤ flo m e)
/-- Is the nearest one another number? -/
def inxN (m : Nat) (e : Int) : Bool := odd m e || decide (INF ≤ flo m e)
/-- The ways by the nearest one and whether it lies above. -/
theorem dir_near (w : Nat) (neg : Bool) (m : Nat) (e : Int) : dirP w neg m e =
    if inxN m e = false then rung m e else
    match w with
    | 0 => rung m e
    | 1 => if neg then (if upN m e then rung m e else rung m e + 1) else (if upN m e then rung m e - 1 else rung m e)
    | 2 => if neg then (if upN m e then rung m e - 1 else rung m e) else (if upN m e then rung m e else rung m e + 1)
    | _ => if upN m e then rung m e - 1 else rung m e := by
  have hI : 0 < INF := by decide
  have hr := rung_idx m e neg
  unfold idxW at hr
  have hw0 : awayW 0 neg m e = incN m e := rfl
  rw [hw0] at hr
  unfold dirP idxW inxN upN topW
  have hio := @incN_odd m e
  generalize flo m e = q at *
  generalize INF = J at *
  rw [hr]
  cases ho : odd m e
  · have hi : incN m e = false := by
      cases h : incN m e
      · rfl
      · rw [hio h] at ho; cases ho
    rw [hi]
    have ha : awayW w neg m e = false := by unfold awayW; split <;> simp [ho, hi]
    rw [ha]
    by_cases hq : q < J
    · have : ¬ J ≤ q := by omega
      simp only [Bool.toNat_false, Nat.add_zero, if_pos hq, Bool.false_or, this, decide_false, if_true]
      omega
    · have h2 : J ≤ q := by omega
      simp only [Bool.toNat_false, Nat.add_zero, if_neg hq, Bool.false_or, h2, decide_true, Bool.true_eq_false, if_false, if_true, Nat.min_eq_right h2]
      match w with
      | 0 => simp
      | 1 => cases neg <;> simp
      | 2 => cases neg <;> simp
      | n + 3 => simp
  · simp only [Bool.true_or, Bool.true_eq_false, if_false]
    unfold awayW
    match w with
    | 0 =>
      simp only [if_true]
      split <;> omega
    | 1 =>
      cases neg <;> cases hi : incN m e <;> simp [ho] <;> (repeat' split) <;> (try simp at *) <;> omega
    | 2 =>
      cases neg <;> cases hi : incN m e <;> simp [ho] <;> (repeat' split) <;> (try simp at *) <;> omega
    | n + 3 =>
      cases hi : incN m e <;> simp <;> (repeat' split) <;> (try simp at *) <;> omega
end Go.Eng
namespace Go.Proofs
open Go Go.Eng
variable {B : World} {R : Ending → Heap → Prop} {h : Heap}
abbrev B30 : Nat := 1073741824
/-- A number's digits, to the base 2^30. -/
structure DigI (h : Heap) (p : Option Addr) (n : Nat) (ds : List Nat) : Prop where
  pt : Pt p
  sl : Sl .i64 h p ds
  len : ds.length = n
  dig : Dig B30 ds
  trim : Trim ds
theorem DigI.ext {h h' : Heap} {p : Option Addr} {n : Nat} {ds : List Nat} (H : DigI h p n ds) (f : Ext h h') : DigI h' p n ds := ⟨H.pt, H.sl.ext f, H.len, H.dig, H.trim⟩
/-- nat.Valid of valid digits. -/
theorem K174 {p : Option Addr} {n c : Nat} {ds : List Nat} (hd : DigI h p n ds) (hn : n ≤ 2000) (H : R (.returned (.bool true)) h) : Ent Tryz.prog B 72 #[.slice p n c] R h := by
  have hl := hd.len
  refine F174_ok _ _ _ ⟨fun m vs h' => match vs with
    | [.slice p1 n1 _, .slice p2 n2 _, .int _ nn, .int _ i] => p = p1 ∧ n = n1 ∧ p = p2 ∧ n = n2 ∧ (n : Int) = nn ∧ h = h' ∧ ∃ j : Nat, i = (j : Int) ∧ j ≤ n ∧ m = n - j
    | _ => False, n, ⟨rfl, rfl, rfl, rfl, rfl, rfl, 0, rfl, by omega, rfl⟩, ?_⟩
  rintro m h' _ _ _ _ _ _ _ _ ⟨rfl, rfl, rfl, rfl, rfl, rfl, j, rfl, hj, rfl⟩ _
  refine ⟨fun e => ?_, fun e => ⟨fun e1 => ⟨fun _ => H, fun e2 => ?_⟩, fun e1 => ?_⟩⟩
  · have hjn : j < n := by simp at e; omega
    have dj : ds[j]'(by omega) < 1073741824 := hd.dig.get (by omega)
    refine hd.sl.get j rfl (by omega) (by omega) ⟨fun e => by simp at e; omega, fun _ => ?_⟩
    have : decide ((1073741824 : Int) ≤ ((ds[j]'(by omega) : Nat) : Int)) = false := by simp; omega
    rw [this]
    exact ⟨fun e => (by cases e), fun _ => ⟨n - (j + 1), by omega, rfl, rfl, rfl, rfl, rfl, rfl, j + 1, by rw [i64_in (by omega) (by omega)]; rfl, by omega, rfl⟩⟩
  · have hn0 : 0 < n := by simp at e2; omega
    refine hd.sl.get (n - 1) (by rw [i64_in (by omega) (by omega)]; omega) (by omega) (by omega) ?_
    have hw : ds[n - 1]'(by omega) ≠ 0 := by
      intro e0
      apply hd.trim
      rw [List.getLast?_eq_getElem?, hl, List.getElem?_eq_getElem (by omega), e0]
    have : (!decide (((ds[n - 1]'(by omega) : Nat) : Int) = 0)) = true := by simp; omega
    rw [this]; exact H
  · simp at e1; omega
theorem bl_dig {b k : Nat} {ds : List Nat} (hb : b = 2 ^ k) (hd : Dig b ds) : bl (val b ds) ≤ k * ds.length := by
  rw [bl_le_iff, Nat.pow_mul, ← hb]; exact val_lt hd
theorem or30 {v d : Nat} (hd : d < B30) : v * 2 ^ 30 ||| d = v * 2 ^ 30 + d := or_add hd
/-- dyadic.whole. -/
theorem K130 {neg : Bool} {p : Option Addr} {n c : Nat} {ds : List Nat} (hd : DigI h p n ds) (hn : n ≤ 30000)
    (H : ∀ (r q : Nat) (h' : Heap), Ext h h' → h.size ≤ r → h.size ≤ q → IntAt h' r q (if neg then -(val B30 ds : Int) else (val B30 ds : Int)) → R (.returned (.pointer (some ⟨r, 0, none⟩))) h') :
    Ent Tryz.prog B 91 #[.bool neg, .slice p n c] R h := by
  have hl := hd.len
  have hbl : ∀ j, j ≤ n → bl (val B30 (ds.drop j)) ≤ 30 * (n - j) := fun j hj => by
    have := bl_dig (k := 30) rfl (hd.dig.drop j)
    rw [List.length_drop, hl] at this; exact this
  refine F130_ok _ _ _ _ ?_
  refine ⟨fun m vs h' => match vs with
    | [.bool z, .slice p1 n1 c1, .pointer pr, .int _ nn, .int _ i] => neg = z ∧ p = p1 ∧ n = n1 ∧ c = c1 ∧ some (⟨h.size, 0, none⟩ : Addr) = pr ∧ (n : Int) = nn ∧ ∃ (j q : Nat), i = (j : Int) ∧ j ≤ n ∧ m = n - j ∧ Ext h h' ∧ h.size ≤ q ∧ IntAt h' h.size q (val B30 (ds.drop (n - j)) : Int)
    | _ => False, n, ⟨rfl, rfl, rfl, rfl, rfl, rfl, 0, h.size, rfl, by omega, rfl, Ext.push, Nat.le_refl _, ?_⟩, ?_⟩
  · rw [Nat.sub_zero, List.drop_of_length_le (by omega)]
    exact ZeroAt.int own_new
  rintro m h' _ _ _ _ _ _ _ ⟨rfl, rfl, rfl, rfl, rfl, rfl, j, q, rfl, hj, rfl, f, hq, hI⟩ _
  refine ⟨fun e => ?_, fun e => ?_⟩
  · have hjn : j < n := by simp at e; omega
    have hb1 := hbl (n - j) (by omega)
    refine K128i (s := 30) hI (by rw [Int.natAbs_natCast]; omega) (by decide) (by decide) fun q1 h1 f1 d1 I1 => ⟨_, rfl, ?_⟩
    have hhs := f.size
    have hq1 : h.size ≤ q1 := by rcases d1 with e | e | e; omega; exact e.1 ▸ hq; omega
    have fx : Ext h h1 := Fr.trans f f1 fun x hx e => by rcases e with e | e; omega; have := e.1; omega
    have dj : ds[n - 1 - j]'(by omega) < 1073741824 := hd.dig.get (by omega)
    have ei : IntKind.i64.wrap (IntKind.i64.wrap ((n : Int) - 1) - (j : Int)) = ((n - 1 - j : Nat) : Int) := by
      rw [i64_in (x := (n : Int) - 1) (by omega) (by omega), i64_in (by omega) (by omega)]; omega
    rw [ei]
    refine (hd.sl.ext fx).get (n - 1 - j) rfl (by omega) (by omega) (K120 (by omega) (by omega) fun r2 q2 h2 f2 hr2 hr2' hq2 I2 => ⟨_, rfl, ?_⟩)
    have ev : ((val B30 (ds.drop (n - j)) : Nat) : Int) * 2 ^ 30 = ((val B30 (ds.drop (n - j)) * 2 ^ 30 : Nat) : Int) := by
      rw [Int.natCast_mul, Int.natCast_pow]; rfl
    rw [ev] at I1
    have hdr : val B30 (ds.drop (n - (j + 1))) = (val B30 (ds.drop (n - j)) * 2 ^ 30 ||| ds[n - 1 - j]'(by omega)) := by
      rw [or30 dj, show n - (j + 1) = n - 1 - j by omega, val_drop _ _ (by omega), show n - 1 - j + 1 = n - j by omega, show (2 : Nat) ^ 30 = B30 from rfl, Nat.mul_comm B30]; omega
    have hpos : 0 < val B30 (ds.drop (n - (j + 1))) := by
      have hne : ds.drop (n - (j + 1)) ≠ [] := by
        intro e0
        have := congrArg List.length e0
        rw [List.length_drop] at this; simp at this; omega
      have ht : Trim (ds.drop (n - (j + 1))) := by
        have := hd.trim
        unfold Trim at this ⊢
        rw [List.getLast?_drop, if_neg (by omega)]; exact this
      exact Nat.lt_of_lt_of_le (Nat.pow_pos (by decide)) (val_pos hne ht (by decide : 0 < B30))
    have hI1 := I1.ext f2
    have hb2 : bl (val B30 (ds.drop (n - j)) * 2 ^ 30) ≤ 1000000 := by
      have h1 := bl_lt (val B30 (ds.drop (n - j)))
      have h2 : val B30 (ds.drop (n - j)) * 2 ^ 30 < 2 ^ bl (val B30 (ds.drop (n - j))) * 2 ^ 30 := Nat.mul_lt_mul_of_pos_right h1 (Nat.pow_pos (by decide))
      rw [← Nat.pow_add] at h2
      exact bl_of_lt h2 (by omega)
    have hb3 : bl (ds[n - 1 - j]'(by omega)) ≤ 1000000 := by
      have : bl (ds[n - 1 - j]'(by omega)) ≤ 30 := bl_le_iff.2 dj
      omega
    refine K175i hI1 I2 (by have := I1.lq; omega) hb2 hb3 (by rw [← hdr]; exact hpos) fun q3 h3 f3 d3 I3 => ⟨_, rfl, n - (j + 1), by omega, rfl, rfl, rfl, rfl, rfl, rfl, j + 1, q3, by rw [i64_in (by omega) (by omega)]; rfl, by omega, rfl, ?_, ?_, ?_⟩
    · exact Fr.trans (Ext.trans fx f2) f3 fun x hx e => by rcases e with e | e; omega; have := e.1; omega
    · have := fx.size; have := f2.size
      rcases d3 with e | e | e; omega; have := e.1; omega; omega
    · rw [hdr]; exact I3
  · have hjn : j = n := by simp at e; omega
    subst hjn
    rw [Nat.sub_self, List.drop_zero] at hI
    have hhs := f.size
    cases neg with
    | false => exact ⟨fun e => (by cases e), fun _ => H _ _ _ f (Nat.le_refl _) hq hI⟩
    | true =>
      refine ⟨fun _ => K74i hI fun q1 h1 f1 d1 I1 => ⟨_, rfl, ?_⟩, fun e => (by cases e)⟩
      refine H _ q1 _ (Fr.trans f f1 fun x hx e => by rcases e with e | e; omega; have := e.1; omega) (Nat.le_refl _) ?_ I1
      rcases d1 with e | e | e; omega; exact e.1 ▸ hq; omega
end Go.Proofs
namespace Go.Proofs
open Go Go.Eng
variable {B : World} {R : Ending → Heap → Prop} {h : Heap}
theorem and1_i64 {a : Nat} (ha : a < 9223372036854775808) : bitsI .and .i64 (a : Int) (1 : Int) = ((a % 2 : Nat) : Int) := by
  have h1 : bitsI .and .i64 (a : Int) (1 : Int) = IntKind.i64.wrap (((BitVec.ofInt 64 (a : Int) &&& BitVec.ofInt 64 ((1 : Nat) : Int)).toNat : Nat) : Int) := rfl
  rw [h1, ofInt_nat, ofInt_nat, BitVec.toNat_and, BitVec.toNat_ofNat, BitVec.toNat_ofNat, Nat.mod_eq_of_lt (by omega : a < 2 ^ 64), Nat.mod_eq_of_lt (by omega : 1 < 2 ^ 64), show a &&& 1 = a % 2 from Nat.and_two_pow_sub_one_eq_mod a 1]
  exact i64_in (by omega) (by omega)
/-- An exact number in its one form. -/
structure NumI (h : Heap) (neg : Bool) (p : Option Addr) (n : Nat) (e : Int) (ds : List Nat) : Prop where
  d : DigI h p n ds
  le : n ≤ 2000
  zero : n = 0 → neg = false ∧ e = 0
  pos : 0 < n → val B30 ds % 2 = 1 ∧ -1048576 ≤ e ∧ e ≤ 1048576
theorem NumI.ext {h h' : Heap} {neg : Bool} {p : Option Addr} {n : Nat} {e : Int} {ds : List Nat} (H : NumI h neg p n e ds) (f : Ext h h') : NumI h' neg p n e ds := ⟨H.d.ext f, H.le, H.zero, H.pos⟩
theorem val_mod2 {ds : List Nat} (hn : 0 < ds.length) : val B30 ds % 2 = ds[0] % 2 := by
  have := val_drop B30 ds (i := 0) hn
  rw [List.drop_zero] at this
  rw [this]; unfold B30; omega
/-- dyadic.Valid of a valid one. -/
theorem K129 {neg : Bool} {p : Option Addr} {n c : Nat} {e : Int} {ds : List Nat} (hx : NumI h neg p n e ds) (H : ∀ h', Ext h h' → R (.returned (.bool true)) h') : Ent Tryz.prog B 39 #[.agg #[.bool neg, .slice p n c, .int .i64 e]] R h := by
  have o : Own (h.push (.cells #[.bool neg, .slice p n c, .int .i64 e] 33)) h.size #[.bool neg, .slice p n c, .int .i64 e] := own_new
  have f : Ext h (h.push (.cells #[.bool neg, .slice p n c, .int .i64 e] 33)) := Ext.push
  have ld0 : ∀ {K : Bool → Prop}, K neg → isP (some ⟨h.size, 0, none⟩) fun b o => isP (some ⟨b, o, none⟩) fun b o => ∃ x, cell? (h.push (.cells #[.bool neg, .slice p n c, .int .i64 e] 33)) ⟨b, o, none⟩ = some (.bool x) ∧ K x :=
    fun k => ⟨h.size, 0, rfl, h.size, 0, rfl, neg, o.cell _, k⟩
  have ld1 : ∀ {K : Option Addr → Nat → Nat → Prop}, K p n c → isP (some ⟨h.size, 0, none⟩) fun b o => isP (some ⟨b, o + 1, none⟩) fun b o => ∃ x xn xc, cell? (h.push (.cells #[.bool neg, .slice p n c, .int .i64 e] 33)) ⟨b, o, none⟩ = some (.slice x xn xc) ∧ K x xn xc :=
    fun k => ⟨h.size, 0, rfl, h.size, 0 + 1, rfl, p, n, c, o.cell _, k⟩
  have ld2 : ∀ {K : Int → Prop}, K e → isP (some ⟨h.size, 0, none⟩) fun b o => isP (some ⟨b, o + 2, none⟩) fun b o => ∃ x, cell? (h.push (.cells #[.bool neg, .slice p n c, .int .i64 e] 33)) ⟨b, o, none⟩ = some (.int .i64 x) ∧ K x :=
    fun k => ⟨h.size, 0, rfl, h.size, 0 + 2, rfl, e, o.cell _, k⟩
  refine F129_ok _ _ _ _ _ (ld1 ⟨fun e0 => ld0 ?_, fun e0 => ld1 (K174 (hx.d.ext f) hx.le ⟨_, rfl, fun _ => ld1 ?_, fun e => (by cases e)⟩)⟩)
  · have hn : n = 0 := by simpa using e0
    obtain ⟨rfl, rfl⟩ := hx.zero hn
    exact ⟨fun _ => ld2 (H _ f), fun e => (by cases e)⟩
  · have hn : 0 < n := by simp at e0; omega
    obtain ⟨p1, p2, p3⟩ := hx.pos hn
    have hl := hx.d.len
    have hdg : ds[0]'(by omega) < 1073741824 := hx.d.dig.get (by omega)
    refine (hx.d.sl.ext f).get 0 rfl (by omega) (by omega) ?_
    rw [and1_i64 (by omega), ← val_mod2, p1]
    refine ⟨fun _ => ld2 ⟨fun _ => ld2 ?_, fun e => ?_⟩, fun e => by simp at e⟩
    · have : decide (e ≤ (1048576 : Int)) = true := by simp; omega
      rw [this]; exact H _ f
    · simp at e; omega
end Go.Proofs
namespace Go.Eng
open Go
theorem alK {h : Heap} {cs : Array Value} {e : TypeId} {K : Nat → Heap → Prop} (k : ∀ r h', r = h.size → Ext h h' → Own h' r cs → h'.size = h.size + 1 → K r h') : alW h (.cells cs e) K :=
  k _ _ rfl Ext.push own_new (by simp)
theorem same1 {h h' : Heap} {b o : Nat} {cs : Array Value} {S : Nat → Prop} (H : Own h b cs) (f : Fr S h h') (hb : ¬ S b) : sameCells h h' b o 1 := by
  have h1 := H.fr f hb
  simp only [sameCells]
  simp [H.cell, h1.cell]
end Go.Eng
namespace Go.Proofs
open Go Go.Eng
variable {B : World} {R : Ending → Heap → Prop} {h : Heap}
end Go.Proofs
namespace Go.Eng
open Go
theorem digs_snoc {b w : Nat} (hb : 1 < b) (hw : 0 < w) (l : List Nat) : l ++ digs b w = (l ++ [w % b]) ++ digs b (w / b) := by
  rw [digs_ne hb (by omega)]; simp
theorem digs_len {b k w n : Nat} (hb : b = 2 ^ k) (hk : 0 < k) (h : bl w ≤ k * n) : (digs b w).length ≤ n := by
  have h1 : 1 < b := by rw [hb]; exact Nat.one_lt_two_pow (by omega)
  have hv : val b (digs b w) < b ^ n := by rw [digs_val h1, hb, ← Nat.pow_mul]; exact bl_le_iff.1 h
  by_cases he : digs b w = []
  · rw [he]; simp
  · have := val_pos (b := b) he (digs_trim h1 w) (by omega)
    have h3 : b ^ ((digs b w).length - 1) < b ^ n := Nat.lt_of_le_of_lt this hv
    have := (Nat.pow_lt_pow_iff_right h1).1 h3
    omega
/-- An element appended where there is room. -/
theorem ap1i {k : IntKind} {h : Heap} {p : Option Addr} {n c r e : Nat} {ws : List Nat} {x : Nat} {S : Nat → Prop} {zero : Array Value} {bytes : Nat} {K : Option Addr → Nat → Nat → Heap → Prop}
    (hs : Sl k h p ws) (hr : Room h p c S) (hn : ws.length = n) (hc : n + 1 ≤ c) (hx : Own h r #[.int k (x : Int)])
    (hk : ∀ h', Sl k h' p (ws ++ [x]) → Room h' p c S → Fr S h h' → K p (n + 1) c h') :
    apW h p n c (some ⟨r, 0, none⟩) 1 1 bytes e zero K := by
  have hrow : rowAt h (some ⟨r, 0, none⟩) (1 * 1) [.int k (x : Int)] := by
    refine ⟨rfl, r, 0, rfl, fun i hi => ?_⟩
    have : i = 0 := by simp at hi; exact hi
    subst this
    rw [hx.cell]; rfl
  refine ⟨fun hle => ?_, fun hlt => by omega⟩
  refine ⟨_, hrow, ?_⟩
  rcases hr with hr | ⟨b, o, cs, e1, e2, e3, e4⟩
  · omega
  subst e1
  have hsz : o + n < cs.size := by omega
  refine ⟨b, o, rfl, fun y hy => ?_, fun i hi => ?_, ?_⟩
  · rw [List.mem_singleton] at hy; subst hy; rfl
  · have : i = 0 := by simp at hi; exact hi
    subst this
    exact ⟨⟨_, by rw [e2.cell, Array.getElem?_eq_getElem (by omega)]⟩, e2.frozen _⟩
  · simp only [setRow, Nat.mul_one]
    have H' := own_set (o := o + n) (v := .int k (x : Int)) e2
    refine hk _ (.inr ⟨b, o, _, rfl, H', fun i hi => ?_⟩) (.inr ⟨b, o, _, rfl, H', by simpa using e3, e4⟩) (Fr.mono fr_setCell fun y _ hy => hy ▸ e4)
    rw [List.length_append, List.length_singleton] at hi
    by_cases hil : i < ws.length
    · rw [Array.getElem?_setIfInBounds_ne (by omega), List.getElem_append_left hil]
      rcases hs with hs | ⟨b', o', cs', f1, f2, f3⟩
      · subst hs; exact absurd hil (by simp)
      · cases f1; rw [e2.inj f2]; exact f3 i hil
    · have : i = ws.length := by omega
      subst this
      simp only [hn, List.getElem_concat_length]
      rw [Array.getElem?_setIfInBounds_self_of_lt hsz]
end Go.Eng
namespace Go.Proofs
open Go Go.Eng
variable {B : World} {R : Ending → Heap → Prop} {h : Heap}
/-- What told needs to know of the heap, once its loop runs. -/
structure Told (h0 h : Heap) (r3 r5 rx rm qm bd : Nat) (e : Int) : Prop where
  f : Ext h0 h
  o3 : Own h r3 #[.pointer (some ⟨rx, 0, none⟩), .int .i64 e]
  o5 : Own h r5 #[.bool false, .slice none 0 0, .int .i64 0]
  im : IntAt h rm qm ((1073741823 : Nat) : Int)
  g3 : h0.size ≤ r3
  g5 : h0.size ≤ r5
  gm : h0.size ≤ rm
  gq : h0.size ≤ qm
  gb : h0.size ≤ bd
  d3 : bd ≠ r3
  d5 : bd ≠ r5
  dm : bd ≠ rm
  dq : bd ≠ qm
  ne : r3 ≠ r5
theorem Told.fr {h0 h h' : Heap} {r3 r5 rx rm qm bd : Nat} {e : Int} {S : Nat → Prop} (T : Told h0 h r3 r5 rx rm qm bd e) (f : Fr S h h') (h3 : ¬ S r3) (h5 : ¬ S r5) (hm : ¬ S rm) (hq : ¬ S qm) (h0s : ∀ x, x < h0.size → ¬ S x) : Told h0 h' r3 r5 rx rm qm bd e :=
  ⟨Fr.trans T.f f fun x hx s => h0s x hx s, T.o3.fr f h3, T.o5.fr f h5, T.im.fr f hm hq, T.g3, T.g5, T.gm, T.gq, T.gb, T.d3, T.d5, T.dm, T.dq, T.ne⟩
end Go.Proofs
