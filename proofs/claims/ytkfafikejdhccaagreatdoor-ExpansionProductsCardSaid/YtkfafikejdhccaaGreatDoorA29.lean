import Derived.Test.YtkfafikejdhccaaGreatDoorA27
import Derived.Test.YtkfafikejdhccaaGreatDoorA28
import Derived.Test.YtkfafikejdhccaaGreatDoorA22
/- Here stand lemmas: expansions: contracts, first part. -/
set_option linter.unusedVariables false
namespace Go.Proofs
open Go Go.Eng
variable {B : World} {R : Ending → Heap → Prop} {h : Heap}
/-- The pattern of 2^e. -/
def pwP (e : Int) : Int := if -1022 ≤ e then (e + 1023) * 4503599627370496 else ((2 ^ (e + 1074).toNat : Nat) : Int)
theorem near_tab : ∀ k, k < 53 → FloatKind.f64.nearest ((2 ^ k : Nat) : Int) = (k + 1023) * 4503599627370496 := by decide +kernel
theorem frac_tab : ∀ k, k < 53 → bitsI .andNot .u64 (((k + 1023) * 4503599627370496 : Nat) : Int) (9218868437227405312 : Int) = 0 := by decide +kernel
theorem mul_tab : ∀ e, e < 2046 → FloatKind.f64.format.mul ONE ((e + 1) * 4503599627370496) = some ((e + 1) * 4503599627370496) := by decide +kernel
end Go.Proofs
namespace Go.Proofs
open Go Go.Eng
variable {B : World} {R : Ending → Heap → Prop} {h : Heap}
abbrev pw2 (k : Nat) : Nat := (k + 1023) * 4503599627370496
theorem sub_tab : ∀ d, d < 52 → FloatKind.f64.format.mul 4368491638549381120 ((d + 2) * 4503599627370496) = some (2 ^ d) := by decide +kernel
theorem t1 : ∀ k, k < 53 → (FloatKind.f64.format.order (pw2 k) 0 == some .eq) = false := by decide +kernel
theorem t2 : ∀ k, k < 53 → (FloatKind.f64.format.order (pw2 k) (pw2 k) != some .eq) = false := by decide +kernel
theorem t3 : ∀ k, k < 53 → (FloatKind.f64.format.order (pw2 k) 4503599627370496 == some .lt) = false := by decide +kernel
theorem t4 : ∀ k, k < 53 → isInf (sg (pw2 k)) = false := by decide +kernel
theorem t5 : ∀ k, k < 53 → bitsI .andNot .u64 ((pw2 k : Nat) : Int) (9223372036854775808 : Int) = ((pw2 k : Nat) : Int) := by decide +kernel
theorem t6 : ∀ k, k < 53 → IntKind.i64.wrap ((bitsI .and .i64 (IntKind.i64.wrap (Int.fdiv ((pw2 k : Nat) : Int) (2 ^ min (Int.toNat (52 : Int)) IntKind.u64.bits))) (2047 : Int)) - (1023 : Int)) = (k : Int) := by decide +kernel
theorem t7 {y : Int} (h1 : 0 ≤ y) (h2 : y < 2047) : bitsI .or .u64 (0 : Int) (IntKind.u64.wrap ((IntKind.u64.wrap y) * 2 ^ min (Int.toNat (52 : Int)) IntKind.u64.bits)) = ((y.toNat * 4503599627370496 : Nat) : Int) := by
  obtain ⟨n, rfl⟩ : ∃ n : Nat, y = (n : Int) := ⟨y.toNat, by omega⟩
  have e1 : IntKind.u64.wrap (n : Int) = (n : Int) := by rw [wrap_u64_nat]; omega
  have e2 := shl_pow (x := n) (s := 52) (by decide)
  rw [show ((52 : Nat) : Int) = 52 from rfl, show (2 : Nat) ^ 52 = 4503599627370496 by decide] at e2
  rw [e1, e2, Int.toNat_natCast]
  have := bitsI_or (a := 0) (b := n * 4503599627370496 % 18446744073709551616) (by decide) (by omega)
  rw [show ((0 : Nat) : Int) = 0 from rfl, Nat.zero_or] at this
  rw [this]
  omega
/-- math.Ldexp, of a power of 2. -/
theorem K93p {k : Nat} {x : Int} (hk : k < 53) (h1 : -1074 ≤ x) (h2 : x ≤ 971) (H : R (.returned (.float .f64 (wd (pwP ((k : Int) + x))))) h) : Ent Tryz.prog B 93 #[.float .f64 (pw2 k), .int .i64 x] R h := by
  refine F93_ok _ _ ⟨fun e => (by cases e), fun _ => F152_ok _ _ ?_⟩
  unfold F152
  rw [t1 k hk]
  have hw : pw2 k < 18446744073709551616 := by unfold pw2; omega
  refine ⟨fun e => (by cases e), fun _ => K118 hw ⟨_, rfl, ?_⟩⟩
  rw [t4 k hk]
  refine ⟨fun e => (by cases e), fun _ => F183_ok _ ⟨_, rfl, ?_⟩⟩
  rw [t2 k hk]
  refine ⟨fun e => (by cases e), fun _ => F184_ok _ (F94_ok _ (E117 ⟨_, rfl, ?_⟩))⟩
  rw [t5 k hk]
  refine E116 ⟨_, rfl, _, rfl, ?_⟩
  rw [t3 k hk]
  refine ⟨fun e => (by cases e), fun _ => ⟨_, _, rfl, E117 ⟨_, rfl, by decide, ?_⟩⟩⟩
  rw [t6 k hk, i64_in (x := x + 0) (by omega) (by omega), i64_in (x := x + 0 + (k : Int)) (by omega) (by omega)]
  generalize hE : x + 0 + (k : Int) = E
  have hE1 : -1074 ≤ E := by omega
  have hE2 : E ≤ 1023 := by omega
  rw [show (k : Int) + x = E by omega] at H
  refine ⟨fun e => absurd (of_decide_eq_true e) (by omega), fun _ => ⟨fun e => absurd (of_decide_eq_true e) (by omega), fun _ => ⟨fun e => ?_, fun e => ?_⟩⟩⟩
  · have hlt := of_decide_eq_true e
    refine ⟨by decide, ?_⟩
    rw [frac_tab k hk, i64_in (x := E + 53) (by omega) (by omega), i64_in (x := E + 53 + 1023) (by omega) (by omega), t7 (by omega) (by omega)]
    refine E116 ⟨_, rfl, ?_⟩
    obtain ⟨d, hd⟩ : ∃ d : Nat, E + 1074 = (d : Int) := ⟨(E + 1074).toNat, by omega⟩
    rw [show (E + 53 + 1023).toNat = d + 2 by omega, sub_tab d (by omega)]
    refine ⟨fun z hz => ?_, fun e => by cases e⟩
    cases hz
    have e2 : wd (pwP E) = 2 ^ d := by
      have : 2 ^ d ≤ 2 ^ 52 := Nat.pow_le_pow_right (by decide) (by omega)
      have e52 : (2 : Nat) ^ 52 = 4503599627370496 := by decide
      unfold pwP wd
      rw [if_neg (by omega), show (E + 1074).toNat = d by omega]
      rw [e52] at this
      generalize 2 ^ d = q at *
      omega
    rw [e2] at H
    exact ⟨_, rfl, H⟩
  · have hlt := of_decide_eq_false e
    refine ⟨by decide, ?_⟩
    rw [frac_tab k hk, i64_in (x := E + 1023) (by omega) (by omega), t7 (by omega) (by omega)]
    refine E116 ⟨_, rfl, ?_⟩
    obtain ⟨d, hd⟩ : ∃ d : Nat, E + 1022 = (d : Int) := ⟨(E + 1022).toNat, by omega⟩
    rw [show (E + 1023).toNat = d + 1 by omega, mul_tab d (by omega)]
    refine ⟨fun z hz => ?_, fun e => by cases e⟩
    cases hz
    have e2 : wd (pwP E) = (d + 1) * 4503599627370496 := by
      unfold pwP wd
      rw [if_pos (by omega), show E + 1023 = ((d + 1 : Nat) : Int) by omega]
      omega
    rw [e2] at H
    exact ⟨_, rfl, H⟩
end Go.Proofs
namespace Go.Proofs
open Go Go.Eng
variable {B : World} {R : Ending → Heap → Prop} {h : Heap}
theorem pwP_law {e : Int} (h1 : -1074 ≤ e) (h2 : e ≤ 1023) : I64 (pwP e) ∧ isFin (pwP e) = true ∧ fV (pwP e) = ((2 ^ (e + 1074).toNat : Nat) : Int) := by
  have e52 : (2 : Nat) ^ 52 = 4503599627370496 := by decide
  unfold pwP
  by_cases hc : -1022 ≤ e
  · rw [if_pos hc]
    obtain ⟨j, hj⟩ : ∃ j : Nat, e + 1022 = (j : Int) := ⟨(e + 1022).toNat, by omega⟩
    have hr : (e + 1023) * 4503599627370496 = pat false (j * 4503599627370496 + 4503599627370496) := by
      show _ = ((j * 4503599627370496 + 4503599627370496 : Nat) : Int)
      omega
    obtain ⟨a1, a2⟩ := fV_pat false (j := j) (k := 4503599627370496) (by omega) (by omega) (by omega)
    rw [hr]
    refine ⟨pat_I64 (by omega), a1, ?_⟩
    rw [a2, signed_nat, ← e52, ← Nat.pow_add, show 52 + j = (e + 1074).toNat by omega]; rfl
  · rw [if_neg hc]
    obtain ⟨d, hd⟩ : ∃ d : Nat, (e + 1074).toNat = d ∧ d < 52 := ⟨_, rfl, by omega⟩
    rw [hd.1]
    have hlt : 2 ^ d < 4503599627370496 := by rw [← e52]; exact Nat.pow_lt_pow_right (by decide) hd.2
    obtain ⟨a1, a2⟩ := fV_pat false (j := 0) (k := 2 ^ d) (by omega) (by omega) (by omega)
    rw [Nat.zero_mul, Nat.zero_add] at a1 a2
    refine ⟨by unfold I64; generalize 2 ^ d = q at *; omega, a1, ?_⟩
    have : fV ((2 ^ d : Nat) : Int) = Ieee.signed false (2 ^ d) 0 := a2
    rw [this, signed_nat, Nat.pow_zero, Nat.mul_one]; rfl
/-- A slice of whole numbers that only is read. -/
def IntsH (h : Heap) (p : Option Addr) (xs : List Int) : Prop :=
  (∀ x ∈ xs, I64 x) ∧ (xs = [] ∨ ∃ r q, p = some ⟨r, q, none⟩ ∧ r < h.size ∧ ∀ i (hi : i < xs.length), cell? h ⟨r, q + i, none⟩ = some (.int .i64 xs[i]))
theorem IntsH.ext {h h' : Heap} {p : Option Addr} {xs : List Int} (H : IntsH h p xs) (f : Ext h h') : IntsH h' p xs := by
  refine ⟨H.1, ?_⟩
  rcases H.2 with e | ⟨r, q, e, hr, g⟩
  · exact .inl e
  · exact .inr ⟨r, q, e, Nat.lt_of_lt_of_le hr f.size, fun i hi => (cell_ext f hr).trans (g i hi)⟩
theorem IntsH.get {p : Option Addr} {xs : List Int} {n : Nat} (H : IntsH h p xs) (hn : xs.length = n) {j : Nat} (hj : j < xs.length) {K : Int → Prop} (k : K xs[j]) :
    ixW p n (j : Int) 1 fun b o => isP (some ⟨b, o, none⟩) fun b o => ∃ x, cell? h ⟨b, o, none⟩ = some (.int .i64 x) ∧ K x := by
  rcases H.2 with e | ⟨r, q, e, hr, g⟩
  · subst e; cases hj
  · refine ⟨r, q, e, by omega, by omega, r, _, rfl, xs[j], ?_, k⟩
    rw [Int.toNat_natCast, Nat.mul_one]; exact g j hj
/-- The worth of the lowest bit that is set, in units of 2^-1074. -/
def lowN (b : Int) : Nat := 2 ^ (Lib.ctz 64 (fM b) + (fX b + 1074).toNat)
/-- An expansion, behind what is below it. -/
def vOk (below : Nat) : List Int → Bool
  | [] => true
  | b :: r => (decide (cls b = 1) || decide (cls b = 2)) && (decide (below < lowN b) && vOk (fV b).natAbs r)
def validP (xs : List Int) : Bool := decide (xs.length ≤ 4096) && vOk 0 xs
theorem cls_pos {b : Int} (h : cls b = 1 ∨ cls b = 2) : isFin b = true ∧ fM b ≠ 0 := by
  have := fE_lt b
  refine ⟨by rw [← cls_fin]; exact decide_eq_true (by omega), ?_⟩
  unfold cls at h
  unfold fM
  by_cases h0 : fE b = 0
  · rw [if_pos h0]
    intro hT
    rw [h0, hT] at h
    simp at h
  · rw [if_neg h0]; omega
theorem low_and {m : Nat} (h0 : m ≠ 0) (hm : m < 9007199254740992) : bitsI .and .i64 (m : Int) (IntKind.i64.wrap (0 - (m : Int))) = ((2 ^ Lib.ctz 64 m : Nat) : Int) ∧ Lib.ctz 64 m < 53 := by
  have e64 : (2 : Nat) ^ 64 = 18446744073709551616 := by decide
  obtain ⟨l1, l2⟩ := Lib.lowest_bit 64 m h0 (by rw [e64]; omega)
  have hle : 2 ^ Lib.ctz 64 m ≤ m := by rw [← l1]; exact Nat.and_le_left
  have hc : Lib.ctz 64 m < 53 := by
    apply Nat.lt_of_not_le
    intro h
    have : 2 ^ 53 ≤ 2 ^ Lib.ctz 64 m := Nat.pow_le_pow_right (by decide) h
    have e53 : (2 : Nat) ^ 53 = 9007199254740992 := by decide
    omega
  refine ⟨?_, hc⟩
  rw [i64_in (by omega) (by omega)]
  have h1 : bitsI .and .i64 (m : Int) (0 - (m : Int)) = IntKind.i64.wrap (((BitVec.ofInt 64 (m : Int) &&& BitVec.ofInt 64 (0 - (m : Int))).toNat : Nat) : Int) := rfl
  rw [h1, BitVec.toNat_and, BitVec.toNat_ofInt, BitVec.toNat_ofInt]
  have e1 : ((m : Int) % ((2 ^ 64 : Nat) : Int)).toNat = m := by rw [e64]; omega
  have e2 : ((0 - (m : Int)) % ((2 ^ 64 : Nat) : Int)).toNat = 2 ^ 64 - m := by rw [e64]; omega
  rw [e1, e2, l1, i64_nat (by omega)]
end Go.Proofs
namespace Go.Proofs
open Go Go.Eng
variable {B : World} {R : Ending → Heap → Prop} {h : Heap}
theorem wd_abs {b : Int} (hb : I64 b) : wd b % 9223372036854775808 = wd (absP b) := by
  unfold I64 at hb
  unfold wd absP
  split <;> omega
theorem wd_natP {m : Nat} (hm : m < 53) : FloatKind.f64.nearest ((2 ^ m : Nat) : Int) = pw2 m := near_tab m hm
/-- expansion.Valid. -/
theorem K37 {p : Option Addr} {n c : Nat} {xs : List Int} (I : IntsH h p xs) (hn : xs.length = n) (H : R (.returned (.bool (validP xs))) h) : Ent Tryz.prog B 37 #[.slice p n c] R h := by
  unfold validP at H
  refine F37_ok _ _ _ ⟨fun e => ?_, fun e => ?_⟩
  · have hb := of_decide_eq_true e
    rw [decide_eq_false (show ¬ xs.length ≤ 4096 by omega)] at H
    exact H
  have hb := of_decide_eq_false e
  rw [decide_eq_true (show xs.length ≤ 4096 by omega), Bool.true_and] at H
  refine ⟨fun m vs h' => match vs with
    | [.slice p1 n1 c1, .float _ w, .int _ y, .int _ i] => p = p1 ∧ n = n1 ∧ c = c1 ∧ h = h' ∧ y = (n : Int) ∧ ∃ j : Nat, i = (j : Int) ∧ j ≤ n ∧ m = n - j ∧ ∃ (b : Int) (v : Nat), w = wd b ∧ I64 b ∧ isFin b = true ∧ fV b = (v : Int) ∧ vOk v (xs.drop j) = vOk 0 xs
    | _ => False, n, ⟨rfl, rfl, rfl, rfl, rfl, 0, rfl, by omega, rfl, 0, 0, rfl, ⟨by decide, by decide⟩, by decide, by decide, rfl⟩, ?_⟩
  rintro m h1 _ _ _ _ _ _ ⟨rfl, rfl, rfl, rfl, rfl, j, rfl, hj, rfl, b, v, rfl, hb1, hb2, hb3, hv⟩ _
  refine ⟨fun e => ?_, fun e => ?_⟩
  · have hjn : j < xs.length := by have := of_decide_eq_true e; omega
    have hd : xs.drop j = xs[j] :: xs.drop (j + 1) := List.drop_eq_getElem_cons hjn
    rw [hd] at hv
    have hI : I64 xs[j] := I.1 _ (List.getElem_mem hjn)
    refine I.get hn hjn (K17 ⟨_, rfl, ?_⟩)
    have no : vOk v (xs[j] :: xs.drop (j + 1)) = false → R (.returned (.bool false)) h := by
      intro e0
      rw [← hv, e0] at H; exact H
    have go : (cls xs[j] = 1 ∨ cls xs[j] = 2) → F37_j20 B R (fun m vs h' => match vs with
        | [.slice p1 n1 c1, .float _ w, .int _ y, .int _ i] => p = p1 ∧ n = n1 ∧ c = c1 ∧ h = h' ∧ y = (n : Int) ∧ ∃ j : Nat, i = (j : Int) ∧ j ≤ n ∧ m = n - j ∧ ∃ (b : Int) (v : Nat), w = wd b ∧ I64 b ∧ isFin b = true ∧ fV b = (v : Int) ∧ vOk v (xs.drop j) = vOk 0 xs
        | _ => False) (n - j) p n c (wd b) (j : Int) (n : Int) (j : Int) false h := by
      intro hc
      obtain ⟨fx, m0⟩ := cls_pos hc
      obtain ⟨la, lb⟩ := low_and m0 (fM_lt xs[j])
      have g1 := fX_ge xs[j]
      have g2 := fX_lt fx
      refine ⟨fun e => (by cases e), fun _ => I.get hn hjn (K63 fx ⟨_, _, _, _, rfl, ?_⟩)⟩
      rw [la, wd_natP lb]
      refine K93p lb g1 g2 ⟨_, rfl, ?_⟩
      obtain ⟨q1, q2, q3⟩ := pwP_law (e := ((Lib.ctz 64 (fM xs[j]) : Nat) : Int) + fX xs[j]) (by omega) (by omega)
      rw [order_fin hb1 q1 hb2 q2, q3, hb3]
      have hlow : decide ((v : Int) < ((2 ^ (((Lib.ctz 64 (fM xs[j]) : Nat) : Int) + fX xs[j] + 1074).toNat : Nat) : Int)) = decide (v < lowN xs[j]) := by
        unfold lowN
        rw [show Lib.ctz 64 (fM xs[j]) + (fX xs[j] + 1074).toNat = (((Lib.ctz 64 (fM xs[j]) : Nat) : Int) + fX xs[j] + 1074).toNat by omega]
        rw [decide_eq_decide]; exact Int.ofNat_lt
      rw [hlow]
      have hvk : vOk v (xs[j] :: xs.drop (j + 1)) = (decide (v < lowN xs[j]) && vOk (fV xs[j]).natAbs (xs.drop (j + 1))) := by
        have : (decide (cls xs[j] = 1) || decide (cls xs[j] = 2)) = true := by
          rcases hc with hc | hc <;> rw [hc] <;> rfl
        show ((decide (cls xs[j] = 1) || decide (cls xs[j] = 2)) && _) = _
        rw [this, Bool.true_and]
      refine ⟨fun e => no ?_, fun e => ?_⟩
      · rw [hvk]
        have : decide (v < lowN xs[j]) = false := by revert e; cases decide (v < lowN xs[j]) <;> simp
        rw [this]; rfl
      · have hl : decide (v < lowN xs[j]) = true := by revert e; cases decide (v < lowN xs[j]) <;> simp
        rw [hl, Bool.true_and] at hvk
        refine I.get hn hjn (K54 ⟨_, rfl, F94_ok _ (E117 ⟨_, rfl, ?_⟩)⟩)
        rw [andNot_top (wd_lt _), wd_abs hI]
        refine E116 ⟨_, rfl, _, rfl, n - (j + 1), by omega, rfl, rfl, rfl, rfl, rfl, j + 1, ?_, by omega, rfl, absP xs[j], (fV xs[j]).natAbs, rfl, abs_I64 hI, (abs_fV hI).1.trans fx, (abs_fV hI).2, ?_⟩
        · rw [i64_in (by omega) (by omega)]; rfl
        · rw [← hvk]; exact hv
    refine ⟨fun e => ?_, fun e => ?_⟩
    · have h1 : cls xs[j] ≠ 1 := by intro h1; rw [h1] at e; cases e
      by_cases h2 : cls xs[j] = 2
      · rw [show (!decide (cls xs[j] = 2)) = false by rw [h2]; rfl]
        exact go (.inr h2)
      · rw [show (!decide (cls xs[j] = 2)) = true by rw [decide_eq_false h2]; rfl]
        refine ⟨fun _ => no ?_, fun e => (by cases e)⟩
        show ((decide (cls xs[j] = 1) || decide (cls xs[j] = 2)) && _) = _
        rw [decide_eq_false h1, decide_eq_false h2]; rfl
    · have h1 : cls xs[j] = 1 := by
        by_cases h1 : cls xs[j] = 1
        · exact h1
        · rw [decide_eq_false h1] at e; cases e
      exact go (.inl h1)
  · have hjn : j = n := by have := of_decide_eq_false e; omega
    rw [List.drop_of_length_le (by omega)] at hv
    rw [← hv] at H
    exact H
end Go.Proofs
namespace Go.Eng
open Go
/-- The cells from p on hold ws, of kind k. -/
def Sj (k : IntKind) (h : Heap) (p : Option Addr) (ws : List Int) : Prop :=
  ws = [] ∨ ∃ b o cs, p = some ⟨b, o, none⟩ ∧ Own h b cs ∧ ∀ i (hi : i < ws.length), cs[o + i]? = some (.int k ws[i])
theorem Sj.nil {k : IntKind} {h : Heap} {p : Option Addr} : Sj k h p [] := .inl rfl
theorem Sj.fr {k : IntKind} {h h' : Heap} {p : Option Addr} {ws : List Int} {S : Nat → Prop} (H : Sj k h p ws) (f : Fr S h h') (hp : ∀ b o, p = some ⟨b, o, none⟩ → b < h.size → ¬ S b) : Sj k h' p ws := by
  rcases H with H | ⟨b, o, cs, h1, h2, h3⟩
  · exact .inl H
  · exact .inr ⟨b, o, cs, h1, h2.fr f (hp b o h1 h2.lt), h3⟩
theorem Sj.ext {k : IntKind} {h h' : Heap} {p : Option Addr} {ws : List Int} (H : Sj k h p ws) (f : Ext h h') : Sj k h' p ws := H.fr f fun _ _ _ _ => id
/-- An element appended. -/
theorem apJ {k : IntKind} {h : Heap} {p : Option Addr} {n c r e : Nat} {ws : List Int} {x : Int} {S : Nat → Prop} {zero : Array Value} {bytes : Nat} {K : Option Addr → Nat → Nat → Heap → Prop}
    (hs : Sj k h p ws) (hr : Room h p c S) (hn : ws.length = n) (hc : n ≤ c) (hx : Own h r #[.int k x]) (hb : 0 < bytes) (hlim : c < n + 1 → Builtin.nextslicecap (n + 1) c * bytes ≤ 281474976710656) (hlim2 : n + 1 ≤ 281474976710656)
    (hz : zero.size = 1) (hp : c = 0 → p = none ∨ ∃ b o, p = some ⟨b, o, none⟩)
    (hk : ∀ q c' h', Sj k h' q (ws ++ [x]) → Room h' q c' (fun b => S b ∨ h.size ≤ b) → n + 1 ≤ c' → Fr S h h' → K q (n + 1) c' h') :
    apW h p n c (some ⟨r, 0, none⟩) 1 1 bytes e zero K := by
  have hrow : rowAt h (some ⟨r, 0, none⟩) (1 * 1) [.int k x] := by
    refine ⟨rfl, r, 0, rfl, fun i hi => ?_⟩
    have : i = 0 := by simp at hi; exact hi
    subst this
    rw [hx.cell]; rfl
  refine ⟨fun hle => ?_, fun hlt => ⟨hb, hlim2, hlim hlt, ws.map (fun w : Int => Value.int k w), [.int k x], ?_, hrow, fun cap h1 h2 => ?_⟩⟩
  · refine ⟨_, hrow, ?_⟩
    rcases hr with hr | ⟨b, o, cs, e1, e2, e3, e4⟩
    · omega
    subst e1
    have hsz : o + n < cs.size := by omega
    refine ⟨b, o, rfl, fun y hy => ?_, fun i hi => ?_, ?_⟩
    · rw [List.mem_singleton] at hy; subst hy; rfl
    · have : i = 0 := by simp at hi; exact hi
      subst this
      exact ⟨⟨_, by rw [e2.cell, Array.getElem?_eq_getElem (by omega)]⟩, e2.frozen _⟩
    · simp only [setRow, Nat.mul_one]
      have H' := own_set (o := o + n) (v := .int k x) e2
      refine hk _ _ _ (.inr ⟨b, o, _, rfl, H', fun i hi => ?_⟩) (.inr ⟨b, o, _, rfl, H', by simpa using e3, .inl e4⟩) (by omega) (Fr.mono fr_setCell fun y _ hy => hy ▸ e4)
      rw [List.length_append, List.length_singleton] at hi
      by_cases hil : i < ws.length
      · rw [Array.getElem?_setIfInBounds_ne (by omega), List.getElem_append_left hil]
        rcases hs with hs | ⟨b', o', cs', f1, f2, f3⟩
        · subst hs; exact absurd hil (by simp)
        · cases f1; rw [e2.inj f2]; exact f3 i hil
      · have : i = ws.length := by omega
        subst this
        simp only [hn, List.getElem_concat_length]
        rw [Array.getElem?_setIfInBounds_self_of_lt hsz]
  · cases p with
    | none =>
      rcases hs with hs | ⟨b, o, cs, h1, _⟩
      · subst hs; rfl
      · cases h1
    | some a =>
      by_cases hn0 : ws = []
      · subst hn0
        refine ⟨by simp [← hn], ?_⟩
        have : ∃ b o, some a = some (⟨b, o, none⟩ : Addr) := by
          rcases hr with hr | ⟨b, o, cs, e1, _⟩
          · rcases hp hr with h | h
            · cases h
            · exact h
          · exact ⟨b, o, e1⟩
        obtain ⟨b, o, hbo⟩ := this
        exact ⟨b, o, hbo, fun i hi => absurd hi (by simp)⟩
      · rcases hs with hs | ⟨b, o, cs, h1, h2, h3⟩
        · exact absurd hs hn0
        · refine ⟨by simp [hn], b, o, h1, fun i hi => ?_⟩
          rw [List.length_map] at hi
          rw [h2.cell, h3 i hi, List.getElem_map]
  · have H' : Own (h.push (.cells (ws.map (fun w : Int => Value.int k w) ++ [Value.int k x] ++ zerosL zero (cap - (n + 1))).toArray e)) h.size _ := own_new
    refine hk _ _ _ (.inr ⟨_, 0, _, rfl, H', fun i hi => ?_⟩) (.inr ⟨_, 0, _, rfl, H', ?_, .inr (Nat.le_refl _)⟩) h1 (Ext.push.to)
    · simp only [Nat.zero_add, List.getElem?_toArray]
      rw [List.getElem?_append_left (by simp at hi ⊢; omega), ← List.map_singleton (f := fun w : Int => Value.int k w), ← List.map_append, List.getElem?_map, List.getElem?_eq_getElem hi]; rfl
    · simp [zerosL, hn, hz]
      omega
/-- A list of whole numbers that is being made, in blocks that h0 has not. -/
structure Lj (h0 h : Heap) (p : Option Addr) (n c : Nat) (ws : List Int) : Prop where
  sl : Sj .i64 h p ws
  len : ws.length = n
  room : Room h p c (fun b => h0.size ≤ b)
  le : n ≤ c
  pt : Pt p
  fresh : Fresh h0 p
  all : ∀ x ∈ ws, I64 x
theorem Lj.nil {h0 h : Heap} : Lj h0 h none 0 0 [] := ⟨Sj.nil, rfl, .inl rfl, Nat.le_refl _, .inl rfl, Fresh.nil, fun _ hx => by cases hx⟩
theorem Lj.ext {h0 h h' : Heap} {p : Option Addr} {n c : Nat} {ws : List Int} (L : Lj h0 h p n c ws) (f : Ext h h') : Lj h0 h' p n c ws := ⟨L.sl.ext f, L.len, L.room.ext f, L.le, L.pt, L.fresh, L.all⟩
theorem apJ2 {h0 h : Heap} {p : Option Addr} {n c r e : Nat} {x : Int} {ws : List Int} {K : Option Addr → Nat → Nat → Heap → Prop} (L : Lj h0 h p n c ws) (F : Ext h0 h) (hn : n ≤ 1099511627776) (hx : Own h r #[.int .i64 x]) (hI : I64 x)
    (hk : ∀ q c' h', Lj h0 h' q (n + 1) c' (ws ++ [x]) → Ext h0 h' → K q (n + 1) c' h') : apW h p n c (some ⟨r, 0, none⟩) 1 1 8 e #[.int .i64 0] K := by
  have hs := F.size
  refine apJ L.sl L.room L.len L.le hx (by decide) (fun hlt => ?_) (by omega) rfl (fun _ => L.pt) fun q c' h' s r le f => ?_
  · have := nsc_le hlt
    omega
  · have r' : Room h' q c' (fun b => h0.size ≤ b) := r.mono fun b hb => by rcases hb with e | e; exact e; omega
    rcases r' with e | ⟨b, o, cs, e, e2, e3, e4⟩
    · omega
    · refine hk q c' h' ⟨s, by simp [L.len], .inr ⟨b, o, cs, e, e2, e3, e4⟩, le, .inr ⟨b, o, e⟩, fun b' o' e' => ?_, fun y hy => ?_⟩ (Fr.trans F f fun x hx e => by omega)
      · rw [e] at e'; cases e'; exact e4
      · rcases List.mem_append.1 hy with hy | hy
        · exact L.all y hy
        · rw [List.mem_singleton.1 hy]; exact hI
end Go.Eng
namespace Go.Proofs
open Go Go.Eng
variable {B : World} {R : Ending → Heap → Prop} {h : Heap}
theorem _root_.Go.Eng.Lj.ints {h0 : Heap} {p : Option Addr} {n c : Nat} {ws : List Int} (L : Lj h0 h p n c ws) : IntsH h p ws := by
  refine ⟨L.all, ?_⟩
  rcases L.sl with e | ⟨b, o, cs, e, O, g⟩
  · exact .inl e
  · exact .inr ⟨b, o, e, O.lt, fun i hi => by rw [O.cell]; exact g i hi⟩
/-- expansion.finite. -/
theorem K88 {b : Int} (H : R (.returned (.bool (isFin b))) h) : Ent Tryz.prog B 88 #[.int .i64 b] R h := by
  refine F88_ok _ (K17 ⟨_, rfl, ?_⟩)
  rw [cls_fin]; exact H
abbrev INEX : List PanicEntry := [{ v := .iface 147 (.agg #[]), recovered := false }]
/-- expansion.step. -/
theorem K107 {a b : Int} {ok : Bool} (H1 : ok = true → R (.returned (.tuple #[.int .i64 a, .int .i64 b])) h) (H2 : ok = false → R (.panicked INEX) h) : Ent Tryz.prog B 107 #[.int .i64 a, .int .i64 b, .bool ok] R h := by
  refine F107_ok _ _ _ ?_
  cases ok
  · exact ⟨fun _ => H2 rfl, fun e => (by cases e)⟩
  · exact ⟨fun e => (by cases e), fun _ => H1 rfl⟩
def addL (l : List Int) (b : Int) : List Int := if cls b = 0 then l else l ++ [b]
theorem addL_len (l : List Int) (b : Int) : (addL l b).length ≤ l.length + 1 := by unfold addL; split <;> simp
/-- expansion.add. -/
theorem K108 {h0 : Heap} {p : Option Addr} {n c : Nat} {b : Int} {ws : List Int} (L : Lj h0 h p n c ws) (F : Ext h0 h) (hn : n ≤ 1099511627776) (hb : I64 b)
    (H : ∀ q m c' h', Lj h0 h' q m c' (addL ws b) → Ext h0 h' → R (.returned (.slice q m c')) h') : Ent Tryz.prog B 108 #[.slice p n c, .int .i64 b] R h := by
  refine F108_ok _ _ _ _ (K17 ⟨_, rfl, ?_⟩)
  unfold addL at H
  refine ⟨fun e => ?_, fun e => ?_⟩
  · rw [if_pos (of_decide_eq_true e)] at H
    exact H p n c h L F
  · rw [if_neg (of_decide_eq_false e)] at H
    refine alK fun r8 h9 e9 f9 o9 z9 => apJ2 (L.ext f9) (Ext.trans F f9) hn o9 hb fun q c' h' L' F' => H q (n + 1) c' h' L' F'
/-- expansion.told, of what is not too long. -/
theorem K89 {p : Option Addr} {n c : Nat} (H1 : n ≤ 4096 → R (.returned (.tuple #[.slice p n c, .int .i64 (0 : Int)])) h) (H2 : 4096 < n → R (.returned (.tuple #[.slice none 0 0, .int .i64 (2 : Int)])) h) : Ent Tryz.prog B 89 #[.slice p n c] R h := by
  refine F89_ok _ _ _ ⟨fun e => H2 (by have := of_decide_eq_true e; omega), fun e => H1 (by have := of_decide_eq_false e; omega)⟩
/-- What grow makes; none: a step was not exact. -/
def growP (out : List Int) (q : Int) : List Int → Option (List Int)
  | [] => some (addL out q)
  | x :: r => if sumOk (sumH q x) (sumL q x) q x then growP (addL out (sumL q x)) (sumH q x) r else none
theorem mk_room {h0 h : Heap} {r k : Nat} {v : Value} (O : Own h r (mkCells #[v] k)) (hr : h0.size ≤ r) : Lj h0 h (some ⟨r, 0, none⟩) 0 k [] :=
  ⟨Sj.nil, rfl, .inr ⟨r, 0, _, rfl, O, by simp [mkCells], hr⟩, Nat.zero_le _, .inr ⟨r, 0, rfl⟩, fun b o e => by cases e; exact hr, fun _ hx => by cases hx⟩
/-- expansion.grow. -/
theorem K90 {p : Option Addr} {n c : Nat} {b : Int} {xs : List Int} (ht : TabH h) (I : IntsH h p xs) (hn : xs.length = n) (hlim : n ≤ 1000000) (hb : I64 b)
    (H1 : ∀ l, growP [] b xs = some l → ∀ q m c' h', Ext h h' → Lj h h' q m c' l → R (.returned (.slice q m c')) h') (H2 : growP [] b xs = none → ∀ h', Ext h h' → R (.panicked INEX) h') :
    Ent Tryz.prog B 90 #[.slice p n c, .int .i64 b] R h := by
  have w1 : IntKind.i64.wrap (((n : Nat) : Int) + (1 : Int)) = ((n + 1 : Nat) : Int) := by rw [i64_in (by omega) (by omega)]; omega
  refine F90_ok _ _ _ _ ?_
  unfold F90
  rw [w1, Int.toNat_natCast, Nat.mul_one]
  refine ⟨by decide, by omega, by omega, by omega, alK fun r3 h4 e4 f4 o4 z4 => ?_⟩
  refine ⟨fun m vs h' => match vs with
    | [.slice q m1 c1, .int _ z, .slice p1 n1 c2, .int _ y, .int _ i] => p = p1 ∧ n = n1 ∧ c = c2 ∧ y = (n : Int) ∧ ∃ j : Nat, i = (j : Int) ∧ j ≤ n ∧ m = n - j ∧ Ext h h' ∧ I64 z ∧ ∃ out, Lj h h' q m1 c1 out ∧ m1 ≤ j ∧ growP out z (xs.drop j) = growP [] b xs
    | _ => False, n, ⟨rfl, rfl, rfl, rfl, 0, rfl, by omega, by omega, f4, hb, [], mk_room o4 (by omega), by decide, rfl⟩, ?_⟩
  rintro m h1 q m1 c1 z _ _ _ _ _ ⟨rfl, rfl, rfl, rfl, j, rfl, hj, rfl, F, hz, out, L, hm1, hg⟩ _
  refine ⟨fun e => ?_, fun e => ?_⟩
  · have hjn : j < xs.length := by have := of_decide_eq_true e; omega
    have hd : xs.drop j = xs[j] :: xs.drop (j + 1) := List.drop_eq_getElem_cons hjn
    rw [hd] at hg
    have hI : I64 xs[j] := I.1 _ (List.getElem_mem hjn)
    refine (I.ext F).get hn hjn (K18 (ht.ext F) hz hI fun h2 f2 => ⟨_, _, _, rfl, K107 (fun ok => ⟨_, _, rfl, ?_⟩) fun ok => ?_⟩)
    · have hg' : growP (addL out (sumL z xs[j])) (sumH z xs[j]) (xs.drop (j + 1)) = growP [] b xs := by
        rw [← hg]
        show _ = (if sumOk (sumH z xs[j]) (sumL z xs[j]) z xs[j] then growP (addL out (sumL z xs[j])) (sumH z xs[j]) (xs.drop (j + 1)) else none)
        rw [ok]; rfl
      refine K108 (L.ext f2) (Ext.trans F f2) (by omega) (addP_I64 _ _) fun q' m' c' h' L' F' => ⟨_, _, _, rfl, n - (j + 1), by omega, rfl, rfl, rfl, rfl, j + 1, ?_, by omega, rfl, F', addP_I64 _ _, _, L', ?_, hg'⟩
      · rw [i64_in (by omega) (by omega)]; rfl
      · have := addL_len out (sumL z xs[j])
        have := L'.len
        have := L.len
        omega
    · refine H2 ?_ h2 (Ext.trans F f2)
      rw [← hg]
      show (if sumOk (sumH z xs[j]) (sumL z xs[j]) z xs[j] then growP (addL out (sumL z xs[j])) (sumH z xs[j]) (xs.drop (j + 1)) else none) = none
      rw [ok]; rfl
  · have hjn : j = n := by have := of_decide_eq_false e; omega
    rw [List.drop_of_length_le (by omega)] at hg
    exact K108 L F (by omega) hz fun q' m' c' h' L' F' => ⟨_, _, _, rfl, H1 _ (by rw [← hg]; rfl) q' m' c' h' F' L'⟩
end Go.Proofs
namespace Go.Proofs
open Go Go.Eng
variable {B : World} {R : Ending → Heap → Prop} {h : Heap}
/-- expansion.caught behind what returns. -/
theorem K86r {p q : Option Addr} {K : FrameMode → Heap → Prop} (H : K .returning h) : FnD Tryz.prog B 86 #[.pointer p, .pointer q] .returning (dfE K) h := by
  intro n
  refine callsD_of_wpS Tryz.func86 rfl fun c₀ cs hu => ?_
  have hr : recoverD (c₀ :: cs) = none := by simp [recoverD, hu]
  apply wpS_seq
  apply wpS_region
  simp [wpOpsS, go_sem, hr, Exit.thenS, Tryz.f86]
  apply wpS_seq
  apply wpS_seq
  apply wpS_region
  simp [wpOpsS, go_sem, Exit.thenS, nil_nil]
  refine wpS_cond (t := true) (by simp [Act.eval, Array.replicate]) ?_
  simp only [if_true]
  refine wpS_of_wp (wp_ret ?_)
  refine ⟨rfl, .returning, ?_, .tuple #[], ?_, h, ⟨n, rfl⟩, H⟩
  rotate_left
  · simp [results, go_sem]
  cases c₀
  simp_all
theorem ix_nil (w : World) : (binOp .eql 20 (.iface 147 (.agg #[])) Value.nilIface).run Tryz.prog w = .ok (.bool false) w :=
  pureRun_run (P := Tryz.prog) _ (by kernel_rfl) w
theorem ix_as (w : World) : Sem.run Tryz.prog (Instr.typeAssert (Value.iface 147 (Value.agg #[])) 20 147 true) w = .ok (.tuple #[.agg #[], .bool true]) w :=
  pureRun_run (P := Tryz.prog) _ (by kernel_rfl) w
/-- expansion.caught behind a step that was not exact. -/
theorem K86p {r s : Nat} {l0 : Value} {e0 : Value} {K : FrameMode → Heap → Prop} (O : Own h r #[l0]) (O2 : Own h s #[e0]) (hrs : s ≠ r) (H : ∀ h', Fr (fun x => x = r ∨ x = s) h h' → Own h' r #[.slice none 0 0] → Own h' s #[.int .i64 14] → K .returning h') :
    FnD Tryz.prog B 86 #[.pointer (some ⟨r, 0, none⟩), .pointer (some ⟨s, 0, none⟩)] (.panicking [{ v := .iface 147 (.agg #[]), recovered := false }]) (dfE K) h := by
  intro n
  refine callsD_of_wpS Tryz.func86 rfl fun c₀ cs hu => ?_
  have hr : recoverD (c₀ :: cs) = some (.iface 147 (.agg #[]), { c₀ with mode := .panicking [{ v := .iface 147 (.agg #[]), recovered := true }] } :: cs) := by simp [recoverD, hu]
  apply wpS_seq
  apply wpS_region
  simp [wpOpsS, go_sem, hr, Exit.thenS, Tryz.f86]
  generalize hQ : bodyPostS Tryz.prog _ c₀ cs _ = Q
  apply wpS_seq
  apply wpS_seq
  apply wpS_region
  simp [wpOpsS, go_sem, Exit.thenS, ix_nil]
  refine wpS_cond (t := false) (by simp [Act.eval, Array.replicate]) ?_
  simp only [Bool.false_eq_true, if_false]
  refine wpS_of_wp (wp_skip ?_)
  simp only [Exit.thenS]
  apply wpS_seq
  apply wpS_seq
  apply wpS_region
  simp [wpOpsS, go_sem, Exit.thenS, ix_as]
  apply wpS_seq
  apply wpS_region
  simp [wpOpsS, go_sem, Exit.thenS]
  refine wpS_cond (t := false) (by simp [Act.eval, Array.replicate]) ?_
  simp only [Bool.false_eq_true, if_false]
  refine wpS_of_wp (wp_skip ?_)
  simp only [Exit.thenS]
  apply wpS_region
  have O1 := own_push (o := Obj.cells #[] 147) O
  have O3 := own_push (o := Obj.cells #[] 147) O2
  have hc1 : ((mk B h n).alloc (Obj.cells #[] 147)).cell? ⟨r, 0, none⟩ = some l0 := O1.cell 0
  have hf1 : ((mk B h n).alloc (Obj.cells #[] 147)).frozen? ⟨r, 0, none⟩ = false := O1.frozen 0
  have O4 := own_set_ne (b' := r) (o := 0) (v := .slice none 0 0) O3 hrs
  have hc2 : (((mk B h n).alloc (Obj.cells #[] 147)).setCell ⟨r, 0, none⟩ (.slice none 0 0)).cell? ⟨s, 0, none⟩ = some e0 := O4.cell 0
  have hf2 : (((mk B h n).alloc (Obj.cells #[] 147)).setCell ⟨r, 0, none⟩ (.slice none 0 0)).frozen? ⟨s, 0, none⟩ = false := O4.frozen 0
  simp [wpOpsS, go_sem, hc1, hf1, hc2, hf2]
  rw [← hQ]
  refine ⟨rfl, .panicking [{ v := .iface 147 (.agg #[]), recovered := true }], rfl, .tuple #[], ?_, ?_⟩
  · simp [results, go_sem]
  · refine ⟨setCell (setCell (h.push (Obj.cells #[] 147)) ⟨r, 0, none⟩ (.slice none 0 0)) ⟨s, 0, none⟩ (.int .i64 14), ⟨n, rfl⟩, ?_⟩
    refine H _ (Fr.trans (Ext.push (o := Obj.cells #[] 147)).to (Fr.trans (S := fun x => x = r ∨ x = s) (Fr.mono fr_setCell fun x _ e => .inl e) fr_setCell fun x _ e => .inr e) fun x _ e => e) ?_ ?_
    · exact own_set_ne (own_set O1) (fun e => hrs e.symm)
    · exact own_set O4
end Go.Proofs
namespace Go.Proofs
open Go Go.Eng
variable {B : World} {R : Ending → Heap → Prop} {h : Heap}
/-- The cells of a list of slices. -/
def slV (ss : List (Option Addr × Nat × Nat × List Int)) : List Value := ss.map fun s => .slice s.1 s.2.1 s.2.2.1
/-- expansion.valid. -/
theorem K87 {r k c : Nat} {ss : List (Option Addr × Nat × Nat × List Int)} (O : Own h r (slV ss).toArray) (hk : ss.length = k) (hl : k ≤ 1000) (I : ∀ s ∈ ss, IntsH h s.1 s.2.2.2 ∧ s.2.2.2.length = s.2.1)
    (H : R (.returned (.int .i64 (if (ss.all fun s => validP s.2.2.2) then 0 else 1))) h) : Ent Tryz.prog B 87 #[.slice (some ⟨r, 0, none⟩) k c] R h := by
  refine F87_ok _ _ _ ⟨fun m vs h' => match vs with
    | [.slice p1 n1 c1, .int _ y, .int _ i] => p1 = some (⟨r, 0, none⟩ : Addr) ∧ k = n1 ∧ c = c1 ∧ y = (k : Int) ∧ h = h' ∧ ∃ j : Nat, i = (j : Int) ∧ j ≤ k ∧ m = k - j ∧ ((ss.take j).all fun s => validP s.2.2.2) = true
    | _ => False, k, ⟨rfl, rfl, rfl, rfl, rfl, 0, rfl, by omega, by omega, rfl⟩, ?_⟩
  rintro m h1 _ _ _ _ _ ⟨rfl, rfl, rfl, rfl, rfl, j, rfl, hj, rfl, ha⟩ _
  refine ⟨fun e => ?_, fun e => ?_⟩
  · have hjn : j < ss.length := by have := of_decide_eq_true e; omega
    refine ⟨r, 0, rfl, by omega, by omega, r, _, rfl, ss[j].1, ss[j].2.1, ss[j].2.2.1, ?_, ?_⟩
    · show cell? _ _ = _
      rw [Int.toNat_natCast, Nat.zero_add, Nat.mul_one, O.cell]
      unfold slV
      rw [List.getElem?_toArray, List.getElem?_map, List.getElem?_eq_getElem hjn]; rfl
    obtain ⟨i1, i2⟩ := I _ (List.getElem_mem hjn)
    refine K37 i1 i2 ⟨_, rfl, fun e => ?_, fun e => ?_⟩
    · have hv : validP ss[j].2.2.2 = false := by revert e; cases validP ss[j].2.2.2 <;> simp
      have : (ss.all fun s => validP s.2.2.2) = false := by
        rw [List.all_eq_false]
        exact ⟨_, List.getElem_mem hjn, by rw [hv]; decide⟩
      rw [this] at H; exact H
    · have hv : validP ss[j].2.2.2 = true := by revert e; cases validP ss[j].2.2.2 <;> simp
      refine ⟨k - (j + 1), by omega, rfl, rfl, rfl, rfl, rfl, j + 1, ?_, by omega, rfl, ?_⟩
      · rw [i64_in (by omega) (by omega)]; rfl
      · rw [List.take_succ_eq_append_getElem hjn, List.all_append, ha, List.all_cons, List.all_nil, hv]; rfl
  · have hjn : j = k := by have := of_decide_eq_false e; omega
    rw [hjn, List.take_of_length_le (by omega)] at ha
    rw [ha] at H; exact H
theorem Ent86 : Enters Tryz.prog 86 := enters_of Tryz.func86 (by kernel_rfl) (by kernel_rfl)
/-- What a call of expansion ends with, where nothing is given up. -/
theorem expEnd {r3 r5 n c : Nat} {l0 e0 : Value} {p : Option Addr} {e : Int} (O3 : Own h r3 #[l0]) (O5 : Own h r5 #[e0]) (hne : r5 ≠ r3)
    (H : ∀ h', Fr (fun x => x = r3 ∨ x = r5) h h' → R (.returned (.tuple #[.slice p n c, .int .i64 e])) h') :
    isP (some ⟨r3, 0, none⟩) fun b25 o26 => stC h b25 o26 (.slice p n c) fun h27 =>
    isP (some ⟨r5, 0, none⟩) fun b28 o29 => stC h27 b28 o29 (.int .i64 e) fun h30 =>
    Enters Tryz.prog 86 ∧ FnD Tryz.prog B 86 #[.pointer (some ⟨r3, 0, none⟩), .pointer (some ⟨r5, 0, none⟩)] .returning (dfE fun u31 h32 => lvW (fun h33 => isP (some ⟨r3, 0, none⟩) fun b36 o37 => ∃ x38 x38n x38c, cell? h33 ⟨b36, o37, none⟩ = some (.slice x38 x38n x38c) ∧
    isP (some ⟨r5, 0, none⟩) fun b39 o40 => ∃ x41, cell? h33 ⟨b39, o40, none⟩ = some (.int .i64 x41) ∧
    R (.returned (.tuple #[.slice x38 x38n x38c, .int .i64 x41])) h33) (fun ch35 h34 => R (.panicked ch35) h34) u31 h32) h30 := by
  refine ⟨r3, 0, rfl, O3.stC (by simp) rfl fun a1 g1 => ⟨r5, 0, rfl, (O5.fr g1 hne).stC (by simp) rfl fun a2 g2 => ⟨Ent86, K86r ?_⟩⟩⟩
  have A3 := a1.fr g2 (fun e => hne e.symm)
  exact ⟨r3, 0, rfl, _, _, _, A3.cell _, r5, 0, rfl, _, a2.cell _, H _ (Fr.trans (Fr.mono g1 fun x _ e => .inl e) g2 fun x _ e => .inr e)⟩
/-- Where a step was not exact. -/
theorem expDie {r3 r5 : Nat} {l0 e0 : Value} (O3 : Own h r3 #[l0]) (O5 : Own h r5 #[e0]) (hne : r5 ≠ r3)
    (H : ∀ h', Fr (fun x => x = r3 ∨ x = r5) h h' → R (.returned (.tuple #[.slice none 0 0, .int .i64 (14 : Int)])) h') :
    Enters Tryz.prog 86 ∧ FnD Tryz.prog B 86 #[.pointer (some ⟨r3, 0, none⟩), .pointer (some ⟨r5, 0, none⟩)] (.panicking INEX) (dfE fun u97 h98 => lvW (fun h99 => isP (some ⟨r3, 0, none⟩) fun b102 o103 => ∃ x104 x104n x104c, cell? h99 ⟨b102, o103, none⟩ = some (.slice x104 x104n x104c) ∧
    isP (some ⟨r5, 0, none⟩) fun b105 o106 => ∃ x107, cell? h99 ⟨b105, o106, none⟩ = some (.int .i64 x107) ∧
    R (.returned (.tuple #[.slice x104 x104n x104c, .int .i64 x107])) h99) (fun ch101 h100 => R (.panicked ch101) h100) u97 h98) h :=
  ⟨Ent86, K86p O3 O5 hne fun h' f A3 A5 => ⟨r3, 0, rfl, _, _, _, A3.cell _, r5, 0, rfl, _, A5.cell _, H h' f⟩⟩
/-- What Grow answers. -/
def growAns (xs : List Int) (b : Int) : List Int × Int :=
  if validP xs then if isFin b then match growP [] b xs with
    | some l => if l.length ≤ 4096 then (l, 0) else ([], 2)
    | none => ([], 14)
  else ([], 10) else ([], 1)
theorem _root_.Go.Eng.Lj.fr2 {h0 h h' : Heap} {p : Option Addr} {n c r s : Nat} {ws : List Int} (L : Lj h0 h p n c ws) (f : Fr (fun x => x = r ∨ x = s) h h') (hr : r < h0.size) (hs : s < h0.size) : Lj h0 h' p n c ws :=
  ⟨L.sl.fr f fun b o e _ k => by have := L.fresh b o e; omega, L.len, L.room.fr f fun b k1 k2 => by omega, L.le, L.pt, L.fresh, L.all⟩
theorem _root_.Go.Eng.Lj.base {h0 h1 h : Heap} {p : Option Addr} {n c : Nat} {ws : List Int} (L : Lj h1 h p n c ws) (hs : h0.size ≤ h1.size) : Lj h0 h p n c ws :=
  ⟨L.sl, L.len, L.room.mono fun b k => by omega, L.le, L.pt, L.fresh.mono hs, L.all⟩
theorem validP_len {xs : List Int} (h : validP xs = true) : xs.length ≤ 4096 := by
  unfold validP at h
  exact of_decide_eq_true (Bool.and_eq_true_iff.1 h).1
/-- expansion.Grow. -/
theorem K34 {p : Option Addr} {n c : Nat} {b : Int} {xs : List Int} (ht : TabH h) (I : IntsH h p xs) (hn : xs.length = n) (hb : I64 b)
    (H : ∀ q m c' h', Ext h h' → Lj h h' q m c' (growAns xs b).1 → R (.returned (.tuple #[.slice q m c', .int .i64 (growAns xs b).2])) h') : Ent Tryz.prog B 34 #[.slice p n c, .int .i64 b] R h := by
  refine F34_ok _ _ _ _ (alK fun r3 h4 e4 f4 o4 z4 => alK fun r5 h6 e6 f6 o6 z6 => alK fun r7 h8 e8 f8 o8 z8 => ?_)
  have F8 := Ext.trans f4 (Ext.trans f6 f8)
  have O3 := (o4.ext f6).ext f8
  have O5 := o6.ext f8
  have hne : r5 ≠ r3 := by omega
  refine K87 (ss := [(p, n, c, xs)]) o8 rfl (by decide) (fun s hs => ?_) ⟨_, rfl, ?_⟩
  · rw [List.mem_singleton.1 hs]; exact ⟨I.ext F8, hn⟩
  have hall : (([(p, n, c, xs)] : List (Option Addr × Nat × Nat × List Int)).all fun s => validP s.2.2.2) = validP xs := by simp
  rw [hall]
  unfold growAns at H
  cases hv : validP xs
  · rw [hv] at H
    exact ⟨fun _ => expEnd O3 O5 hne fun h' f => H none 0 0 h' (Fr.trans F8 f fun x hx e => by omega) Lj.nil, fun e => absurd e (by decide)⟩
  rw [hv] at H
  refine ⟨fun e => absurd e (by decide), fun _ => K88 ⟨_, rfl, ?_⟩⟩
  cases hf : isFin b
  · rw [hf] at H
    exact ⟨fun _ => expEnd O3 O5 hne fun h' f => H none 0 0 h' (Fr.trans F8 f fun x hx e => by omega) Lj.nil, fun e => (by cases e)⟩
  rw [hf] at H
  refine ⟨fun e => (by cases e), fun _ => K90 (ht.ext F8) (I.ext F8) hn (by have := validP_len hv; omega) hb (fun l hl q m c' h' F' L => ⟨_, _, _, rfl, ?_⟩) fun hl h' F' => ?_⟩
  · rw [hl] at H
    have hm := L.len
    refine K89 (fun hle => ⟨_, _, _, _, rfl, expEnd (O3.ext F') (O5.ext F') hne fun h2 f2 => ?_⟩) fun hgt => ⟨_, _, _, _, rfl, expEnd (O3.ext F') (O5.ext F') hne fun h2 f2 => ?_⟩
    · have hif : (if l.length ≤ 4096 then (l, (0 : Int)) else ([], 2)) = (l, 0) := if_pos (by omega)
      simp only [if_true, hif] at H
      exact H q m c' h2 (Fr.trans (Ext.trans F8 F') f2 fun x hx e => by omega) ((L.fr2 f2 (by omega) (by omega)).base F8.size)
    · have hif : (if l.length ≤ 4096 then (l, (0 : Int)) else ([], 2)) = ([], 2) := if_neg (by omega)
      simp only [if_true, hif] at H
      exact H none 0 0 h2 (Fr.trans (Ext.trans F8 F') f2 fun x hx e => by omega) Lj.nil
  · rw [hl] at H
    exact expDie (O3.ext F') (O5.ext F') hne fun h2 f2 => H none 0 0 h2 (Fr.trans (Ext.trans F8 F') f2 fun x hx e => by omega) Lj.nil
end Go.Proofs
