import Derived.Test.YtedmhkimbbkdgaaGreatFmtA28
/- Here stand lemmas: powers of 2. -/
set_option linter.unusedVariables false
namespace Go.Proofs
open Go Go.Eng
variable {B : World} {R : Ending → Heap → Prop} {h : Heap}
abbrev pw2 (k : Nat) : Nat := (k + 1023) * 4503599627370496
theorem sub_tab : ∀ d, d < 52 → FloatKind.f64.format.mul 4368491638549381120 ((d + 2) * 4503599627370496) = some (2 ^ d) := by decide +kernel
theorem t1 : ∀ k, k < 53 → (FloatKind.f64.format.order (pw2 k) 0 == some .eq) = false := by decide +kernel
theorem t2 : ∀ k, k < 53 → (FloatKind.f64.format.order (pw2 k) (pw2 k) != some .eq) = false := by decide +kernel
theorem t3 : ∀ k, k < 53 → (FloatKind.f64.format.order (pw2 k) 4503599627370496 == some .lt) = false := by decide +kernel
theorem t4 : ∀ k, k < 53 → isInf (sg (pw2 k)) = false := by decide +kernel
theorem t5 : ∀ k, k < 53 → bitsI .andNot .u64 ((pw2 k : Nat) : Int) (9223372036854775808 : Int) = ((pw2 k : Nat) : Int) := by decide +kernel
theorem t6 : ∀ k, k < 53 → IntKind.i64.wrap ((bitsI .and .i64 (IntKind.i64.wrap (Int.fdiv ((pw2 k : Nat) : Int) (2 ^ min (Int.toNat (52 : Int)) IntKind.u64.bits))) (2047 : Int)) - (1023 : Int)) = (k : Int) := by decide +kernel
theorem t7 {y : Int} (h1 : 0 ≤ y) (h2 : y < 2047) : bitsI .or .u64 (0 : Int) (IntKind.u64.wrap ((IntKind.u64.wrap y) * 2 ^ min (Int.toNat (52 : Int)) IntKind.u64.bits)) = ((y.toNat * 4503599627370496 : Nat) : Int) := by
  obtain ⟨n, rfl⟩ : ∃ n : Nat, y = (n : Int) := ⟨y.toNat, by omega⟩
  have e1 : IntKind.u64.wrap (n : Int) = (n : Int) := by rw [wrap_u64_nat]; omega
  have e2 := shl_pow (x := n) (s := 52) (by decide)
  rw [show ((52 : Nat) : Int) = 52 from rfl, show (2 : Nat) ^ 52 = 4503599627370496 by decide] at e2
  rw [e1, e2, Int.toNat_natCast]
  have := bitsI_or (a := 0) (b := n * 4503599627370496 % 18446744073709551616) (by decide) (by omega)
  rw [show ((0 : Nat) : Int) = 0 from rfl, Nat.zero_or] at this
  rw [this]
  omega
/-- math.Ldexp, of a power of 2. -/
theorem K93q {k : Nat} {x : Int} (hk : k < 53) (h1 : -1074 ≤ x) (h2 : x + (k : Int) ≤ 1023) (H : R (.returned (.float .f64 (wd (pwP ((k : Int) + x))))) h) : Ent Tryz.prog B 27 #[.float .f64 (pw2 k), .int .i64 x] R h := by
  refine F93_ok _ _ ⟨fun e => (by cases e), fun _ => F152_ok _ _ ?_⟩
  unfold F152
  rw [t1 k hk]
  have hw : pw2 k < 18446744073709551616 := by unfold pw2; omega
  refine ⟨fun e => (by cases e), fun _ => K118 hw ⟨_, rfl, ?_⟩⟩
  rw [t4 k hk]
  refine ⟨fun e => (by cases e), fun _ => F183_ok _ ⟨_, rfl, ?_⟩⟩
  rw [t2 k hk]
  refine ⟨fun e => (by cases e), fun _ => F184_ok _ (F94_ok _ (E117 ⟨_, rfl, ?_⟩))⟩
  rw [t5 k hk]
  refine E116 ⟨_, rfl, _, rfl, ?_⟩
  rw [t3 k hk]
  refine ⟨fun e => (by cases e), fun _ => ⟨_, _, rfl, E117 ⟨_, rfl, by decide, ?_⟩⟩⟩
  rw [t6 k hk, i64_in (x := x + 0) (by omega) (by omega), i64_in (x := x + 0 + (k : Int)) (by omega) (by omega)]
  generalize hE : x + 0 + (k : Int) = E
  have hE1 : -1074 ≤ E := by omega
  have hE2 : E ≤ 1023 := by omega
  rw [show (k : Int) + x = E by omega] at H
  refine ⟨fun e => absurd (of_decide_eq_true e) (by omega), fun _ => ⟨fun e => absurd (of_decide_eq_true e) (by omega), fun _ => ⟨fun e => ?_, fun e => ?_⟩⟩⟩
  · have hlt := of_decide_eq_true e
    refine ⟨by decide, ?_⟩
    rw [frac_tab k hk, i64_in (x := E + 53) (by omega) (by omega), i64_in (x := E + 53 + 1023) (by omega) (by omega), t7 (by omega) (by omega)]
    refine E116 ⟨_, rfl, ?_⟩
    obtain ⟨d, hd⟩ : ∃ d : Nat, E + 1074 = (d : Int) := ⟨(E + 1074).toNat, by omega⟩
    rw [show (E + 53 + 1023).toNat = d + 2 by omega, sub_tab d (by omega)]
    refine ⟨fun z hz => ?_, fun e => by cases e⟩
    cases hz
    have e2 : wd (pwP E) = 2 ^ d := by
      have : 2 ^ d ≤ 2 ^ 52 := Nat.pow_le_pow_right (by decide) (by omega)
      have e52 : (2 : Nat) ^ 52 = 4503599627370496 := by decide
      unfold pwP wd
      rw [if_neg (by omega), show (E + 1074).toNat = d by omega]
      rw [e52] at this
      generalize 2 ^ d = q at *
      omega
    rw [e2] at H
    exact ⟨_, rfl, H⟩
  · have hlt := of_decide_eq_false e
    refine ⟨by decide, ?_⟩
    rw [frac_tab k hk, i64_in (x := E + 1023) (by omega) (by omega), t7 (by omega) (by omega)]
    refine E116 ⟨_, rfl, ?_⟩
    obtain ⟨d, hd⟩ : ∃ d : Nat, E + 1022 = (d : Int) := ⟨(E + 1022).toNat, by omega⟩
    rw [show (E + 1023).toNat = d + 1 by omega, mul_tab d (by omega)]
    refine ⟨fun z hz => ?_, fun e => by cases e⟩
    cases hz
    have e2 : wd (pwP E) = (d + 1) * 4503599627370496 := by
      unfold pwP wd
      rw [if_pos (by omega), show E + 1023 = ((d + 1 : Nat) : Int) by omega]
      omega
    rw [e2] at H
    exact ⟨_, rfl, H⟩
theorem K93p {k : Nat} {x : Int} (hk : k < 53) (h1 : -1074 ≤ x) (h2 : x ≤ 971) (H : R (.returned (.float .f64 (wd (pwP ((k : Int) + x))))) h) : Ent Tryz.prog B 27 #[.float .f64 (pw2 k), .int .i64 x] R h := K93q hk h1 (by omega) H
end Go.Proofs
namespace Go.Proofs
open Go Go.Eng
variable {B : World} {R : Ending → Heap → Prop} {h : Heap}
theorem pwP_law {e : Int} (h1 : -1074 ≤ e) (h2 : e ≤ 1023) : I64 (pwP e) ∧ isFin (pwP e) = true ∧ fV (pwP e) = ((2 ^ (e + 1074).toNat : Nat) : Int) := by
  have e52 : (2 : Nat) ^ 52 = 4503599627370496 := by decide
  unfold pwP
  by_cases hc : -1022 ≤ e
  · rw [if_pos hc]
    obtain ⟨j, hj⟩ : ∃ j : Nat, e + 1022 = (j : Int) := ⟨(e + 1022).toNat, by omega⟩
    have hr : (e + 1023) * 4503599627370496 = pat false (j * 4503599627370496 + 4503599627370496) := by
      show _ = ((j * 4503599627370496 + 4503599627370496 : Nat) : Int)
      omega
    obtain ⟨a1, a2⟩ := fV_pat false (j := j) (k := 4503599627370496) (by omega) (by omega) (by omega)
    rw [hr]
    refine ⟨pat_I64 (by omega), a1, ?_⟩
    rw [a2, signed_nat, ← e52, ← Nat.pow_add, show 52 + j = (e + 1074).toNat by omega]; rfl
  · rw [if_neg hc]
    obtain ⟨d, hd⟩ : ∃ d : Nat, (e + 1074).toNat = d ∧ d < 52 := ⟨_, rfl, by omega⟩
    rw [hd.1]
    have hlt : 2 ^ d < 4503599627370496 := by rw [← e52]; exact Nat.pow_lt_pow_right (by decide) hd.2
    obtain ⟨a1, a2⟩ := fV_pat false (j := 0) (k := 2 ^ d) (by omega) (by omega) (by omega)
    rw [Nat.zero_mul, Nat.zero_add] at a1 a2
    refine ⟨by unfold I64; generalize 2 ^ d = q at *; omega, a1, ?_⟩
    have : fV ((2 ^ d : Nat) : Int) = Ieee.signed false (2 ^ d) 0 := a2
    rw [this, signed_nat, Nat.pow_zero, Nat.mul_one]; rfl
/-- A slice of whole numbers that only is read. -/
def IntsH (h : Heap) (p : Option Addr) (xs : List Int) : Prop :=
  (∀ x ∈ xs, I64 x) ∧ (xs = [] ∨ ∃ r q, p = some ⟨r, q, none⟩ ∧ r < h.size ∧ ∀ i (hi : i < xs.length), cell? h ⟨r, q + i, none⟩ = some (.int .i64 xs[i]))
theorem IntsH.ext {h h' : Heap} {p : Option Addr} {xs : List Int} (H : IntsH h p xs) (f : Ext h h') : IntsH h' p xs := by
  refine ⟨H.1, ?_⟩
  rcases H.2 with e | ⟨r, q, e, hr, g⟩
  · exact .inl e
  · exact .inr ⟨r, q, e, Nat.lt_of_lt_of_le hr f.size, fun i hi => (cell_ext f hr).trans (g i hi)⟩
theorem IntsH.get {p : Option Addr} {xs : List Int} {n : Nat} (H : IntsH h p xs) (hn : xs.length = n) {j : Nat} (hj : j < xs.length) {K : Int → Prop} (k : K xs[j]) :
    ixW p n (j : Int) 1 fun b o => isP (some ⟨b, o, none⟩) fun b o => ∃ x, cell? h ⟨b, o, none⟩ = some (.int .i64 x) ∧ K x := by
  rcases H.2 with e | ⟨r, q, e, hr, g⟩
  · subst e; cases hj
  · refine ⟨r, q, e, by omega, by omega, r, _, rfl, xs[j], ?_, k⟩
    rw [Int.toNat_natCast, Nat.mul_one]; exact g j hj
/-- The worth of the lowest bit that is set, in units of 2^-1074. -/
def lowN (b : Int) : Nat := 2 ^ (Lib.ctz 64 (fM b) + (fX b + 1074).toNat)
/-- An expansion, behind what is below it. -/
def vOk (below : Nat) : List Int → Bool
  | [] => true
  | b :: r => (decide (cls b = 1) || decide (cls b = 2)) && (decide (below < lowN b) && vOk (fV b).natAbs r)
def validP (xs : List Int) : Bool := decide (xs.length ≤ 4096) && vOk 0 xs
theorem cls_pos {b : Int} (h : cls b = 1 ∨ cls b = 2) : isFin b = true ∧ fM b ≠ 0 := by
  have := fE_lt b
  refine ⟨by rw [← cls_fin]; exact decide_eq_true (by omega), ?_⟩
  unfold cls at h
  unfold fM
  by_cases h0 : fE b = 0
  · rw [if_pos h0]
    intro hT
    rw [h0, hT] at h
    simp at h
  · rw [if_neg h0]; omega
theorem low_and {m : Nat} (h0 : m ≠ 0) (hm : m < 9007199254740992) : bitsI .and .i64 (m : Int) (IntKind.i64.wrap (0 - (m : Int))) = ((2 ^ Lib.ctz 64 m : Nat) : Int) ∧ Lib.ctz 64 m < 53 := by
  have e64 : (2 : Nat) ^ 64 = 18446744073709551616 := by decide
  obtain ⟨l1, l2⟩ := Lib.lowest_bit 64 m h0 (by rw [e64]; omega)
  have hle : 2 ^ Lib.ctz 64 m ≤ m := by rw [← l1]; exact Nat.and_le_left
  have hc : Lib.ctz 64 m < 53 := by
    apply Nat.lt_of_not_le
    intro h
    have : 2 ^ 53 ≤ 2 ^ Lib.ctz 64 m := Nat.pow_le_pow_right (by decide) h
    have e53 : (2 : Nat) ^ 53 = 9007199254740992 := by decide
    omega
  refine ⟨?_, hc⟩
  rw [i64_in (by omega) (by omega)]
  have h1 : bitsI .and .i64 (m : Int) (0 - (m : Int)) = IntKind.i64.wrap (((BitVec.ofInt 64 (m : Int) &&& BitVec.ofInt 64 (0 - (m : Int))).toNat : Nat) : Int) := rfl
  rw [h1, BitVec.toNat_and, BitVec.toNat_ofInt, BitVec.toNat_ofInt]
  have e1 : ((m : Int) % ((2 ^ 64 : Nat) : Int)).toNat = m := by rw [e64]; omega
  have e2 : ((0 - (m : Int)) % ((2 ^ 64 : Nat) : Int)).toNat = 2 ^ 64 - m := by rw [e64]; omega
  rw [e1, e2, l1, i64_nat (by omega)]
end Go.Proofs
