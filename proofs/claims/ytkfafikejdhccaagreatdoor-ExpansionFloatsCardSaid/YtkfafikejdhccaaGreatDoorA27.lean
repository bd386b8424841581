import Derived.Test.YtkfafikejdhccaaGreatDoorA23
import Derived.Test.YtkfafikejdhccaaGreatDoorA25
import Derived.Test.YtkfafikejdhccaaGreatDoorA26
/- Here stand lemmas: order, sizes and halves of floats. -/
set_option linter.unusedVariables false
namespace Go.Proofs
open Go Go.Eng
variable {B : World} {R : Ending → Heap → Prop} {h : Heap}
theorem order_fin {a b : Int} (ha : I64 a) (hb : I64 b) (fa : isFin a = true) (fb : isFin b = true) : (FloatKind.f64.format.order (wd a) (wd b) == some .lt) = decide (fV a < fV b) := by
  have ea : Ieee.double.read (wd a) = .number (decide (a < 0)) (fM a) (fX a) := by
    rw [read_wd ha, if_pos]; unfold isFin at fa; exact of_decide_eq_true fa
  have eb : Ieee.double.read (wd b) = .number (decide (b < 0)) (fM b) (fX b) := by
    rw [read_wd hb, if_pos]; unfold isFin at fb; exact of_decide_eq_true fb
  have e0 : FloatKind.f64.format.order (wd a) (wd b) = (Ieee.double.read (wd a)).order (Ieee.double.read (wd b)) := rfl
  have ho : ∀ s m i t n j, Ieee.Datum.order (.number s m i) (.number t n j) = some (compare (Ieee.signed s m (i - min i j).toNat) (Ieee.signed t n (j - min i j).toNat)) := fun _ _ _ _ _ _ => rfl
  rw [e0, ea, eb, ho]
  have ga := fX_ge a
  have gb := fX_ge b
  rw [fV_at, fV_at]
  obtain ⟨b0, h0, h1, h2, h3⟩ : ∃ z, min (fX a) (fX b) = z ∧ z ≤ fX a ∧ z ≤ fX b ∧ -1074 ≤ z := ⟨_, rfl, by omega, by omega, by omega⟩
  rw [h0, show (fX a - (-1074)).toNat = (fX a - b0).toNat + (b0 + 1074).toNat by omega, show (fX b - (-1074)).toNat = (fX b - b0).toNat + (b0 + 1074).toNat by omega, signed_add, signed_add]
  generalize Ieee.signed (decide (a < 0)) (fM a) (fX a - b0).toNat = x
  generalize Ieee.signed (decide (b < 0)) (fM b) (fX b - b0).toNat = y
  generalize (b0 + 1074).toNat = kk
  have hk : (0 : Int) < ((2 ^ kk : Nat) : Int) := Int.natCast_pos.2 (Nat.pow_pos (by decide))
  generalize ((2 ^ kk : Nat) : Int) = k at hk
  have e : (x * k < y * k) ↔ (x < y) := Int.mul_lt_mul_right hk
  rw [show decide (x * k < y * k) = decide (x < y) by rw [decide_eq_decide]; exact e]
  show (some (compareOfLessAndEq x y) == some Ordering.lt) = _
  unfold compareOfLessAndEq
  by_cases hlt : x < y
  · rw [if_pos hlt, decide_eq_true hlt]; rfl
  · rw [if_neg hlt, decide_eq_false hlt]
    split <;> rfl
/-- bits.Less, of finite floats. -/
theorem K32 {a b : Int} (ha : I64 a) (hb : I64 b) (fa : isFin a = true) (fb : isFin b = true) (H : R (.returned (.bool (decide (fV a < fV b)))) h) : Ent Tryz.prog B 32 #[.int .i64 a, .int .i64 b] R h := by
  refine F32_ok _ _ (K54 ⟨_, rfl, K54 ⟨_, rfl, ?_⟩⟩)
  rw [order_fin ha hb fa fb]; exact H
theorem bitsI_abs {b : Int} (hb : I64 b) : bitsI .andNot .i64 b (-9223372036854775808 : Int) = if b < 0 then b + 9223372036854775808 else b := by
  unfold I64 at hb
  have h1 : bitsI .andNot .i64 b (-9223372036854775808 : Int) = IntKind.i64.wrap (((BitVec.ofInt 64 b &&& ~~~ BitVec.ofInt 64 (-9223372036854775808 : Int)).toNat : Nat) : Int) := rfl
  rw [h1, BitVec.toNat_and, BitVec.toNat_ofInt]
  have e1 : (~~~ BitVec.ofInt 64 (-9223372036854775808 : Int)).toNat = 9223372036854775807 := by decide
  have e2 : (b % ((2 ^ 64 : Nat) : Int)).toNat = (b % 18446744073709551616).toNat := rfl
  rw [e1, e2, show (b % 18446744073709551616).toNat &&& 9223372036854775807 = (b % 18446744073709551616).toNat % 2 ^ 63 from Nat.and_two_pow_sub_one_eq_mod _ 63]
  rw [i64_nat (by omega)]
  split <;> omega
def absP (b : Int) : Int := if b < 0 then b + 9223372036854775808 else b
/-- bits.Abs, of what is finite. -/
theorem K33 {b : Int} (hb : I64 b) (fb : isFin b = true) (H : R (.returned (.int .i64 (absP b))) h) : Ent Tryz.prog B 33 #[.int .i64 b] R h := by
  refine F33_ok _ (K17 ⟨_, rfl, ?_⟩)
  have := (show isNaN b = false by unfold isFin at fb; have := of_decide_eq_true fb; unfold isNaN; rw [decide_eq_false (by omega)]; rfl)
  rw [cls_nan, this, bitsI_abs hb]
  exact ⟨fun e => (by cases e), fun _ => H⟩
end Go.Proofs
namespace Go.Proofs
open Go Go.Eng
variable {B : World} {R : Ending → Heap → Prop} {h : Heap}
abbrev ONE : Nat := 4607182418800017408
abbrev P996 : Nat := 9092767647661031424
theorem one_one : FloatKind.f64.nearest 1 = ONE := by decide +kernel
theorem ord1 : (FloatKind.f64.format.order ONE 0 == some .eq) = false := by decide +kernel
theorem ord2 : (FloatKind.f64.format.order ONE ONE != some .eq) = false := by decide +kernel
theorem ord3 : (FloatKind.f64.format.order ONE 4503599627370496 == some .lt) = false := by decide +kernel
theorem ord4 : (FloatKind.f64.format.order P996 0 == some .eq) = false := by decide +kernel
theorem mul1 : FloatKind.f64.format.mul ONE P996 = some P996 := by decide +kernel
theorem inf1 : isInf (sg ONE) = false := by decide +kernel
theorem inf2 : isInf (sg P996) = false := by decide +kernel
theorem abs1 : bitsI .andNot .u64 ((ONE : Nat) : Int) (9223372036854775808 : Int) = ((ONE : Nat) : Int) := by decide +kernel
theorem exp1 : (IntKind.i64.wrap ((IntKind.i64.wrap ((996 : Int) + (0 : Int))) + (IntKind.i64.wrap ((bitsI .and .i64 (IntKind.i64.wrap (Int.fdiv ((ONE : Nat) : Int) (2 ^ min (Int.toNat (52 : Int)) IntKind.u64.bits))) (2047 : Int)) - (1023 : Int))))) = 996 := by decide +kernel
theorem wrd1 : (bitsI .or .u64 (bitsI .andNot .u64 ((ONE : Nat) : Int) (9218868437227405312 : Int)) (IntKind.u64.wrap ((IntKind.u64.wrap (IntKind.i64.wrap ((996 : Int) + (1023 : Int)))) * 2 ^ min (Int.toNat (52 : Int)) IntKind.u64.bits))) = ((P996 : Nat) : Int) := by decide +kernel
/-- math.Ldexp at 1, 996. -/
theorem K93c (H : R (.returned (.float .f64 P996)) h) : Ent Tryz.prog B 93 #[.float .f64 ONE, .int .i64 (996 : Int)] R h := by
  refine F93_ok _ _ ⟨fun e => (by cases e), fun _ => F152_ok _ _ ?_⟩
  unfold F152
  rw [ord1]
  refine ⟨fun e => (by cases e), fun _ => K118 (by decide) ⟨_, rfl, ?_⟩⟩
  rw [inf1]
  refine ⟨fun e => (by cases e), fun _ => F183_ok _ ⟨_, rfl, ?_⟩⟩
  rw [ord2]
  refine ⟨fun e => (by cases e), fun _ => F184_ok _ (F94_ok _ (E117 ⟨_, rfl, ?_⟩))⟩
  rw [abs1]
  refine E116 ⟨_, rfl, _, rfl, ?_⟩
  rw [ord3]
  refine ⟨fun e => (by cases e), fun _ => ⟨_, _, rfl, E117 ⟨_, rfl, by decide, ?_⟩⟩⟩
  rw [exp1]
  refine ⟨fun e => absurd e (by decide), fun _ => ⟨fun e => absurd e (by decide), fun _ => ⟨fun e => absurd e (by decide), fun _ => ⟨by decide, ?_⟩⟩⟩⟩
  rw [wrd1]
  refine E116 ⟨_, rfl, ?_⟩
  rw [mul1]
  refine ⟨fun z hz => ?_, fun e => by cases e⟩
  cases hz
  exact ⟨_, rfl, H⟩
theorem and_one (n : Nat) (hn : n < 9223372036854775808) : bitsI .and .i64 (n : Int) (1 : Int) = ((n % 2 : Nat) : Int) := by
  have := and_i64 (x := (n : Int)) (m := 1) (by decide)
  rw [show ((1 : Nat) : Int) = 1 from rfl] at this
  rw [this, show ((n : Int) % 18446744073709551616).toNat = n by omega, Nat.and_one_is_mod]
/-- bits.reduced, of a power of 2. -/
theorem K181 {k : Nat} {e : Int} (hk : k ≤ 52) (he : -9000 ≤ e) (he2 : e ≤ 9000) (H : R (.returned (.tuple #[.int .i64 (1 : Int), .int .i64 (e + (k : Int))])) h) : Ent Tryz.prog B 181 #[.int .i64 ((2 ^ k : Nat) : Int), .int .i64 e] R h := by
  refine F181_ok _ _ ⟨fun m vs h' => match vs with
    | [.int _ z, .int _ y] => h = h' ∧ ∃ i : Nat, i ≤ k ∧ z = ((2 ^ (k - i) : Nat) : Int) ∧ y = e + (i : Int) ∧ m = k - i
    | _ => False, k, ⟨rfl, 0, by omega, rfl, by omega, by omega⟩, ?_⟩
  rintro m h1 _ _ ⟨rfl, i, hi, rfl, rfl, rfl⟩ _
  have hlt : 2 ^ (k - i) < 9223372036854775808 := by
    have : 2 ^ (k - i) ≤ 2 ^ 52 := Nat.pow_le_pow_right (by decide) (by omega)
    have e52 : (2 : Nat) ^ 52 = 4503599627370496 := by decide
    omega
  rw [and_one _ hlt]
  by_cases hc : i = k
  · subst hc
    rw [Nat.sub_self]
    exact ⟨fun e => absurd e (by decide), fun _ => H⟩
  · obtain ⟨d, hd⟩ : ∃ d, k - i = d + 1 := ⟨k - i - 1, by omega⟩
    rw [hd] at hlt ⊢
    have h2 : 2 ^ (d + 1) % 2 = 0 := by rw [Nat.pow_succ, Nat.mul_mod_left]
    rw [h2]
    refine ⟨fun _ => ⟨by decide, d, by omega, rfl, i + 1, by omega, ?_, ?_, by omega⟩, fun e => absurd e (by decide)⟩
    · have e1 : min (Int.toNat (1 : Int)) IntKind.i64.bits = 1 := by decide
      rw [e1, Int.fdiv_eq_ediv_of_nonneg _ (by decide), show k - (i + 1) = d by omega, Nat.pow_succ]
      omega
    · rw [i64_in (by omega) (by omega)]; omega
theorem p_fields : isFin (P996 : Nat) = true ∧ fM (P996 : Nat) = 2 ^ 52 ∧ fX (P996 : Nat) = 944 ∧ decide (((P996 : Nat) : Int) < 0) = false := by decide +kernel
theorem p_wi : WI P996 ((P996 : Nat) : Int) := ⟨by decide, by decide +kernel⟩
theorem clamp_c : (if (3000 : Int) < (if (-3000 : Int) > 996 then (-3000 : Int) else 996) then (3000 : Int) else (if (-3000 : Int) > 996 then (-3000 : Int) else 996)) = 996 := by decide
/-- bits.Join at 1, 996. -/
theorem K73c (H : R (.returned (.tuple #[.int .i64 ((P996 : Nat) : Int), .bool true])) h) : Ent Tryz.prog B 73 #[.bool false, .int .i64 (1 : Int), .int .i64 (996 : Int)] R h := by
  obtain ⟨p1, p2, p3, p4⟩ := p_fields
  refine F73_ok _ _ _ ⟨fun e => absurd e (by decide), fun _ => F135_ok _ ⟨_, rfl, ?_⟩⟩
  rw [clamp_c, one_one]
  refine K93c ⟨_, rfl, F136_ok _ _ _ (K118 (by decide) ⟨_, rfl, ?_⟩)⟩
  rw [inf2]
  refine ⟨fun e => (by cases e), fun _ => ?_⟩
  rw [ord4]
  refine ⟨fun e => absurd e (by decide), fun _ => ⟨fun e => absurd e (by decide), fun _ => F135_ok _ ⟨_, rfl, ?_⟩⟩⟩
  rw [clamp_c]
  refine K181 (k := 0) (e := 996) (by decide) (by decide) (by decide) ⟨_, _, rfl, K56 p_wi ⟨_, rfl, K63 p1 ⟨_, _, _, _, rfl, ?_⟩⟩⟩
  rw [p2, p3]
  refine K181 (k := 52) (e := 944) (by decide) (by decide) (by decide) ⟨_, _, rfl, ?_⟩
  exact ⟨fun _ => ⟨_, rfl, fun e => absurd e (by decide), fun _ => ⟨fun e => (by cases e), fun _ => K56 p_wi ⟨_, rfl, H⟩⟩⟩, fun e => absurd e (by decide)⟩
theorem abs_I64 {b : Int} (hb : I64 b) : I64 (absP b) := by unfold I64 at *; unfold absP; split <;> omega
theorem abs_fields (b : Int) : fE (absP b) = fE b ∧ fT (absP b) = fT b := by
  unfold absP fE fT
  split
  · constructor <;> omega
  · exact ⟨rfl, rfl⟩
theorem abs_fV {b : Int} (hb : I64 b) : isFin (absP b) = isFin b ∧ fV (absP b) = ((fV b).natAbs : Int) := by
  obtain ⟨e1, e2⟩ := abs_fields b
  refine ⟨by unfold isFin; rw [e1], ?_⟩
  have hn : decide (absP b < 0) = false := by
    unfold I64 at hb
    apply decide_eq_false; unfold absP; split <;> omega
  have hm : fM (absP b) = fM b := by unfold fM; rw [e1, e2]
  have hx : fX (absP b) = fX b := by unfold fX; rw [e1]
  unfold fV
  rw [signed_abs, hn, hm, hx, signed_nat]; rfl
/-- plumblaw6.size at 996. -/
theorem K26c {a : Int} (ha : I64 a) (H : R (.returned (.bool (isFin a && decide (((fV a).natAbs : Int) < fV ((P996 : Nat) : Int))))) h) : Ent Tryz.prog B 26 #[.int .i64 a, .int .i64 (996 : Int)] R h := by
  obtain ⟨p1, p2, p3, p4⟩ := p_fields
  refine F26_ok _ _ (K73c ⟨_, _, rfl, fun _ => K17 ⟨_, rfl, ?_⟩, fun e => (by cases e)⟩)
  rw [cls_fin]
  cases fa : isFin a
  · rw [fa] at H; exact ⟨fun e => (by cases e), fun _ => H⟩
  · rw [fa] at H
    obtain ⟨q1, q2⟩ := abs_fV ha
    rw [← q2] at H
    exact ⟨fun _ => K33 ha fa ⟨_, rfl, K32 (abs_I64 ha) (by unfold I64 P996; omega) (q1.trans fa) p1 ⟨_, rfl, H⟩⟩, fun e => (by cases e)⟩
theorem size_lt {a : Int} (h : ((fV a).natAbs : Int) < fV ((P996 : Nat) : Int)) : ∃ K, K ≤ 2045 ∧ (fV a).natAbs < 2 ^ (25 + K) := by
  obtain ⟨p1, p2, p3, p4⟩ := p_fields
  refine ⟨52 + (fX ((P996 : Nat) : Int) + 1074).toNat - 25, by rw [p3]; decide, ?_⟩
  have : fV ((P996 : Nat) : Int) = ((2 ^ (52 + (fX ((P996 : Nat) : Int) + 1074).toNat) : Nat) : Int) := by
    unfold fV
    rw [signed_nat, p4, p2, Nat.pow_add]; rfl
  rw [this] at h
  rw [show 25 + (52 + (fX ((P996 : Nat) : Int) + 1074).toNat - 25) = 52 + (fX ((P996 : Nat) : Int) + 1074).toNat by omega]
  exact Int.ofNat_lt.1 h
end Go.Proofs
namespace Go.Proofs
open Go Go.Eng
variable {B : World} {R : Ending → Heap → Prop} {h : Heap}
theorem odd_short {M y q z : Nat} (hM : M % 2 = 1) (h : M * 2 ^ y = q * 2 ^ z) : M ≤ q := by
  rcases Nat.lt_or_ge y z with hc | hc
  · exfalso
    obtain ⟨d, rfl⟩ : ∃ d, z = y + (d + 1) := ⟨z - y - 1, by omega⟩
    rw [Nat.pow_add, Nat.mul_comm (2 ^ y), ← Nat.mul_assoc] at h
    have := Nat.eq_of_mul_eq_mul_right (Nat.pow_pos (by decide)) h
    rw [this, Nat.pow_succ, ← Nat.mul_assoc, Nat.mul_mod_left] at hM
    cases hM
  · obtain ⟨d, rfl⟩ : ∃ d, y = z + d := ⟨y - z, by omega⟩
    rw [Nat.pow_add, Nat.mul_comm (2 ^ z), ← Nat.mul_assoc] at h
    have := Nat.eq_of_mul_eq_mul_right (Nat.pow_pos (by decide)) h
    rw [← this]
    exact Nat.le_mul_of_pos_right _ (Nat.pow_pos (by decide))
/-- A number whose odd part is small has at most one digit. -/
theorem NumS.short {K : Nat} {neg : Bool} {p : Option Addr} {n : Nat} {e v : Int} (N : NumS K h neg p n e v) {s q z : Nat} (hv : v.natAbs * 2 ^ s = q * 2 ^ z) (hq : q ≤ 67108864) :
    n = 0 ∨ n = 1 ∧ ∃ b o, p = some ⟨b, o, none⟩ ∧ ∃ m : Nat, m < 67108864 ∧ cell? h ⟨b, o, none⟩ = some (.int .i64 (m : Int)) := by
  obtain ⟨M, NI, he, rfl⟩ := N
  have hB : B30 = 1073741824 := rfl
  have hlen := NI.d.len
  by_cases h0 : M = 0
  · subst h0
    rw [digs_zero] at hlen
    exact .inl hlen.symm
  have hpos : 0 < n := by rw [← hlen, digs_ne (by decide) h0]; simp
  have hodd := (NI.pos hpos).1
  rw [digs_val (by decide)] at hodd
  rw [signed_abs, Nat.mul_assoc, ← Nat.pow_add] at hv
  have hM := odd_short hodd hv
  have hM2 : M < 67108864 := by omega
  have hd : digs B30 M = [M] := by
    rw [digs_ne (by decide) h0, hB, Nat.mod_eq_of_lt (by omega), Nat.div_eq_of_lt (by omega), digs_zero]
  refine .inr ⟨by rw [← hlen, hd]; rfl, ?_⟩
  have hs := NI.d.sl
  rw [hd] at hs
  rcases hs with hs | ⟨b, o, cs, h1, h2, h3⟩
  · cases hs
  · exact ⟨b, o, h1, M, hM2, by rw [h2.cell]; have := h3 0 (by simp); rw [Nat.add_zero] at this; exact this⟩
theorem halves_end {a x y : Int} {r31 r46 n1 c1 n2 c2 : Nat} {neg1 neg2 : Bool} {p1 p2 : Option Addr} {e1 e2 : Int} (ht : TabH h) (fa : isFin a = true) (O1 : Own h r31 #[.bool neg1, .slice p1 n1 c1, .int .i64 e1]) (O2 : Own h r46 #[.bool neg2, .slice p2 n2 c2, .int .i64 e2])
    (N1 : NumS 1074 h neg1 p1 n1 e1 x) (N2 : NumS 1074 h neg2 p2 n2 e2 y) (b1 : bl x.natAbs ≤ 2100) (b2 : bl y.natAbs ≤ 2100) (hxy : x + y = fV a) (H : ∀ h', Ext h h' → R (.returned (.bool true)) h') :
    F7_j53 B R a (some ⟨r31, 0, none⟩) (some ⟨r46, 0, none⟩) false h := by
  refine ⟨fun e => (by cases e), fun _ => ⟨r31, 0, rfl, _, O1.cell _, _, _, _, O1.cell _, _, O1.cell _, r46, 0, rfl, _, O2.cell _, _, _, _, O2.cell _, _, O2.cell _, ?_⟩⟩
  refine K22 ht N1 N2 (by decide) (by omega) (by omega) fun n3 p3 l3 c3 e3 h70 f70 _ N3 => ⟨_, _, _, _, _, _, rfl, alK fun r77 h78 e78 f78 o78 z78 => ⟨r77, 0, rfl, ?_⟩⟩
  refine o78.stL (by simp) rfl fun _ a1 g1 => a1.stL (by simp) rfl fun _ a2 g2 => a2.stL (by simp) rfl fun h83 a3 g3 => ?_
  have k83 := Fr.trans (S := fun x => x = r77) (Fr.trans (S := fun x => x = r77) g1 g2 fun _ _ e => e) g3 fun _ _ e => e
  have A83 : Own h83 r77 #[.bool n3, .slice p3 l3 c3, .int .i64 e3] := a3
  have F83 : Ext h70 h83 := Fr.trans f78 k83 fun x hx e => by omega
  have FA := Ext.trans f70 F83
  refine K21 (ht.ext FA) fa fun n4 p4 l4 c4 e4 h85 f85 _ N4 => ⟨_, _, _, _, _, _, rfl, alK fun r92 h93 e93 f93 o93 z93 => ⟨r92, 0, rfl, ?_⟩⟩
  refine o93.stL (by simp) rfl fun _ q1 g1 => q1.stL (by simp) rfl fun _ q2 g2 => q2.stL (by simp) rfl fun h98 q3 g3 => ?_
  have k98 := Fr.trans (S := fun x => x = r92) (Fr.trans (S := fun x => x = r92) g1 g2 fun _ _ e => e) g3 fun _ _ e => e
  have A98 : Own h98 r92 #[.bool n4, .slice p4 l4 c4, .int .i64 e4] := q3
  have F98 : Ext h85 h98 := Fr.trans f93 k98 fun x hx e => by omega
  have O77 := (A83.ext f85).ext F98
  have FB := Ext.trans FA (Ext.trans f85 F98)
  refine ⟨r77, 0, rfl, _, O77.cell _, _, _, _, O77.cell _, _, O77.cell _, r92, 0, rfl, _, A98.cell _, _, _, _, A98.cell _, _, A98.cell _, ?_⟩
  refine K28 (((N3.ext F83).ext f85).ext F98) (N4.ext F98) (by decide) (by have := bl_add b1 b2; omega) (by have := fV_bl fa; omega) fun h110 f110 => ⟨_, _, rfl, ?_⟩
  have : decide ((x + y - fV a).sign = 0) = true := by rw [hxy, Int.sub_self]; decide
  rw [this]
  exact H h110 (Ext.trans FB f110)
/-- plumblaw6.EftHalves. -/
theorem K7 {a : Int} (ht : TabH h) (ha : I64 a) (H : ∀ h', Ext h h' → R (.returned (.bool true)) h') : Ent Tryz.prog B 7 #[.int .i64 a] R h := by
  refine F7_ok _ (K15 ht fun h3 f3 => ⟨_, rfl, fun e => (by cases e), fun _ => K26c ha ⟨_, rfl, ?_⟩⟩)
  cases hsz : (isFin a && decide (((fV a).natAbs : Int) < fV ((P996 : Nat) : Int)))
  · exact ⟨fun _ => K15 (ht.ext f3) fun h4 f4 => ⟨_, rfl, H h4 (Ext.trans f3 f4)⟩, fun e => (by cases e)⟩
  obtain ⟨fa, hlt⟩ := Bool.and_eq_true_iff.1 hsz
  obtain ⟨K, hK, hb⟩ := size_lt (of_decide_eq_true hlt)
  obtain ⟨fh, fl, hsum, q, l, s, z1, z2, hq, hl, s1, s2⟩ := split_law fa hK hb
  have ok : splOk a = true := by
    unfold splOk justP
    rw [fa, fh, fl, Nat.sub_self, Nat.pow_zero, hsum]
    simp
  refine ⟨fun e => (by cases e), fun _ => ?_⟩
  refine K27 (ht.ext f3) ha fun h17 f17 => ⟨_, _, _, rfl, ?_⟩
  rw [ok]
  have F17 := Ext.trans f3 f17
  refine K21 (ht.ext F17) fh fun n1 p1 l1 c1 e1 h24 f24 _ N1 => ⟨_, _, _, _, _, _, rfl, alK fun r31 h32 e32 f32 o32 z32 => ⟨r31, 0, rfl, ?_⟩⟩
  refine o32.stL (by simp) rfl fun _ a1 g1 => a1.stL (by simp) rfl fun _ a2 g2 => a2.stL (by simp) rfl fun h37 a3 g3 => ?_
  have k37 := Fr.trans (S := fun x => x = r31) (Fr.trans (S := fun x => x = r31) g1 g2 fun _ _ e => e) g3 fun _ _ e => e
  have A37 : Own h37 r31 #[.bool n1, .slice p1 l1 c1, .int .i64 e1] := a3
  have F37 : Ext h24 h37 := Fr.trans f32 k37 fun x hx e => by omega
  have FA := Ext.trans F17 (Ext.trans f24 F37)
  refine K21 (ht.ext FA) fl fun n2 p2 l2 c2 e2 h39 f39 _ N2 => ⟨_, _, _, _, _, _, rfl, alK fun r46 h47 e47 f47 o47 z47 => ⟨r46, 0, rfl, ?_⟩⟩
  refine o47.stL (by simp) rfl fun _ b1 g1 => b1.stL (by simp) rfl fun _ b2 g2 => b2.stL (by simp) rfl fun h52 b3 g3 => ?_
  have k52 := Fr.trans (S := fun x => x = r46) (Fr.trans (S := fun x => x = r46) g1 g2 fun _ _ e => e) g3 fun _ _ e => e
  have A52 : Own h52 r46 #[.bool n2, .slice p2 l2 c2, .int .i64 e2] := b3
  have F52 : Ext h39 h52 := Fr.trans f47 k52 fun x hx e => by omega
  have FB := Ext.trans FA (Ext.trans f39 F52)
  have O31 := (A37.ext f39).ext F52
  have M1 := ((N1.ext F37).ext f39).ext F52
  have M2 := N2.ext F52
  have hend := halves_end (B := B) (R := R) (ht.ext FB) fa O31 A52 M1 M2 (fV_bl fh) (fV_bl fl) hsum fun h' f => H h' (Ext.trans FB f)
  have w0 : IntKind.i64.wrap ((0 : Int) + (0 : Int)) = 0 := by decide
  refine ⟨fun e => (by cases e), fun _ => ?_⟩
  rw [w0]
  refine ⟨fun e => absurd e (by decide), fun _ => ⟨r31, 0, rfl, r31, _, rfl, _, _, _, O31.cell _, ?_⟩⟩
  have sh1 := M1.short s1 hq
  have sh2 := M2.short s2 hl
  have big : ∀ m : Nat, m < 67108864 → decide ((67108864 : Int) ≤ (m : Int)) = false := fun m hm => decide_eq_false (by omega)
  have tail2 : isP (some ⟨r46, 0, none⟩) fun b595 o596 =>
      isP (some ⟨b595, o596 + 1, none⟩) fun b597 o598 => ∃ x599 x599n x599c, cell? h52 ⟨b597, o598, none⟩ = some (.slice x599 x599n x599c) ∧
      ((decide (((x599n : Nat) : Int) = (1 : Int))) = true →
       isP (some ⟨r46, 0, none⟩) fun b600 o601 =>
      isP (some ⟨b600, o601 + 1, none⟩) fun b602 o603 => ∃ x604 x604n x604c, cell? h52 ⟨b602, o603, none⟩ = some (.slice x604 x604n x604c) ∧
      ixW x604 x604n (0 : Int) 1 fun b605 o606 =>
      isP (some ⟨b605, o606, none⟩) fun b607 o608 => ∃ x609, cell? h52 ⟨b607, o608, none⟩ = some (.int .i64 x609) ∧
      F7_j53 B R a (some ⟨r31, 0, none⟩) (some ⟨r46, 0, none⟩) (decide ((67108864 : Int) ≤ x609)) h52) ∧
      ((decide (((x599n : Nat) : Int) = (1 : Int))) = false →
       F7_j53 B R a (some ⟨r31, 0, none⟩) (some ⟨r46, 0, none⟩) false h52) := by
    refine ⟨r46, 0, rfl, r46, _, rfl, _, _, _, A52.cell _, fun e => ?_, fun _ => hend⟩
    have hn := of_decide_eq_true e
    rcases sh2 with h0 | ⟨_, b, o, rfl, m, hm, hc⟩
    · omega
    · refine ⟨r46, 0, rfl, r46, _, rfl, _, _, _, A52.cell _, b, o, rfl, by omega, by omega, b, _, rfl, (m : Int), ?_, ?_⟩
      · show cell? h52 ⟨b, o + (0 : Int).toNat * 1, none⟩ = _
        exact hc
      · rw [big m hm]; exact hend
  refine ⟨fun e => ?_, fun _ => ⟨r46, 0, rfl, r46, _, rfl, _, _, _, A52.cell _, ?_⟩⟩
  · have := of_decide_eq_true e
    rcases sh1 with h0 | ⟨h0, _⟩ <;> omega
  refine ⟨fun e => ?_, fun _ => ⟨r31, 0, rfl, r31, _, rfl, _, _, _, O31.cell _, ?_⟩⟩
  · have := of_decide_eq_true e
    rcases sh2 with h0 | ⟨h0, _⟩ <;> omega
  refine ⟨fun e => ?_, fun _ => ⟨fun e => (by cases e), fun _ => tail2⟩⟩
  have hn := of_decide_eq_true e
  rcases sh1 with h0 | ⟨_, b, o, rfl, m, hm, hc⟩
  · omega
  · refine ⟨r31, 0, rfl, r31, _, rfl, _, _, _, O31.cell _, b, o, rfl, by omega, by omega, b, _, rfl, (m : Int), ?_, ?_⟩
    · show cell? h52 ⟨b, o + (0 : Int).toNat * 1, none⟩ = _
      exact hc
    · rw [big m hm]
      exact ⟨fun e => (by cases e), fun _ => tail2⟩
end Go.Proofs
