import Derived.Test.YtpnfpefcjeafbaaGreatFmtA36
import Derived.Test.YtpnfpefcjeafbaaGreatFmtA45
/- Here stand lemmas and contracts, in the order in which they are used. -/
set_option linter.unusedVariables false
set_option linter.unusedVariables false
/-! big.Float.Float32. -/
namespace Go.Eng
open Go
theorem wrap_u32_nat (x : Nat) : IntKind.u32.wrap (x : Int) = ((x % 4294967296 : Nat) : Int) := by
  have h : IntKind.u32.wrap (x : Int) = (x : Int) % 4294967296 := rfl
  rw [h]; omega
theorem fdiv32 {x s : Nat} (hs : s ≤ 32) : Int.fdiv (x : Int) (2 ^ min (Int.toNat (s : Int)) IntKind.u32.bits) = ((x / 2 ^ s : Nat) : Int) := by
  have : min (Int.toNat (s : Int)) IntKind.u32.bits = s := by
    rw [Int.toNat_natCast]; exact Nat.min_eq_left (by have : IntKind.u32.bits = 32 := rfl; omega)
  rw [this]
  have e : ((2 : Int) ^ s) = ((2 ^ s : Nat) : Int) := by rw [Int.natCast_pow]; rfl
  rw [e, Int.fdiv_eq_ediv_of_nonneg _ (Int.natCast_nonneg _)]; rfl
theorem shl32 {x s : Nat} (hs : s ≤ 32) : IntKind.u32.wrap ((x : Int) * 2 ^ min (Int.toNat (s : Int)) IntKind.u32.bits) = ((x * 2 ^ s % 4294967296 : Nat) : Int) := by
  have : min (Int.toNat (s : Int)) IntKind.u32.bits = s := by
    rw [Int.toNat_natCast]; exact Nat.min_eq_left (by have : IntKind.u32.bits = 32 := rfl; omega)
  rw [this]
  have e : ((x : Int) * (2 : Int) ^ s) = ((x * 2 ^ s : Nat) : Int) := by rw [Int.natCast_mul, Int.natCast_pow]; rfl
  rw [e, wrap_u32_nat]
theorem bitsI_or32 {a b : Nat} (ha : a < 4294967296) (hb : b < 4294967296) : bitsI .or .u32 (a : Int) (b : Int) = ((a ||| b : Nat) : Int) := by
  unfold bitsI
  simp only [ofInt_nat]
  rw [wrap_u32_nat]
  show (((BitVec.ofNat 32 a ||| BitVec.ofNat 32 b).toNat % 4294967296 : Nat) : Int) = _
  rw [BitVec.toNat_or, BitVec.toNat_ofNat, BitVec.toNat_ofNat]
  rw [Nat.mod_eq_of_lt (by omega : a < 2 ^ 32), Nat.mod_eq_of_lt (by omega : b < 2 ^ 32)]
  have : a ||| b < 2 ^ 32 := Nat.or_lt_two_pow (by omega) (by omega)
  rw [Nat.mod_eq_of_lt (by omega)]
theorem bitsI_and32 {a : Nat} (ha : a < 4294967296) : bitsI .and .u32 (a : Int) (8388607 : Int) = ((a % 8388608 : Nat) : Int) := by
  have h0 : bitsI .and .u32 (a : Int) (8388607 : Int) = bitsI .and .u32 (a : Int) ((8388607 : Nat) : Int) := rfl
  rw [h0]
  unfold bitsI
  simp only [ofInt_nat]
  rw [wrap_u32_nat]
  show (((BitVec.ofNat 32 a &&& BitVec.ofNat 32 8388607).toNat % 4294967296 : Nat) : Int) = _
  rw [BitVec.toNat_and, BitVec.toNat_ofNat, BitVec.toNat_ofNat]
  rw [Nat.mod_eq_of_lt (by omega : a < 2 ^ 32), Nat.mod_eq_of_lt (by decide : 8388607 < 2 ^ 32)]
  have h4 := Nat.and_two_pow_sub_one_eq_mod a 23
  rw [show (2 : Nat) ^ 23 - 1 = 8388607 by decide, show (2 : Nat) ^ 23 = 8388608 by decide] at h4
  rw [h4, Nat.mod_eq_of_lt (by omega)]
theorem or_sign32 (ng : Bool) {m : Nat} (hm : m < 2147483648) : bitsI .or .u32 (if ng then (2147483648 : Int) else 0) (m : Int) = (W32 ng m : Int) := by
  unfold W32
  cases ng
  · have h := bitsI_or32 (a := 0) (b := m) (by omega) (by omega)
    rw [Nat.zero_or] at h
    exact h
  · have h := bitsI_or32 (a := 2147483648) (b := m) (by omega) (by omega)
    have h2 := or_add (a := 1) (b := m) (s := 31) (by rw [show (2 : Nat) ^ 31 = 2147483648 by decide]; exact hm)
    rw [Nat.one_mul, show (2 : Nat) ^ 31 = 2147483648 by decide] at h2
    have h3 : (2147483648 : Nat) ||| m = m + 2147483648 := by rw [Nat.add_comm]; exact h2
    rw [h3] at h
    exact h
theorem or_word32 (ng : Bool) {a b : Nat} (hb : b < 8388608) (hab : a * 8388608 + b < 2147483648) :
    bitsI .or .u32 (bitsI .or .u32 (if ng then (2147483648 : Int) else 0) ((a * 8388608 : Nat) : Int)) (b : Int) = (W32 ng (a * 8388608 + b) : Int) := by
  have ha : a * 8388608 < 2147483648 := Nat.lt_of_le_of_lt (Nat.le_add_right _ b) hab
  rw [or_sign32 ng (m := a * 8388608) ha]
  have hw : W32 ng (a * 8388608) < 4294967296 := W32_lt ha
  rw [bitsI_or32 hw (by omega)]
  congr 1
  unfold W32
  have e23 : (2 : Nat) ^ 23 = 8388608 := by decide
  have h2 : ∀ x : Nat, x * 8388608 ||| b = x * 8388608 + b := fun x => by
    have := or_add (a := x) (b := b) (s := 23) (by rw [e23]; exact hb)
    rwa [e23] at this
  cases ng
  · simp only [Bool.false_eq_true, if_false]; exact h2 a
  · simp only [if_true]
    rw [show a * 8388608 + 2147483648 = (a + 256) * 8388608 by omega, h2]
    omega
/-- What Float32 comes to where there are p places. -/
def mid32 (p : Nat) (ng : Bool) (n V : Nat) (E : Int) : Nat × Int :=
  if 127 < E + Go.Proofs.rndE (rn V (64 * n - p)) p - 1 then (2139095040, if ng then -1 else 1)
  else if E + Go.Proofs.rndE (rn V (64 * n - p)) p - 1 < -126 then (Go.Proofs.rndW (rn V (64 * n - p)) p / 4294967296 / 2 ^ (32 - (149 + (E + Go.Proofs.rndE (rn V (64 * n - p)) p))).toNat, Go.Proofs.accR V (64 * n - p) ng)
  else ((E + Go.Proofs.rndE (rn V (64 * n - p)) p + 126).toNat * 8388608 + Go.Proofs.rndW (rn V (64 * n - p)) p / 1099511627776 % 8388608, Go.Proofs.accR V (64 * n - p) ng)
/-- What Float32 comes to. -/
def f32F (ng : Bool) (n V : Nat) (E : Int) : Nat × Int :=
  if E - 1 < -126 then
    if 149 + E < 0 then (0, if ng then 1 else -1)
    else if 149 + E = 0 then (if V % 2 ^ (64 * n - 1) = 0 then (0, if ng then 1 else -1) else (1, if ng then -1 else 1))
    else mid32 (149 + E).toNat ng n V E
  else mid32 24 ng n V E
end Go.Eng
namespace Go.Proofs
open Go Go.Eng
variable {B : World} {R : Ending → Heap → Prop} {h : Heap}
theorem rndW_lt {rq p : Nat} (hp1 : 1 ≤ p) (hp : p ≤ 24) : rndW rq p < 18446744073709551616 := by
  unfold rndW
  by_cases h : rq < 2 ^ p
  · rw [if_pos h]
    have : rq * 2 ^ (64 - p) < 2 ^ p * 2 ^ (64 - p) := Nat.mul_lt_mul_of_pos_right h (Nat.pow_pos (by decide))
    rw [← Nat.pow_add, show p + (64 - p) = 64 by omega, show (2 : Nat) ^ 64 = 18446744073709551616 by decide] at this
    exact this
  · rw [if_neg h]; decide
theorem mid32_le {p : Nat} {ng : Bool} {n V : Nat} {E : Int} (hp1 : 1 ≤ p) (hp : p ≤ 24) (hpE : p < 24 → (p : Int) = 149 + E) (hp24 : p = 24 → -125 ≤ E) :
    (mid32 p ng n V E).1 ≤ 2139095040 ∧ ((mid32 p ng n V E).1 = 2139095040 → (mid32 p ng n V E).2 = if ng then -1 else 1) := by
  unfold mid32
  have h01 := rndE_01 (rn V (64 * n - p)) p
  have hw := rndW_lt (rq := rn V (64 * n - p)) hp1 hp
  generalize rndE (rn V (64 * n - p)) p = x at *
  generalize rndW (rn V (64 * n - p)) p = w at *
  by_cases h1 : 127 < E + x - 1
  · rw [if_pos h1]; exact ⟨Nat.le_refl _, fun _ => rfl⟩
  rw [if_neg h1]
  by_cases h2 : E + x - 1 < -126
  · rw [if_pos h2]
    have hs : 9 ≤ (32 - (149 + (E + x))).toNat := by omega
    have hp9 : 2 ^ 9 ≤ 2 ^ (32 - (149 + (E + x))).toNat := Nat.pow_le_pow_right (by decide) hs
    rw [show (2 : Nat) ^ 9 = 512 by decide] at hp9
    have h3 : w / 4294967296 / 2 ^ (32 - (149 + (E + x))).toNat ≤ w / 4294967296 / 512 := Nat.div_le_div_left hp9 (by decide)
    constructor
    · show _ ≤ _
      have : w / 4294967296 / 512 ≤ 8388608 := by omega
      generalize w / 4294967296 / 2 ^ (32 - (149 + (E + x))).toNat = y at *
      omega
    · intro h4
      have h4 : w / 4294967296 / 2 ^ (32 - (149 + (E + x))).toNat = 2139095040 := h4
      have : w / 4294967296 / 512 ≤ 8388608 := by omega
      omega
  · rw [if_neg h2]
    constructor
    · show _ ≤ _; omega
    · intro h4
      have h4 : (E + x + 126).toNat * 8388608 + w / 1099511627776 % 8388608 = 2139095040 := h4
      omega
/-- Float32's end. -/
theorem f32_end {rz q o c w : Nat} {p ac E : Int} {ng : Bool} (Z : Flt h rz p ac 1 ng (some ⟨q, o, none⟩) 1 c E) {a b : Nat} (hb : b < 8388608) (hab : a * 8388608 + b < 2147483648)
    (H : R (.returned (.tuple #[.float .f32 (W32 ng (a * 8388608 + b)), .int .i8 ac])) h) :
    F1335_j33 B R (some ⟨rz, 0, none⟩) (if ng then (2147483648 : Int) else 0) ((a * 8388608 : Nat) : Int) (b : Int) h := by
  refine ⟨rz, 0, rfl, rz, 0 + 2, rfl, ac, Own.cell Z _, ?_⟩
  rw [or_word32 ng hb hab]
  exact E1331 ⟨_, rfl, rfl, H⟩
/-- Float32 of what has at least one place. -/
theorem f32_mid {r q n V p : Nat} {pr ac E : Int} {ng : Bool} (F : FltV h r q pr ac ng n V E) (hpr : 53 < pr) (hn : n ≤ 30000000)
    (hp1 : 1 ≤ p) (hp2 : p ≤ 24) (hpE : p < 24 → (p : Int) = 149 + E) (hp24 : p = 24 → -125 ≤ E) (hEl : -2147480000 ≤ E) (hEh : E ≤ 2147483600)
    (H : ∀ h', Ext h h' → R (.returned (.tuple #[.float .f32 (W32 ng (mid32 p ng n V E).1), .int .i8 (mid32 p ng n V E).2])) h') :
    F1335_j17 B R (some ⟨r, 0, none⟩) (p : Int) h := by
  obtain ⟨o, c, ws, F1, M1, v1, hT, hq⟩ := F
  refine alK fun rz g1 erz f1 o1 z1 => ?_
  have Z1 : Flt g1 rz 0 0 0 false none 0 0 0 := o1
  have hrz : rz ≠ r := by have := F1.lt; omega
  have hrq : rz ≠ q := by have := M1.lt; omega
  refine ⟨rz, 0, rfl, rz, 0, rfl, Own.stC Z1 (by simp) rfl fun a2 f2 => ?_⟩
  rw [wrap_u32_in (x := (p : Int)) (by omega) (by omega)] at a2 f2 ⊢
  generalize setCell g1 ⟨rz, 0, none⟩ (.int .u32 (p : Int)) = g2 at a2 f2 ⊢
  have Z2 : Flt g2 rz p 0 0 false none 0 0 0 := a2
  have F2 : FltV g2 r q pr ac ng n V E := ⟨o, c, ws, (F1.fr f1 id).fr f2 (fun e => hrz e.symm), (M1.fr f1 id).fr f2 (fun e => hrq e.symm), v1, hT, hq⟩
  refine K1098b Z2 F2 hrz hrq hpr hp1 (by omega) hn (by omega) (by omega) fun g3 q3 o3 c3 Z3 M3 f3 => ⟨_, rfl, ?_⟩
  have fx : Ext h g3 := by
    have a := Fr.trans (Fr.trans (S := fun x => x = rz) (Ext.to f1) f2 fun _ _ e => e) f3 fun _ _ e => e
    exact Fr.toExt a fun x hx e => by omega
  have Fx : Flt g3 r pr ac 1 ng (some ⟨q, o, none⟩) n c E := ((F1.fr f1 id).fr f2 (fun e => hrz e.symm)).fr f3 (fun e => hrz e.symm)
  have HH := H g3 fx
  clear H F2 Z2 a2 f2 f3 M1 F1 f1 o1 z1 Z1
  unfold mid32 at HH
  have h01 := rndE_01 (rn V (64 * n - p)) p
  have hw := rndW_lt (rq := rn V (64 * n - p)) hp1 hp2
  generalize rndE (rn V (64 * n - p)) p = x at *
  generalize rndW (rn V (64 * n - p)) p = w at *
  generalize accR V (64 * n - p) ng = acc at *
  refine ⟨rz, 0, rfl, rz, 0 + 6, rfl, _, Own.cell Z3 _, rz, 0, rfl, rz, 0 + 3, rfl, _, Own.cell Z3 _, fun e => by simp at e, fun _ => ?_⟩
  rw [wrap_i32_in (by omega) (by omega)]
  by_cases hover : (127 : Int) < E + x - 1
  · rw [if_pos hover] at HH
    rw [decide_eq_true hover]
    have dT : FloatKind.f64.decode 18442240474082181120 = .infinity true := by decide +kernel
    have dF : FloatKind.f64.decode 9218868437227405312 = .infinity false := by decide +kernel
    have eT : FloatKind.f32.encode (.infinity true) = W32 true 2139095040 := by decide +kernel
    have eF : FloatKind.f32.encode (.infinity false) = W32 false 2139095040 := by decide +kernel
    refine ⟨fun _ => Fx.lng ⟨fun e => ?_, fun e => ?_⟩, fun e => by cases e⟩
    · subst e
      refine K185 (ng := true) rfl ⟨_, rfl, ?_⟩
      rw [wordN_t]
      refine ⟨fun e => (by cases e), fun _ => ?_⟩
      rw [dT]
      show R _ _
      rw [eT]; exact HH
    · subst e
      refine K185 (ng := false) rfl ⟨_, rfl, ?_⟩
      rw [wordN_f]
      refine ⟨fun e => (by cases e), fun _ => ?_⟩
      rw [dF]
      show R _ _
      rw [eF]; exact HH
  · rw [if_neg hover] at HH
    rw [decide_eq_false hover]
    have hj28 : F1335_j28 B R (E + x - 1) (some ⟨rz, 0, none⟩) (if ng then (2147483648 : Int) else 0) 0 g3 := by
      by_cases hlt : E + x - 1 < -126
      · rw [if_pos hlt] at HH
        refine ⟨fun e => ⟨rz, 0, rfl, rz, 0 + 5, rfl, _, _, _, Own.cell Z3 _, K1338 M3 (by decide) ⟨_, rfl, ?_⟩⟩, fun e => absurd hlt (of_decide_eq_false e)⟩
        have esh : IntKind.u64.wrap (IntKind.i64.wrap ((32 : Int) - (IntKind.i64.wrap ((150 : Int) + (IntKind.i64.wrap (E + x - 1)))))) = (((32 - (149 + (E + x))).toNat : Nat) : Int) := by
          rw [i64_in (x := E + x - 1) (by omega) (by omega), i64_in (x := 150 + (E + x - 1)) (by omega) (by omega), i64_in (by omega) (by omega), wrap_u64_in (by omega) (by omega)]
          omega
        rw [esh]
        refine ⟨Int.natCast_nonneg _, ?_⟩
        have hs : (32 - (149 + (E + x))).toNat ≤ 31 ∧ 9 ≤ (32 - (149 + (E + x))).toNat := by omega
        generalize (32 - (149 + (E + x))).toNat = s at *
        have hf := fdiv32 (x := [w].getD (1 - 1) 0 / 4294967296) (s := s) (by omega)
        rw [hf]
        have hw1 : [w].getD (1 - 1) 0 = w := rfl
        rw [hw1]
        have hp9 : 2 ^ 9 ≤ 2 ^ s := Nat.pow_le_pow_right (by decide) hs.2
        rw [show (2 : Nat) ^ 9 = 512 by decide] at hp9
        have h3 : w / 4294967296 / 2 ^ s ≤ w / 4294967296 / 512 := Nat.div_le_div_left hp9 (by decide)
        have h4 : w / 4294967296 / 2 ^ s < 8388608 := by omega
        have := f32_end (w := 0) (B := B) (R := R) Z3 (a := 0) (b := w / 4294967296 / 2 ^ s) h4 (by omega) (by rw [Nat.zero_mul, Nat.zero_add]; exact HH)
        rw [Nat.zero_mul] at this
        exact this
      · rw [if_neg hlt] at HH
        refine ⟨fun e => absurd (of_decide_eq_true e) hlt, fun e => ⟨by decide, rz, 0, rfl, rz, 0 + 5, rfl, _, _, _, Own.cell Z3 _, K1338 M3 (by decide) ⟨_, rfl, by decide, ?_⟩⟩⟩
        have hbx : IntKind.u32.wrap ((IntKind.u32.wrap (IntKind.i32.wrap ((E + x - 1) + (127 : Int)))) * 2 ^ min (Int.toNat (23 : Int)) IntKind.u32.bits) = (((E + x + 126).toNat * 8388608 : Nat) : Int) := by
          rw [wrap_i32_in (by omega) (by omega), wrap_u32_in (x := (E + x - 1) + 127) (by omega) (by omega), show (E + x - 1) + 127 = (((E + x + 126).toNat : Nat) : Int) by omega]
          have := shl32 (x := (E + x + 126).toNat) (s := 23) (by decide)
          rw [show ((23 : Nat) : Int) = 23 from rfl] at this
          rw [this, show (2 : Nat) ^ 23 = 8388608 by decide, Nat.mod_eq_of_lt (by omega)]
        have hmt : bitsI .and .u32 (Int.fdiv (([w].getD (1 - 1) 0 / 4294967296 : Nat) : Int) (2 ^ min (Int.toNat (8 : Int)) IntKind.u32.bits)) (8388607 : Int) = ((w / 1099511627776 % 8388608 : Nat) : Int) := by
          have hw1 : [w].getD (1 - 1) 0 = w := rfl
          rw [hw1]
          have h1 := fdiv32 (x := w / 4294967296) (s := 8) (by decide)
          rw [show ((8 : Nat) : Int) = 8 from rfl, show (2 : Nat) ^ 8 = 256 by decide] at h1
          rw [h1, bitsI_and32 (by omega)]
          congr 1
          omega
        rw [hbx, hmt]
        exact f32_end (w := 0) Z3 (Nat.mod_lt _ (by decide)) (by omega) HH
    refine ⟨fun e => (by cases e), fun _ => Fx.lng ⟨fun e => ?_, fun e => ?_⟩⟩
    · rw [e] at hj28; exact hj28
    · rw [e] at hj28; exact hj28
/-- Float32 of a number other than 0. -/
theorem K1335 {r q n V : Nat} {pr ac E : Int} {ng : Bool} (F : FltV h r q pr ac ng n V E) (hpr : 53 < pr) (hn : n ≤ 30000000) (hE : -2147480000 ≤ E) (hE2 : E ≤ 2147483600)
    (H : ∀ h', Ext h h' → R (.returned (.tuple #[.float .f32 (W32 ng (f32F ng n V E).1), .int .i8 (f32F ng n V E).2])) h') :
    Ent Tryz.prog B 83 #[.pointer (some ⟨r, 0, none⟩)] R h := by
  have G := F
  obtain ⟨o, c, ws, F1, M1, v1, hT, hq⟩ := F
  have hn0 := (top_pos hT).1
  have w1 : IntKind.i32.wrap (E - (1 : Int)) = E - 1 := wrap_i32_in (by omega) (by omega)
  have w2 : IntKind.i64.wrap (E - 1) = E - 1 := i64_in (by omega) (by omega)
  have w3 : IntKind.i64.wrap ((150 : Int) + (E - 1)) = 149 + E := by rw [i64_in (by omega) (by omega)]; omega
  unfold f32F at H
  refine F1335_ok _ ⟨fun e => by simp at e, fun _ => F1.lfo ⟨fun _ => F1.lex ?_, fun e => absurd (of_decide_eq_false e) (by simp)⟩⟩
  rw [w1, w2, w3]
  have z0 : Op.negFloat .f32 0 = W32 true 0 := by decide +kernel
  refine ⟨fun e => ?_, fun e => ?_⟩
  · have hlow := of_decide_eq_true e
    rw [if_pos hlow] at H
    refine ⟨fun e2 => ?_, fun e2 => ⟨fun e3 => ?_, fun e3 => ?_⟩⟩
    · rw [if_pos (of_decide_eq_true e2)] at H
      refine ⟨fun _ => F1.lng ⟨fun e => ?_, fun e => ?_⟩, fun e => by cases e⟩
      · subst e; rw [z0]; exact H h Fr.rfl'
      · subst e; exact H h Fr.rfl'
    · have h2 := of_decide_eq_false e2
      have h3 := of_decide_eq_true e3
      rw [if_neg h2, if_pos h3] at H
      have hw : IntKind.u64.wrap ((IntKind.u64.wrap ((IntKind.u64.wrap (n : Int)) * (64 : Int))) - (1 : Int)) = ((64 * n - 1 : Nat) : Int) := by
        rw [wrap_u64_in (x := (n : Int)) (by omega) (by omega), wrap_u64_in (x := (n : Int) * 64) (by omega) (by omega), wrap_u64_in (by omega) (by omega)]
        omega
      refine F1.ma (F1.ma ?_)
      rw [hw]
      refine K1097 M1 (by omega) ⟨_, rfl, ?_⟩
      rw [show val B64 ws = V from v1]
      by_cases hz : V % 2 ^ (64 * n - 1) = 0
      · rw [if_pos hz] at H
        rw [if_pos hz]
        refine ⟨fun _ => F1.lng ⟨fun e => ?_, fun e => ?_⟩, fun e => by cases e⟩
        · subst e; rw [z0]; exact H h Fr.rfl'
        · subst e; exact H h Fr.rfl'
      · rw [if_neg hz] at H
        rw [if_neg hz]
        refine ⟨fun e => (by cases e), fun _ => ⟨fun _ => F1.lng ⟨fun e => ?_, fun e => ?_⟩, fun e => absurd (of_decide_eq_false e) (by omega)⟩⟩
        · subst e; exact H h Fr.rfl'
        · subst e; exact H h Fr.rfl'
    · have h2 := of_decide_eq_false e2
      have h3 := of_decide_eq_false e3
      rw [if_neg h2, if_neg h3] at H
      refine ⟨fun e => (by cases e), fun _ => ⟨fun e => absurd (of_decide_eq_true e) h3, fun _ => ?_⟩⟩
      have := f32_mid (B := B) (R := R) (p := (149 + E).toNat) G hpr hn (by omega) (by omega) (by omega) (by omega) hE hE2 H
      rw [show (((149 + E).toNat : Nat) : Int) = 149 + E by omega] at this
      exact this
  · have hlow := of_decide_eq_false e
    rw [if_neg hlow] at H
    exact f32_mid (p := 24) G hpr hn (by decide) (by decide) (by omega) (by omega) hE hE2 H
/-- Float32 of 0. -/
theorem K1335z {r : Nat} (F : Flt h r 64 0 0 false none 0 0 0) (H : R (.returned (.tuple #[.float .f32 0, .int .i8 (0 : Int)])) h) :
    Ent Tryz.prog B 83 #[.pointer (some ⟨r, 0, none⟩)] R h :=
  F1335_ok _ ⟨fun e => (by cases e), fun _ => F.lfo ⟨fun e => by simp at e, fun _ => ⟨fun _ => F.lng ⟨fun e => (by cases e), fun _ => H⟩, fun e => by simp at e⟩⟩⟩
theorem f32F_le {ng : Bool} {n V : Nat} {E : Int} : (f32F ng n V E).1 ≤ 2139095040 ∧ ((f32F ng n V E).1 = 2139095040 → (f32F ng n V E).2 = if ng then -1 else 1) := by
  unfold f32F
  by_cases h1 : E - 1 < -126
  · rw [if_pos h1]
    by_cases h2 : 149 + E < 0
    · rw [if_pos h2]; exact ⟨by show _ ≤ 2139095040; omega, fun h => absurd h (by show ¬ (_ : Nat) = 2139095040; omega)⟩
    rw [if_neg h2]
    by_cases h3 : 149 + E = 0
    · rw [if_pos h3]
      by_cases h4 : V % 2 ^ (64 * n - 1) = 0
      · rw [if_pos h4]; exact ⟨by show _ ≤ 2139095040; omega, fun h => absurd h (by show ¬ (_ : Nat) = 2139095040; omega)⟩
      · rw [if_neg h4]; exact ⟨by show _ ≤ 2139095040; omega, fun h => absurd h (by show ¬ (_ : Nat) = 2139095040; omega)⟩
    · rw [if_neg h3]
      exact mid32_le (by omega) (by omega) (by omega) (by omega)
  · rw [if_neg h1]
    exact mid32_le (by decide) (by decide) (by omega) (by omega)
end Go.Proofs
