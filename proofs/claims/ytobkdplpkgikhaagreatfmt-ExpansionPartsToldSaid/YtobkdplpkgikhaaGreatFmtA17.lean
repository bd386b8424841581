import Derived.Test.YtobkdplpkgikhaaGreatFmtA16
import Derived.Lib.BitFns
import Derived.Lib.TrailingZeros
/- Here stand lemmas and contracts, in the order in which they are used. -/
set_option linter.unusedVariables false
namespace Go.Proofs
open Go Go.Eng
variable {B : World} {R : Ending → Heap → Prop} {h : Heap}
theorem len8tab_at : ∀ k : Fin 256, (⟨#[0, 1, 2, 2, 3, 3, 3, 3, 4, 4, 4, 4, 4, 4, 4, 4, 5, 5, 5, 5, 5, 5, 5, 5, 5, 5, 5, 5, 5, 5, 5, 5, 6, 6, 6, 6, 6, 6, 6, 6, 6, 6, 6, 6, 6, 6, 6, 6, 6, 6, 6, 6, 6, 6, 6, 6, 6, 6, 6, 6, 6, 6, 6, 6, 7, 7, 7, 7, 7, 7, 7, 7, 7, 7, 7, 7, 7, 7, 7, 7, 7, 7, 7, 7, 7, 7, 7, 7, 7, 7, 7, 7, 7, 7, 7, 7, 7, 7, 7, 7, 7, 7, 7, 7, 7, 7, 7, 7, 7, 7, 7, 7, 7, 7, 7, 7, 7, 7, 7, 7, 7, 7, 7, 7, 7, 7, 7, 7, 8, 8, 8, 8, 8, 8, 8, 8, 8, 8, 8, 8, 8, 8, 8, 8, 8, 8, 8, 8, 8, 8, 8, 8, 8, 8, 8, 8, 8, 8, 8, 8, 8, 8, 8, 8, 8, 8, 8, 8, 8, 8, 8, 8, 8, 8, 8, 8, 8, 8, 8, 8, 8, 8, 8, 8, 8, 8, 8, 8, 8, 8, 8, 8, 8, 8, 8, 8, 8, 8, 8, 8, 8, 8, 8, 8, 8, 8, 8, 8, 8, 8, 8, 8, 8, 8, 8, 8, 8, 8, 8, 8, 8, 8, 8, 8, 8, 8, 8, 8, 8, 8, 8, 8, 8, 8, 8, 8, 8, 8, 8, 8, 8, 8, 8, 8, 8, 8, 8, 8, 8, 8, 8, 8, 8, 8, 8, 8]⟩ : ByteArray)[k.val]? = some (UInt8.ofNat (Lib.bitLen k.val)) := by decide +kernel
theorem bitLen_u8 : ∀ k : Fin 256, (UInt8.ofNat (Lib.bitLen k.val)).toNat = Lib.bitLen k.val := by decide +kernel
theorem wrap_u8_nat {x : Nat} (hx : x < 256) : IntKind.u8.wrap (x : Int) = (x : Int) := by
  have h : IntKind.u8.wrap (x : Int) = (x : Int) % 256 := rfl
  rw [h]; omega
theorem K221e {x a : Nat} (hx : x < 256) (ha : a ≤ 56) (H : R (.returned (.int .i64 ((a + Lib.bitLen x : Nat) : Int))) h) : F221_j10 B R (x : Int) (a : Int) h := by
  unfold F221_j10
  rw [wrap_u8_nat hx]
  refine ⟨by omega, _, len8tab_at ⟨x, hx⟩, ?_⟩
  have l := Lib.bitLen_le8 ⟨x, hx⟩
  simp only at l
  have eb : (UInt8.ofNat (Lib.bitLen x)).toNat = Lib.bitLen x := bitLen_u8 ⟨x, hx⟩
  show R (.returned (.int .i64 (IntKind.i64.wrap ((a : Int) + (IntKind.i64.wrap (((UInt8.ofNat (Lib.bitLen x)).toNat : Nat) : Int)))))) h
  rw [eb, i64_in (x := (Lib.bitLen x : Int)) (by omega) (by omega), i64_in (by omega) (by omega)]
  exact H
theorem sh8 (x : Nat) : Int.fdiv (x : Int) (2 ^ min (Int.toNat (8 : Int)) IntKind.u64.bits) = ((x / 256 : Nat) : Int) := fdiv_pow (x := x) (s := 8) (by decide)
theorem sh16 (x : Nat) : Int.fdiv (x : Int) (2 ^ min (Int.toNat (16 : Int)) IntKind.u64.bits) = ((x / 65536 : Nat) : Int) := fdiv_pow (x := x) (s := 16) (by decide)
theorem K221d {x a : Nat} (hx : x < 65536) (ha : a ≤ 48) (H : R (.returned (.int .i64 ((a + Lib.bitLen x : Nat) : Int))) h) : F221_j6 B R (x : Int) (a : Int) h := by
  refine ⟨fun e => ⟨by decide, ?_⟩, fun e => ?_⟩
  · have e : 256 ≤ x := by simp at e; omega
    rw [sh8, i64_in (by omega) (by omega)]
    refine K221e (a := a + 8) (by omega) (by omega) ?_
    rw [Lib.bitLen_shift8 x e (by omega)] at H
    rw [show a + 8 + Lib.bitLen (x / 256) = a + (8 + Lib.bitLen (x / 256)) by omega]; exact H
  · exact K221e (by simp at e; omega) (by omega) H
theorem K221c {x a : Nat} (hx : x < 4294967296) (ha : a ≤ 32) (H : R (.returned (.int .i64 ((a + Lib.bitLen x : Nat) : Int))) h) : F221_j2 B R (x : Int) (a : Int) h := by
  refine ⟨fun e => ⟨by decide, ?_⟩, fun e => ?_⟩
  · have e : 65536 ≤ x := by simp at e; omega
    rw [sh16, i64_in (by omega) (by omega)]
    refine K221d (a := a + 16) (by omega) (by omega) ?_
    rw [Lib.bitLen_shift16 x e (by omega)] at H
    rw [show a + 16 + Lib.bitLen (x / 65536) = a + (16 + Lib.bitLen (x / 65536)) by omega]; exact H
  · exact K221d (by simp at e; omega) (by omega) H
/-- Len64. -/
theorem K221 {x : Nat} (hx : x < B64) (H : R (.returned (.int .i64 (Lib.bitLen x : Int))) h) : Ent Tryz.prog B 185 #[.int .u64 (x : Int)] R h := by
  unfold B64 at hx
  refine F221_ok _ ⟨fun e => ⟨by decide, ?_⟩, fun e => ?_⟩
  · have e : 4294967296 ≤ x := by simp at e; omega
    rw [sh32]
    refine K221c (a := 32) (by omega) (by omega) ?_
    rw [Lib.bitLen_shift32 x e (by omega)] at H
    exact H
  · refine K221c (a := 0) (by simp at e; omega) (by omega) ?_
    rw [Nat.zero_add]; exact H
theorem K205 {x : Nat} (hx : x < B64) (H : R (.returned (.int .i64 (Lib.bitLen x : Int))) h) : Ent Tryz.prog B 170 #[.int .u64 (x : Int)] R h :=
  F205_ok _ ⟨fun e => Bool.noConfusion e, fun _ => K221 hx ⟨_, rfl, H⟩⟩
/-- The table deBruijn64tab lies where it was laid. -/
def TabH (h : Heap) : Prop := 3 < h.size ∧ ∀ i, i < 64 → cell? h ⟨3, i, none⟩ = some (.int .u8 ((Lib.deBruijn64tab.getD i 0 : Nat) : Int))
theorem TabH.fr {h h' : Heap} {S : Nat → Prop} (H : TabH h) (f : Fr S h h') (hs : ¬ S 3) : TabH h' :=
  ⟨Nat.lt_of_lt_of_le H.1 f.size, fun i hi => by have e := H.2 i hi; unfold cell? at e ⊢; rw [f.same _ H.1 hs]; exact e⟩
theorem K215 {x : Nat} (hx : x < B64) (h0 : x ≠ 0) (ht : TabH h) (H : R (.returned (.int .i64 (Lib.ctz 64 x : Int))) h) : Ent Tryz.prog B 179 #[.int .u64 (x : Int)] R h := by
  obtain ⟨_, c2⟩ := ht
  have hB : B64 = 2 ^ 64 := rfl
  obtain ⟨l1, l2⟩ := Lib.lowest_bit 64 x h0 (by rw [← hB]; exact hx)
  refine F215_ok _ ⟨fun e => by have := Int.natCast_eq_zero.1 (of_decide_eq_true e); omega, fun _ => ⟨by decide, ?_⟩⟩
  have e1 : IntKind.u64.wrap (0 - (x : Int)) = ((2 ^ 64 - x : Nat) : Int) := by
    have h : IntKind.u64.wrap (0 - (x : Int)) = (0 - (x : Int)) % 18446744073709551616 := rfl
    unfold B64 at hx
    rw [h]; omega
  have hlt : 2 ^ 64 - x < B64 := by unfold B64; omega
  rw [e1, bitsI_and hx, Nat.mod_eq_of_lt hlt, l1]
  obtain ⟨t1, t2⟩ := Lib.deBruijn64_at _ l2
  have e2 : IntKind.u64.wrap (((2 ^ Lib.ctz 64 x : Nat) : Int) * (285870213051353865 : Int)) = ((2 ^ Lib.ctz 64 x * 285870213051353865 % 18446744073709551616 : Nat) : Int) := by
    rw [← wrap_u64_nat]; rfl
  rw [e2]
  have e3 : ∀ y : Nat, Int.fdiv (y : Int) (2 ^ min (Int.toNat (58 : Int)) IntKind.u64.bits) = ((y / 288230376151711744 : Nat) : Int) := fun y => fdiv_pow (x := y) (s := 58) (by decide)
  rw [e3]
  refine ⟨_, 0, rfl, by omega, by omega, _, _, rfl, (Lib.ctz 64 x : Int), ?_, ?_⟩
  · rw [Int.toNat_natCast, Nat.mul_one, Nat.zero_add]; exact (c2 _ t1).trans (by rw [t2])
  · rw [i64_in (by omega) (by omega)]; exact H
theorem K193 {x : Nat} (hx : x < B64) (h0 : x ≠ 0) (ht : TabH h) (H : R (.returned (.int .i64 (Lib.ctz 64 x : Int))) h) : Ent Tryz.prog B 159 #[.int .u64 (x : Int)] R h :=
  F193_ok _ ⟨fun e => Bool.noConfusion e, fun _ => K215 hx h0 ht ⟨_, rfl, H⟩⟩
/-- nat.trailingZeroBits. -/
theorem K163 {px : Option Addr} {n xc vx : Nat} (hx : NatI h px n vx) (ln : n < 549755813888) (h0 : 0 < vx) (ht : TabH h) (H : ∀ t m : Nat, vx = 2 ^ t * (2 * m + 1) → R (.returned (.int .u64 (t : Int))) h) :
    Ent Tryz.prog B 131 #[.slice px n xc] R h := by
  obtain ⟨xs, x1, x2, x3, x4, x5⟩ := hx.ex
  have x5 : val B64 xs = vx := x5
  have hn0 : n ≠ 0 := fun e => by rw [List.eq_nil_of_length_eq_zero (x2.trans e)] at x5; simp [val] at x5; omega
  refine F163_ok _ _ _ ⟨fun e => by simp at e; omega, fun _ => ?_⟩
  have hfirst : ∀ i, i ≤ n → val B64 (xs.take i) = 0 → i < n := by
    intro i hi hv
    rcases Nat.lt_or_ge i n with h | h
    · exact h
    · rw [List.take_of_length_le (by omega)] at hv; omega
  refine ⟨fun m vs h' => match vs with
    | [.slice p1 n1 _, .int _ i] => px = p1 ∧ n = n1 ∧ h = h' ∧ ∃ j : Nat, i = (j : Int) ∧ j ≤ n ∧ m = n - j ∧ val B64 (xs.take j) = 0
    | _ => False, n, ⟨rfl, rfl, rfl, 0, rfl, by omega, by omega, by simp [val]⟩, ?_⟩
  rintro m h' _ _ _ _ ⟨rfl, rfl, rfl, j, rfl, hj, rfl, hv⟩ _
  have hjn := hfirst j hj hv
  have dj : xs[j]'(by omega) < B64 := x3.get (by omega)
  refine x1.get j rfl (by omega) (by omega) ⟨fun e => ?_, fun e => ?_⟩
  · have e0 : xs[j]'(by omega) = 0 := Int.natCast_eq_zero.1 (of_decide_eq_true e)
    refine ⟨n - (j + 1), by omega, rfl, rfl, rfl, j + 1, ?_, by omega, rfl, ?_⟩
    · exact wadd (a := j) (b := 1) (by unfold B64; omega)
    · rw [val_take_succ _ _ (by omega), hv, e0]; simp
  · have e0 : xs[j]'(by omega) ≠ 0 := fun hh => of_decide_eq_false e (Int.natCast_eq_zero.2 hh)
    refine x1.get j rfl (by omega) (by omega) (K193 dj e0 ht ⟨_, rfl, ?_⟩)
    obtain ⟨q, q1, q2⟩ := Lib.ctzFrom_spec 64 (xs[j]'(by omega)) (by omega) dj
    have ec : Lib.ctz 64 (xs[j]'(by omega)) = Lib.ctzFrom 64 (xs[j]'(by omega)) := by simp [Lib.ctz, e0]
    rw [ec]
    have w1 : IntKind.u64.wrap ((j : Int) * (64 : Int)) = ((j * 64 : Nat) : Int) := wmul (a := j) (b := 64) (by unfold B64; omega)
    have w2 : IntKind.u64.wrap ((Lib.ctzFrom 64 (xs[j]'(by omega)) : Nat) : Int) = ((Lib.ctzFrom 64 (xs[j]'(by omega)) : Nat) : Int) := by rw [wrap_u64_nat, Nat.mod_eq_of_lt (by omega)]
    rw [w1, w2, wadd (by unfold B64; omega)]
    refine H _ (q + 2 ^ (63 - Lib.ctzFrom 64 (xs[j]'(by omega))) * val B64 (xs.drop (j + 1))) ?_
    rw [← x5, val_split B64 xs (i := j) (by omega), hv, Nat.zero_add, val_drop _ _ (by omega), pow64]
    generalize val B64 (xs.drop (j + 1)) = V
    generalize xs[j]'(by omega) = w at *
    generalize Lib.ctzFrom 64 w = t at *
    subst q1
    have e6 : B64 = 2 ^ t * (2 * 2 ^ (63 - t)) := by
      rw [← Nat.pow_succ', ← Nat.pow_add, show t + (63 - t + 1) = 64 by omega]
    have e7 : B64 * V = 2 ^ t * (2 * 2 ^ (63 - t)) * V := by rw [← e6]
    rw [e7, Nat.mul_assoc (2 ^ t), ← Nat.mul_add, ← Nat.mul_assoc, ← Nat.pow_add, Nat.mul_comm 64 j]
    congr 1
    rw [Nat.mul_add, Nat.mul_assoc]
    omega
end Go.Proofs
