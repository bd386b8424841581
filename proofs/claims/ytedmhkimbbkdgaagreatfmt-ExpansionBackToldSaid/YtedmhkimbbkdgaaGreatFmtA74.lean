import Derived.Test.YtedmhkimbbkdgaaGreatFmtA73
import Derived.Test.YtedmhkimbbkdgaaGreatFmtA72
import Derived.Test.YtedmhkimbbkdgaaGreatFmtA35
import Derived.Test.YtedmhkimbbkdgaaGreatFmtA46
/- Here stand lemmas: expansions that are made. -/
set_option linter.unusedVariables false
set_option linter.unusedVariables false
namespace Go.Eng
open Go
theorem p2le {a b : Nat} (h : a ≤ b) : 2 ^ a ≤ 2 ^ b := Nat.pow_le_pow_right (by decide) h
theorem p2lt {a b : Nat} (h : a < b) : 2 ^ a < 2 ^ b := Nat.pow_lt_pow_right (by decide) h
theorem tb_lt {x n i : Nat} (h : x < 2 ^ n) (hi : n ≤ i) : x.testBit i = false :=
  Nat.testBit_lt_two_pow (Nat.lt_of_lt_of_le h (Nat.pow_le_pow_right (by decide) hi))
theorem and_lem {X : Nat} (hX : X < 2 ^ 64) : X &&& 9227875636482146303 = 2 ^ 63 * (X / 2 ^ 63) + X % 2 ^ 52 := by
  apply Nat.eq_of_testBit_eq
  intro i
  have e : 9227875636482146303 = 2 ^ 63 * 1 + (2 ^ 52 - 1) := by decide
  have hm : X % 2 ^ 52 < 2 ^ 63 := Nat.lt_of_lt_of_le (Nat.mod_lt _ (by decide)) (by decide)
  rw [e, Nat.testBit_and, Nat.testBit_two_pow_mul_add _ (by decide), Nat.testBit_two_pow_mul_add _ hm]
  by_cases h : i < 63
  · rw [if_pos h, if_pos h, Nat.testBit_two_pow_sub_one, Nat.testBit_mod_two_pow, Bool.and_comm]
  · rw [if_neg h, if_neg h, Nat.testBit_div_two_pow]
    by_cases h2 : i = 63
    · subst h2; simp
    · rw [tb_lt hX (by omega), tb_lt hX (by omega), Bool.false_and]
theorem or_lem {s t k : Nat} (ht : t < 2 ^ 52) (hk : k < 2 ^ 11) : (2 ^ 63 * s + t) ||| (2 ^ 52 * k) = 2 ^ 63 * s + (2 ^ 52 * k + t) := by
  have h1 : t < 2 ^ 63 := Nat.lt_of_lt_of_le ht (by decide)
  have h2 : 2 ^ 52 * k + t < 2 ^ 63 := by
    have e1 : (2 : Nat) ^ 52 = 4503599627370496 := by decide
    have e2 : (2 : Nat) ^ 63 = 9223372036854775808 := by decide
    have e3 : (2 : Nat) ^ 11 = 2048 := by decide
    omega
  have e0 : 2 ^ 52 * k = 2 ^ 52 * k + 0 := rfl
  apply Nat.eq_of_testBit_eq
  intro i
  rw [Nat.testBit_or, Nat.testBit_two_pow_mul_add _ h1, Nat.testBit_two_pow_mul_add _ h2]
  have hk2 : (2 ^ 52 * k).testBit i = if i < 52 then false else k.testBit (i - 52) := by
    rw [e0, Nat.testBit_two_pow_mul_add _ (by decide)]
    simp
  rw [hk2]
  by_cases a : i < 63
  · rw [if_pos a, if_pos a, Nat.testBit_two_pow_mul_add _ ht]
    by_cases b : i < 52
    · rw [if_pos b, if_pos b, Bool.or_false]
    · rw [if_neg b, if_neg b, tb_lt ht (by omega), Bool.false_or]
  · rw [if_neg a, if_neg a, if_neg (by omega), tb_lt hk (by omega), Bool.or_false]
end Go.Eng
namespace Go.Proofs
open Go Go.Eng
/-- A pattern brought to the middle. -/
def midP (b : Int) : Int := pat (decide (b < 0)) ((823 + (b / 4503599627370496 % 256).toNat) * 4503599627370496 + fT b)
theorem i64_word {N : Nat} (h : N < 18446744073709551616) : IntKind.i64.wrap (N : Int) = if N < 9223372036854775808 then (N : Int) else (N : Int) - 18446744073709551616 := by
  have e : IntKind.i64.wrap (N : Int) = if (true && decide ((N : Int) % 18446744073709551616 ≥ 9223372036854775808)) = true then (N : Int) % 18446744073709551616 - 18446744073709551616 else (N : Int) % 18446744073709551616 := rfl
  rw [e]
  simp only [Bool.true_and, decide_eq_true_eq]
  split <;> split <;> omega
theorem word_mod {N : Nat} (h : N < 18446744073709551616) : (IntKind.i64.wrap (N : Int) % 18446744073709551616).toNat = N := by
  rw [i64_word h]
  split <;> omega
theorem or_word (x y : Int) : bitsI .or .i64 x y = IntKind.i64.wrap (((x % 18446744073709551616).toNat ||| (y % 18446744073709551616).toNat : Nat) : Int) := by
  have h1 : bitsI .or .i64 x y = IntKind.i64.wrap (((BitVec.ofInt 64 x ||| BitVec.ofInt 64 y).toNat : Nat) : Int) := rfl
  rw [h1, BitVec.toNat_or, BitVec.toNat_ofInt, BitVec.toNat_ofInt]
  have e1 : (x % ((2 ^ 64 : Nat) : Int)).toNat = (x % 18446744073709551616).toNat := rfl
  have e2 : (y % ((2 ^ 64 : Nat) : Int)).toNat = (y % 18446744073709551616).toNat := rfl
  rw [e1, e2]
theorem andNot_word (x : Int) : bitsI .andNot .i64 x (9218868437227405312 : Int) = IntKind.i64.wrap (((x % 18446744073709551616).toNat &&& 9227875636482146303 : Nat) : Int) := by
  have h4 : bitsI .andNot .i64 x (9218868437227405312 : Int) = IntKind.i64.wrap (((BitVec.ofInt 64 x &&& ~~~ BitVec.ofInt 64 (9218868437227405312 : Int)).toNat : Nat) : Int) := rfl
  have h5 : (~~~ BitVec.ofInt 64 (9218868437227405312 : Int)).toNat = 9227875636482146303 := by decide
  rw [h4, BitVec.toNat_and, BitVec.toNat_ofInt, h5]
  have e1 : (x % ((2 ^ 64 : Nat) : Int)).toNat = (x % 18446744073709551616).toNat := rfl
  rw [e1]
theorem and_lem2 {X : Nat} (hX : X < 18446744073709551616) : X &&& 9227875636482146303 = 9223372036854775808 * (X / 9223372036854775808) + X % 4503599627370496 := and_lem (X := X) hX
theorem or_lem2 {s t k : Nat} (ht : t < 4503599627370496) (hk : k < 2048) : (9223372036854775808 * s + t) ||| (4503599627370496 * k) = 9223372036854775808 * s + (4503599627370496 * k + t) := or_lem ht hk
theorem mid_exp {k : Nat} (h : k < 256) : (((823 : Int) + (k : Int)) * 4503599627370496 % 18446744073709551616).toNat = 4503599627370496 * (823 + k) := by
  omega
theorem mid_bits {b : Int} (hb : I64 b) : bitsI .or .i64 (bitsI .andNot .i64 b (9218868437227405312 : Int)) (IntKind.i64.wrap ((IntKind.i64.wrap ((823 : Int) + (bitsI .and .i64 (Int.fdiv b (2 ^ min (Int.toNat (52 : Int)) IntKind.i64.bits)) (255 : Int)))) * 2 ^ min (Int.toNat (52 : Int)) IntKind.i64.bits)) = midP b := by
  unfold I64 at hb
  have p52 : (2 : Int) ^ min (Int.toNat (52 : Int)) IntKind.i64.bits = 4503599627370496 := by decide
  rw [p52, Int.fdiv_eq_ediv_of_nonneg _ (by decide)]
  obtain ⟨k, hk, hk2⟩ : ∃ k, (b / 4503599627370496 % 256).toNat = k ∧ k < 256 := ⟨_, rfl, by omega⟩
  have h1 : bitsI .and .i64 (b / 4503599627370496) (255 : Int) = (k : Int) := by
    have h := and_i64 (x := b / 4503599627370496) (m := 255) (by decide)
    rw [show ((255 : Nat) : Int) = 255 from rfl] at h
    rw [h, show ((b / 4503599627370496) % 18446744073709551616).toNat &&& 255 = ((b / 4503599627370496) % 18446744073709551616).toNat % 256 from Nat.and_two_pow_sub_one_eq_mod _ 8]
    omega
  rw [h1, i64_in (x := (823 : Int) + (k : Int)) (by omega) (by omega), i64_in (x := ((823 : Int) + (k : Int)) * 4503599627370496) (by omega) (by omega)]
  obtain ⟨X, hX, hX2⟩ : ∃ X, (b % 18446744073709551616).toNat = X ∧ X < 18446744073709551616 := ⟨_, rfl, by omega⟩
  have hT := fT_lt b
  have ht : X % 4503599627370496 = fT b := by unfold fT; omega
  obtain ⟨s, hs, hs1⟩ : ∃ s, X / 9223372036854775808 = s ∧ s = if b < 0 then 1 else 0 := ⟨_, rfl, by split <;> omega⟩
  obtain ⟨t, ht2⟩ : ∃ t, fT b = t := ⟨_, rfl⟩
  rw [ht2] at ht hT
  have hsl : s ≤ 1 := by rw [hs1]; split <;> omega
  have hy := mid_exp hk2
  obtain ⟨m, hm⟩ : ∃ m, 823 + k = m := ⟨_, rfl⟩
  have hm2 : m < 2048 := by omega
  obtain ⟨M, hM⟩ : ∃ M, 4503599627370496 * m = M := ⟨_, rfl⟩
  have hM2 : M < 9223372036854775808 - t := by omega
  have hN : 9223372036854775808 * s + t < 18446744073709551616 := by omega
  have hN2 : 9223372036854775808 * s + (M + t) < 18446744073709551616 := by omega
  have hor := or_lem2 (s := s) hT hm2
  rw [hM] at hor
  rw [hm, hM] at hy
  have r1 : bitsI .andNot .i64 b (9218868437227405312 : Int) = IntKind.i64.wrap ((9223372036854775808 * s + t : Nat) : Int) := by
    rw [andNot_word, hX, and_lem2 hX2, hs, ht]
  rw [r1, or_word, hy, word_mod hN, hor, i64_word hN2]
  unfold midP
  rw [hk, ht2, hm, Nat.mul_comm m, hM]
  by_cases hn : b < 0
  · rw [if_pos hn] at hs1
    rw [decide_eq_true hn, if_neg (by omega)]
    show _ = ((M + t : Nat) : Int) - 9223372036854775808
    omega
  · rw [if_neg hn] at hs1
    rw [decide_eq_false hn, if_pos (by omega)]
    show _ = ((M + t : Nat) : Int)
    omega
theorem mid_law (b : Int) : I64 (midP b) ∧ isFin (midP b) = true ∧ (fV (midP b)).natAbs ≤ 2 ^ (53 + 1077) := by
  have hT := fT_lt b
  obtain ⟨k, hk, hk2⟩ : ∃ k, (b / 4503599627370496 % 256).toNat = k ∧ k < 256 := ⟨_, rfl, by omega⟩
  unfold midP
  rw [hk]
  have e : (823 + k) * 4503599627370496 + fT b = (822 + k) * 4503599627370496 + (4503599627370496 + fT b) := by omega
  rw [e]
  obtain ⟨f1, f2⟩ := fV_pat (decide (b < 0)) (j := 822 + k) (k := 4503599627370496 + fT b) (by omega) (by omega) (by omega)
  refine ⟨pat_I64 (by omega), f1, ?_⟩
  rw [f2, signed_abs]
  have h1 := p2le (a := 822 + k) (b := 1077) (by omega)
  have h2 : 4503599627370496 + fT b ≤ 2 ^ 53 := by have : (2 : Nat) ^ 53 = 9007199254740992 := by decide
                                                   omega
  exact Nat.le_trans (Nat.mul_le_mul h2 h1) (Nat.le_of_eq (Nat.pow_add 2 53 1077).symm)
/-- An expansion of floats of at most 2^b. -/
structure Good (b : Nat) (xs : List Int) : Prop where
  fin : ∀ x ∈ xs, isFin x = true ∧ (fV x).natAbs ≤ 2 ^ b
  val : vZ 0 (xs.map fV)
theorem Good.nil {b : Nat} : Good b [] := ⟨fun x hx => (by cases hx), trivial⟩
theorem Good.mono {a b : Nat} {xs : List Int} (G : Good a xs) (h : a ≤ b) : Good b xs :=
  ⟨fun x hx => ⟨(G.fin x hx).1, Nat.le_trans (G.fin x hx).2 (Nat.pow_le_pow_right (by decide) h)⟩, G.val⟩
theorem Good.valid {b : Nat} {xs : List Int} (G : Good b xs) (h : xs.length ≤ 4096) : validP xs = true := by
  unfold validP
  rw [decide_eq_true h, Bool.true_and]
  exact vOk_iff.2 ⟨fun x hx => (G.fin x hx).1, G.val⟩
theorem dv_zero (x : Int) : Dv 0 x := ⟨x, by rw [Nat.pow_zero]; omega⟩
theorem grow_good {b : Nat} {xs : List Int} {q : Int} (G : Good b xs) (fq : isFin q = true) (hq : (fV q).natAbs ≤ 2 ^ b) (hb : b + xs.length + 2 < 2091) :
    ∃ l, growP [] q xs = some l ∧ Good (b + xs.length + 2) l ∧ (l.map fV).sum = fV q + (xs.map fV).sum ∧ l.length ≤ xs.length + 1 := by
  have hp : (fV q).natAbs + 2 * 2 ^ b ≤ 2 ^ (b + 2) := by rw [Nat.pow_add]; omega
  have hm : 2 ^ xs.length * ((fV q).natAbs + 2 * 2 ^ b) ≤ 2 ^ (b + xs.length + 2) := by
    rw [show b + xs.length + 2 = xs.length + (b + 2) by omega, Nat.pow_add]
    exact Nat.mul_le_mul_left _ hp
  have hlt := p2lt (a := b + xs.length + 2) (b := 46 + 2045) hb
  obtain ⟨l, l1, l2, l3⟩ := growP_law (K := 2045) (Nat.le_refl _) (Bd := 2 ^ b) (out := []) fq G.fin (Nat.lt_of_le_of_lt hm hlt)
  rw [List.nil_append] at l1
  refine ⟨l, l1, ⟨fun y hy => ⟨(l2 y hy).1, Nat.le_trans (l2 y hy).2 hm⟩, ?_⟩, ?_, ?_⟩
  · rw [l3]
    refine growZ_valid G.val (fun x hx => ?_) (fl_fV q) ⟨0, by decide, dv_zero _⟩
    obtain ⟨y, _, rfl⟩ := List.mem_map.1 hx
    exact fl_fV y
  · rw [l3, growZ_sum]
  · have := growP_len l1
    rw [List.length_nil] at this; omega
end Go.Proofs
set_option linter.unusedVariables false
namespace Go.Proofs
open Go Go.Eng
variable {B : World} {R : Ending → Heap → Prop} {h : Heap}
theorem ansOf_ok {l : List Int} (h : l.length ≤ 4096) : ansOf (some l) = (l, 0) := if_pos h
theorem growAns_good {b : Nat} {es l : List Int} {q : Int} (G : Good b es) (hl : es.length ≤ 4000) (fq : isFin q = true) (e : growP [] q es = some l) : growAns es q = (l, 0) := by
  have hlen := growP_len e
  rw [List.length_nil] at hlen
  rw [growAns_ok (G.valid (by omega)) fq, growRef_eq, e, ansOf_ok (by omega)]
/-- plumblaw7.made. -/
theorem K38 {p : Option Addr} {n c : Nat} {xs : List Int} (lim : Nat) (ht : TabH h) (I : IntsH h p xs) (hn : xs.length = n) (hlim : lim ≤ 20)
    (H : ∀ q m c' es h', Ext h h' → Lj h h' q m c' es → Good (1130 + 30 * lim) es → es.length ≤ lim → R (.returned (.tuple #[.slice q m c', .bool true])) h') :
    Ent Tryz.prog B 4 #[.slice p n c, .int .i64 (lim : Int)] R h := by
  refine F38_ok _ _ _ _ ?_
  refine ⟨fun k vs h' => match vs with
    | [.slice p1 n1 c1, .int _ y, .slice z zn zc, .int _ i] => p1 = p ∧ n1 = n ∧ c1 = c ∧ y = (lim : Int) ∧ ∃ j : Nat, i = (j : Int) ∧ j ≤ lim ∧ k = lim - j ∧ Ext h h' ∧ ∃ es, Lj h h' z zn zc es ∧ Good (1130 + 30 * j) es ∧ es.length ≤ j
    | _ => False, lim, ⟨rfl, rfl, rfl, rfl, 0, rfl, by omega, by omega, Fr.rfl', [], Lj.nil, Good.nil, by simp⟩, ?_⟩
  rintro k h1 _ _ _ _ z zn zc _ ⟨rfl, rfl, rfl, rfl, j, rfl, hj, rfl, F, es, L, G, hes⟩ _
  have done : R (.returned (.tuple #[.slice z zn zc, .bool true])) h1 := H z zn zc es h1 F L (G.mono (by omega)) (by omega)
  refine ⟨fun e => ⟨fun e2 => ?_, fun _ => done⟩, fun _ => ⟨fun e => (by cases e), fun _ => done⟩⟩
  have hjn : j < xs.length := by have := of_decide_eq_true e; omega
  have hjl : j < lim := by have := of_decide_eq_true e2; omega
  refine (I.ext F).get hn hjn ((I.ext F).get hn hjn ⟨by decide, by decide, ?_⟩)
  rw [mid_bits (I.1 _ (List.getElem_mem hjn))]
  obtain ⟨m1, m2, m3⟩ := mid_law xs[j]
  have hp := p2le (a := 53 + 1077) (b := 1130 + 30 * j) (by omega)
  obtain ⟨l, l1, l2, l3, l4⟩ := grow_good G m2 (Nat.le_trans m3 hp) (by omega)
  refine K34 (ht.ext F) L.ints L.len m1 ?_
  rw [growAns_good G (by omega) m2 l1]
  intro q' m' c' h2 f2 L2
  refine ⟨_, _, _, _, rfl, fun e3 => absurd e3 (by simp), fun _ => ⟨lim - (j + 1), by omega, rfl, rfl, rfl, rfl, j + 1, ?_, by omega, rfl, Ext.trans F f2, l, L2.base F.size, l2.mono (by omega), by omega⟩⟩
  rw [i64_in (by omega) (by omega)]; rfl
end Go.Proofs
set_option linter.unusedVariables false
namespace Go.Proofs
open Go Go.Eng
variable {B : World} {R : Ending → Heap → Prop} {h : Heap}
/-- plumblaw7.value, of an expansion. -/
theorem K39 {p : Option Addr} {n c : Nat} {xs : List Int} (ht : TabH h) (I : IntsH h p xs) (hn : xs.length = n) (hv : validP xs = true)
    (H : ∀ neg q m c' e h', Ext h h' → Fresh h q → NumS 1074 h' neg q m e (xs.map fV).sum → R (.returned (.tuple #[.agg #[.bool neg, .slice q m c', .int .i64 e], .bool true])) h') : Ent Tryz.prog B 6 #[.slice p n c] R h := by
  refine F39_ok _ _ _ (alK fun r1 h1 e1 f1 o1 z1 => K95 (ht.ext f1) (I.ext f1) hn (fun _ neg q m c' e h2 f2 fr rm le N => ⟨_, _, _, _, _, _, rfl, ?_⟩) fun k => by rw [hv] at k; cases k)
  have F2 := Ext.trans f1 f2
  refine lay3 fun r3 h3 f3 hr3 O3 => ?_
  have F3 := Ext.trans F2 f3
  refine ⟨r3, 0, rfl, _, O3.cell _, _, _, _, O3.cell _, _, O3.cell _, yes (decide_eq_true rfl) (K37 (I.ext F3) hn ⟨_, rfl, same3 O3 Fr.rfl' (S := fun _ => False) id, ?_⟩)⟩
  rw [hv]
  have s1 := f1.size
  have s2 := f2.size
  have O1 := (o1.ext f2).ext f3
  refine ⟨r1, 0, rfl, O1.stC (by simp) rfl fun oa fa => oa.stC (by simp) rfl fun ob fb => ob.stC (by simp) rfl fun oc fc => ⟨r1, 0, rfl, _, oc.cell _, _, _, _, oc.cell _, _, oc.cell _, ?_⟩⟩
  have fabc := Fr.trans (S := fun x => x = r1) (Fr.trans (S := fun x => x = r1) fa fb fun _ _ e => e) fc fun _ _ e => e
  exact H neg q m c' e _ (Fr.trans (S := fun _ => False) F3 fabc fun x hx e => by omega) (fr.mono s1) ((N.ext f3).fr fabc fun b o e k => by have := fr b o e; omega)
end Go.Proofs
