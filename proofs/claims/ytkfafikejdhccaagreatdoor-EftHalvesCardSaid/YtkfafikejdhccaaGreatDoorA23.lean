import Derived.Test.YtkfafikejdhccaaGreatDoorA17
import Derived.Test.YtkfafikejdhccaaGreatDoorA21
import Derived.Test.YtkfafikejdhccaaGreatDoorA22
/- Here stand lemmas: the walks of EftSums, EftAll and EftHonest. -/
set_option linter.unusedVariables false
namespace Go.Proofs
open Go Go.Eng
variable {B : World} {R : Ending → Heap → Prop} {h : Heap}
/-- bits.Class. -/
theorem K17 {b : Int} (H : R (.returned (.int .i64 (cls b))) h) : Ent Tryz.prog B 17 #[.int .i64 b] R h := by
  refine F17_ok _ ⟨by decide, ?_⟩
  rw [and_fE, and_fT]
  refine F53_ok _ _ _ ?_
  have dE : decide (((fE b : Nat) : Int) = 2047) = decide (fE b = 2047) := by rw [decide_eq_decide]; omega
  have dT : decide (((fT b : Nat) : Int) = 0) = decide (fT b = 0) := by rw [decide_eq_decide]; omega
  have dE0 : decide (((fE b : Nat) : Int) = 0) = decide (fE b = 0) := by rw [decide_eq_decide]; omega
  unfold F53 F53_j4 F53_j17 F53_j25 F53_j22 F53_j14 F53_j11
  rw [dE, dT, dE0]
  have Hc : ∀ x, x = cls b → ∃ x6, Value.int .i64 x = Value.int .i64 x6 ∧ R (.returned (.int .i64 x6)) h := by
    rintro x rfl; exact ⟨_, rfl, H⟩
  unfold cls at Hc
  by_cases h1 : fE b = 2047
  · by_cases h2 : fT b = 0
    · simp only [h1, h2, decide_true]
      exact ⟨fun _ => ⟨fun e => (by cases e), fun _ => ⟨fun _ => Hc _ (by simp [h1, h2]), fun e => (by cases e)⟩⟩, fun e => (by cases e)⟩
    · simp only [h1, h2, decide_true, decide_false]
      exact ⟨fun _ => ⟨fun _ => Hc _ (by simp [h1, h2]), fun e => (by cases e)⟩, fun e => (by cases e)⟩
  · refine ⟨fun e => absurd (of_decide_eq_true e) h1, fun _ => ⟨fun e => (by cases e), fun _ => ⟨fun e => absurd (of_decide_eq_true e) h1, fun _ => ⟨fun e => ?_, fun e => ?_⟩⟩⟩⟩
    · have h0 := of_decide_eq_true e
      by_cases h2 : fT b = 0
      · exact ⟨fun _ => Hc _ (by simp [h0, h2]), fun e => absurd h2 (of_decide_eq_false e)⟩
      · have : 0 < fT b := by omega
        exact ⟨fun e => absurd (of_decide_eq_true e) h2, fun _ => ⟨fun _ => Hc _ (by simp [h0, this]), fun e => absurd h0 (of_decide_eq_false e)⟩⟩
    · have h0 := of_decide_eq_false e
      have : 0 < fE b := by omega
      exact ⟨fun e => (by cases e), fun _ => ⟨fun e => absurd (of_decide_eq_true e) h0, fun _ => Hc _ (by simp [h1, this])⟩⟩
theorem xor63 {w : Nat} (h : w < 18446744073709551616) : w ^^^ 9223372036854775808 = if w < 9223372036854775808 then w + 9223372036854775808 else w - 9223372036854775808 := by
  have hd := Nat.xor_div_two_pow (a := w) (b := 9223372036854775808) (n := 63)
  have hm := Nat.xor_mod_two_pow (a := w) (b := 9223372036854775808) (n := 63)
  have e1 : 9223372036854775808 / 2 ^ 63 = 1 := by decide
  have e2 : 9223372036854775808 % 2 ^ 63 = 0 := by decide
  rw [e1] at hd
  rw [e2, Nat.xor_zero] at hm
  by_cases hw : w < 9223372036854775808
  · have : w / 2 ^ 63 = 0 := by omega
    rw [this, show 0 ^^^ 1 = 1 from rfl] at hd
    rw [if_pos hw]; omega
  · have : w / 2 ^ 63 = 1 := by omega
    rw [this, show 1 ^^^ 1 = 0 from rfl] at hd
    rw [if_neg hw]; omega
theorem bitsI_flip {b : Int} (hb : I64 b) : bitsI .xor .i64 b (-9223372036854775808 : Int) = if b < 0 then b + 9223372036854775808 else b - 9223372036854775808 := by
  unfold I64 at hb
  have h1 : bitsI .xor .i64 b (-9223372036854775808 : Int) = IntKind.i64.wrap (((BitVec.ofInt 64 b ^^^ BitVec.ofInt 64 (-9223372036854775808 : Int)).toNat : Nat) : Int) := rfl
  rw [h1, BitVec.toNat_xor, BitVec.toNat_ofInt, BitVec.toNat_ofInt]
  have e1 : ((-9223372036854775808 : Int) % ((2 ^ 64 : Nat) : Int)).toNat = 9223372036854775808 := by decide
  have e2 : (b % ((2 ^ 64 : Nat) : Int)).toNat = (b % 18446744073709551616).toNat := rfl
  rw [e1, e2, xor63 (by omega)]
  have e : ∀ y : Int, IntKind.i64.wrap y = if (true && decide (y % 18446744073709551616 ≥ 9223372036854775808)) = true then y % 18446744073709551616 - 18446744073709551616 else y % 18446744073709551616 := fun y => rfl
  rw [e]
  simp only [Bool.true_and, decide_eq_true_eq]
  split <;> split <;> split <;> omega
/-- bits.Neg. -/
theorem K99 {b : Int} (hb : I64 b) (H : R (.returned (.int .i64 (negP b))) h) : Ent Tryz.prog B 99 #[.int .i64 b] R h := by
  refine F99_ok _ (K17 ⟨_, rfl, ?_⟩)
  rw [cls_nan, bitsI_flip hb]
  unfold negP at H
  refine ⟨fun e => ?_, fun e => ?_⟩
  · rw [e] at H; exact H
  · rw [e] at H; exact H
def fstL (a b : Int) : Int := subP b (subP (addP a b) a)
theorem sumOk_nl (h l a b : Int) : sumOk h l (nrm a) (nrm b) = sumOk h l a b := by
  unfold sumOk
  rw [nrm_fin, nrm_fin]
  cases fa : isFin a
  · rfl
  · cases fb : isFin b
    · rfl
    · rw [fin_nrm fa, fin_nrm fb]
/-- eft.FastTwoSum. -/
theorem K20 {a b : Int} (ht : TabH h) (ha : I64 a) (hb : I64 b) (H : ∀ h', Ext h h' → R (.returned (.tuple #[.int .i64 (sumH a b), .int .i64 (fstL a b), .bool (sumOk (sumH a b) (fstL a b) a b)])) h') : Ent Tryz.prog B 20 #[.int .i64 a, .int .i64 b] R h := by
  have hx := wi_wd ha
  have hy := wi_wd hb
  refine F20_ok _ _ (K54 ⟨_, rfl, K54 ⟨_, rfl, (hx.add hy) fun f13 w13 => (w13.sub hx) fun f14 w14 => (hy.sub w14) fun f15 w15 => ?_⟩⟩)
  simp only [addP_nl, addP_nr, subP_nl, subP_nr] at w13 w15
  refine K56 w13 ⟨_, rfl, K56 w15 ⟨_, rfl, K57 ht w13 w15 hx hy fun h' f => ⟨_, rfl, ?_⟩⟩⟩
  rw [sumOk_nl]
  exact H h' f
theorem negP_I64 {b : Int} (hb : I64 b) : I64 (negP b) := by
  unfold I64 at *
  unfold negP
  have : NaNP = 9221120237041090561 := rfl
  split
  · rw [this]; decide
  · split <;> omega
/-- eft.TwoDiff. -/
theorem K70 {a b : Int} (ht : TabH h) (ha : I64 a) (hb : I64 b) (H : ∀ h', Ext h h' → R (.returned (.tuple #[.int .i64 (sumH a (negP b)), .int .i64 (sumL a (negP b)), .bool (sumOk (sumH a (negP b)) (sumL a (negP b)) a (negP b))])) h') : Ent Tryz.prog B 70 #[.int .i64 a, .int .i64 b] R h :=
  F70_ok _ _ (K99 hb ⟨_, rfl, K18 ht ha (negP_I64 hb) fun h' f => ⟨_, _, _, rfl, H h' f⟩⟩)
/-- plumbref6.TwoDiff. -/
theorem K71 {a b : Int} (ha : I64 a) (hb : I64 b) (H : ∀ h', Ext h h' → R (.returned (.tuple #[.int .i64 (sumH a (negP b)), .int .i64 (sumL a (negP b)), .bool (sumOk (sumH a (negP b)) (sumL a (negP b)) a (negP b))])) h') : Ent Tryz.prog B 71 #[.int .i64 a, .int .i64 b] R h :=
  F71_ok _ _ (K134 hb ⟨_, rfl, K69 ha (negP_I64 hb) fun h' f => ⟨_, _, _, rfl, H h' f⟩⟩)
/-- plumbref6.FastTwoSum. -/
theorem K72 {a b : Int} (ha : I64 a) (hb : I64 b) (H : ∀ h', Ext h h' → R (.returned (.tuple #[.int .i64 (sumH a b), .int .i64 (fstL a b), .bool (sumOk (sumH a b) (fstL a b) a b)])) h') : Ent Tryz.prog B 72 #[.int .i64 a, .int .i64 b] R h := by
  refine F72_ok _ _ (K132 ha hb fun h1 f1 => ⟨_, rfl, K110 (addP_I64 _ _) ha fun h2 f2 => ⟨_, rfl, K110 hb (subP_I64 _ _) fun h3 f3 => ⟨_, rfl, K111 ha hb ⟨_, rfl, fun e => ?_, fun e => ?_⟩⟩⟩⟩)
  · have F := Ext.trans f1 (Ext.trans f2 f3)
    obtain ⟨fa, fb⟩ := Bool.and_eq_true_iff.1 e
    refine K114 ha fa fun n1 p1 l1 c1 e3 h7 f7 _ N1 => ⟨_, _, _, _, _, rfl, K114 hb fb fun n2 p2 l2 c2 e4 h8 f8 _ N2 => ⟨_, _, _, _, _, rfl, K133 (N1.ext f8) N2 (by decide) (by have := fV_bl fa; omega) (by have := fV_bl fb; omega) fun n3 p3 l3 c3 e5 h9 f9 N3 => ⟨_, _, _, _, _, rfl, ?_⟩⟩⟩
    refine K112 (addP_I64 _ _) (subP_I64 _ _) N3 (by decide) (by decide) fun h' f => ⟨_, rfl, ?_⟩
    have := H h' (Ext.trans F (Ext.trans f7 (Ext.trans f8 (Ext.trans f9 f))))
    unfold sumOk at this
    rw [fa, fb] at this
    exact this
  · have F := Ext.trans f1 (Ext.trans f2 f3)
    have := H _ F
    unfold sumOk at this
    rw [e] at this
    exact this
/-- plumblaw6.summed. -/
theorem K25 {a b : Int} (ht : TabH h) (ha : I64 a) (hb : I64 b) (H : ∀ h', Ext h h' → R (.returned (.bool true)) h') : Ent Tryz.prog B 25 #[.int .i64 a, .int .i64 b] R h := by
  have d0 : ∀ x : Int, (!decide (x = x)) = false := fun x => by simp
  have b0 : ∀ x : Bool, (!(x == x)) = false := fun x => by simp
  have d1 : ∀ x : Int, decide (x = x) = true := fun x => by simp
  have b1 : ∀ x : Bool, (x == x) = true := fun x => by simp
  refine F25_ok _ _ (K18 ht ha hb fun h1 f1 => ⟨_, _, _, rfl, K69 ha hb fun h2 f2 => ⟨_, _, _, rfl, ?_⟩⟩)
  rw [d0, d0, b0]
  refine ⟨fun e => (by cases e), fun _ => ⟨fun e => (by cases e), fun _ => ⟨fun e => (by cases e), fun _ => ?_⟩⟩⟩
  have F2 := Ext.trans f1 f2
  refine K70 (ht.ext F2) ha hb fun h3 f3 => ⟨_, _, _, rfl, K71 ha hb fun h4 f4 => ⟨_, _, _, rfl, ?_⟩⟩
  rw [d0, d0, b0]
  refine ⟨fun e => (by cases e), fun _ => ⟨fun e => (by cases e), fun _ => ⟨fun e => (by cases e), fun _ => ?_⟩⟩⟩
  have F4 := Ext.trans F2 (Ext.trans f3 f4)
  refine K20 (ht.ext F4) ha hb fun h5 f5 => ⟨_, _, _, rfl, K72 ha hb fun h6 f6 => ⟨_, _, _, rfl, ?_⟩⟩
  rw [d1, d1, b1]
  exact ⟨fun _ => ⟨fun _ => H h6 (Ext.trans F4 (Ext.trans f5 f6)), fun e => by cases e⟩, fun e => by cases e⟩
/-- plumblaw6.EftSums. -/
theorem K5 {a b : Int} (ht : TabH h) (ha : I64 a) (hb : I64 b) (H : ∀ h', Ext h h' → R (.returned (.bool true)) h') : Ent Tryz.prog B 5 #[.int .i64 a, .int .i64 b] R h := by
  refine F5_ok _ _ (K15 ht fun h1 f1 => ⟨_, rfl, fun _ => K25 (ht.ext f1) ha hb fun h2 f2 => ⟨_, rfl, fun _ => K25 (ht.ext (Ext.trans f1 f2)) hb ha fun h3 f3 => ⟨_, rfl, H h3 (Ext.trans f1 (Ext.trans f2 f3))⟩, fun e => (by cases e)⟩, fun e => (by cases e)⟩)
end Go.Proofs
namespace Go.Proofs
open Go Go.Eng
variable {B : World} {R : Ending → Heap → Prop} {h : Heap}
/-- A slice of pairs of whole numbers that only is read. -/
def PairsH (h : Heap) (p : Option Addr) (n : Nat) : Prop :=
  ∀ i, i < n → ∃ r q, p = some ⟨r, q, none⟩ ∧ r < h.size ∧ ∃ x y, I64 x ∧ I64 y ∧ cell? h ⟨r, q + i * 2, none⟩ = some (.int .i64 x) ∧ cell? h ⟨r, q + i * 2 + 1, none⟩ = some (.int .i64 y)
theorem cell_ext {h h' : Heap} (f : Ext h h') {r o : Nat} (hr : r < h.size) : cell? h' ⟨r, o, none⟩ = cell? h ⟨r, o, none⟩ := by
  unfold cell?; rw [f.same r hr id]
theorem PairsH.ext {h h' : Heap} {p : Option Addr} {n : Nat} (H : PairsH h p n) (f : Ext h h') : PairsH h' p n := by
  intro i hi
  obtain ⟨r, q, e, hr, x, y, ix, iy, c1, c2⟩ := H i hi
  exact ⟨r, q, e, Nat.lt_of_lt_of_le hr f.size, x, y, ix, iy, (cell_ext f hr).trans c1, (cell_ext f hr).trans c2⟩
/-- plumblaw6.EftAll. -/
theorem K6 {p : Option Addr} {n c : Nat} (ht : TabH h) (hp : PairsH h p n) (H : ∀ h', Ext h h' → R (.returned (.bool true)) h') : Ent Tryz.prog B 6 #[.slice p n c] R h := by
  refine F6_ok _ _ _ ⟨fun m vs h' => match vs with
    | [.slice p1 n1 c1, .int _ i] => p = p1 ∧ n = n1 ∧ c = c1 ∧ Ext h h' ∧ ∃ j : Nat, i = (j : Int) ∧ j ≤ n ∧ m = n - j
    | _ => False, n, ⟨rfl, rfl, rfl, Fr.rfl', 0, rfl, by omega, rfl⟩, ?_⟩
  rintro m h1 _ _ _ _ ⟨rfl, rfl, rfl, f1, j, rfl, hj, rfl⟩ _
  have last : F6_j8 B R (fun m vs h' => match vs with
    | [.slice p1 n1 c1, .int _ i] => p = p1 ∧ n = n1 ∧ c = c1 ∧ Ext h h' ∧ ∃ j : Nat, i = (j : Int) ∧ j ≤ n ∧ m = n - j
    | _ => False) (n - j) p n c (j : Int) false h1 :=
    ⟨fun e => (by cases e), fun _ => K15 (ht.ext f1) fun h2 f2 => ⟨_, rfl, H h2 (Ext.trans f1 f2)⟩⟩
  refine ⟨fun e => ?_, fun _ => last⟩
  have hjn : j < n := by have := of_decide_eq_true e; omega
  by_cases h60 : ((j : Nat) : Int) < 60
  · rw [decide_eq_true h60]
    refine ⟨fun _ => ?_, fun e => (by cases e)⟩
    obtain ⟨r, q, rfl, hr, x, y, ix, iy, c1, c2⟩ := hp.ext f1 j hjn
    refine ⟨r, q, rfl, by omega, by omega, r, _, rfl, r, _, rfl, x, by rw [Int.toNat_natCast]; exact c1, r, q, rfl, by omega, by omega, r, _, rfl, r, _, rfl, y, by rw [Int.toNat_natCast]; exact c2, ?_⟩
    refine K25 (ht.ext f1) ix iy fun h2 f2 => ⟨_, rfl, fun e => (by cases e), fun _ => ?_⟩
    refine ⟨r, q, rfl, by omega, by omega, r, _, rfl, r, _, rfl, y, by rw [Int.toNat_natCast]; exact (cell_ext f2 hr).trans c2, r, q, rfl, by omega, by omega, r, _, rfl, r, _, rfl, x, by rw [Int.toNat_natCast]; exact (cell_ext f2 hr).trans c1, ?_⟩
    refine K16 (ht.ext (Ext.trans f1 f2)) iy ix fun h3 f3 => ⟨_, rfl, fun e => (by cases e), fun _ => ⟨n - (j + 1), by omega, rfl, rfl, rfl, Ext.trans f1 (Ext.trans f2 f3), j + 1, ?_, by omega, rfl⟩⟩
    rw [i64_in (by omega) (by omega)]; rfl
  · rw [decide_eq_false h60]
    exact last
end Go.Proofs
namespace Go.Proofs
open Go Go.Eng
variable {B : World} {R : Ending → Heap → Prop} {h : Heap}
/-- bits.Parts, of what is not finite. -/
theorem K63n {b : Int} (hf : isFin b = false) (H : R (.returned (.tuple #[.bool false, .int .i64 (0 : Int), .int .i64 (0 : Int), .bool false])) h) : Ent Tryz.prog B 63 #[.int .i64 b] R h := by
  refine F63_ok _ ?_
  unfold F63
  rw [and_fE]
  have hE : fE b = 2047 := by unfold isFin at hf; have := of_decide_eq_false hf; have := fE_lt b; omega
  rw [hE]
  exact ⟨by decide, fun _ => H, fun e => absurd e (by decide)⟩
/-- dyadic.Of, of what is not finite. -/
theorem K21n {b : Int} (hf : isFin b = false) (H : ∀ h', Ext h h' → R (.returned (.tuple #[.agg #[.bool false, .slice none 0 0, .int .i64 (0 : Int)], .int .i64 (10 : Int)])) h') :
    Ent Tryz.prog B 21 #[.int .i64 b] R h := by
  refine F21_ok _ (alK fun r2 h3 e2 f2 o2 z2 => alK fun r4 h5 e4 f4 o4 z4 => K63n hf ⟨_, _, _, _, rfl, F64_ok _ _ _ _ (alK fun r5 h6 e5 f5 o5 z5 => ⟨fun _ => ⟨Ent62, ?_⟩, fun e => (by cases e)⟩)⟩)
  refine K62p (o4.ext f5) fun h7 f7 O4 => ?_
  have O2 : Own h7 r2 #[.bool false, .slice none 0 0, .int .i64 (0 : Int)] := ((o2.ext f4).ext f5).fr f7 (by omega)
  refine ⟨r2, 0, rfl, _, O2.cell _, _, _, _, O2.cell _, _, O2.cell _, r4, 0, rfl, _, O4.cell _, H h7 ?_⟩
  exact Fr.trans (Ext.trans f2 (Ext.trans f4 f5)) f7 fun x hx e => by omega
/-- dyadic.Of. -/
theorem K21g {b : Int} (ht : TabH h) (H : ∀ neg p n c e err h', Ext h h' → (isFin b = true → err = 0 ∧ NumS 1074 h' neg p n e (fV b)) → (isFin b = false → err = 10) → R (.returned (.tuple #[.agg #[.bool neg, .slice p n c, .int .i64 e], .int .i64 err])) h') :
    Ent Tryz.prog B 21 #[.int .i64 b] R h := by
  cases hf : isFin b
  · exact K21n hf fun h' f => H _ _ _ _ _ _ h' f (fun e => by rw [hf] at e; cases e) fun _ => rfl
  · exact K21 ht hf fun neg p n c e h' f _ N => H neg p n c e 0 h' f (fun _ => ⟨rfl, N⟩) fun e => by rw [hf] at e; cases e
/-- plumblaw6.together. -/
theorem K24 {a b x : Int} {K n c : Nat} {neg : Bool} {p : Option Addr} {e : Int} (ht : TabH h) (N : NumS K h neg p n e x) (hK1 : 1074 ≤ K) (hK : K ≤ 10000) (hx : bl x.natAbs ≤ 50000)
    (H : ∀ h', Ext h h' → R (.returned (.bool (justP K a b x))) h') : Ent Tryz.prog B 24 #[.int .i64 a, .int .i64 b, .agg #[.bool neg, .slice p n c, .int .i64 e]] R h := by
  refine F24_ok _ _ _ _ _ _ _ (alK fun r6 h7 e6 f6 o6 z6 => K21g (ht.ext f6) fun n1 p1 l1 c1 e1 err1 h9 f9 A1 A2 => ⟨_, _, _, _, _, _, rfl, alK fun r16 h17 e16 f16 o16 z16 => ⟨r16, 0, rfl, ?_⟩⟩)
  refine o16.stL (by simp) rfl fun _ a1 g1 => a1.stL (by simp) rfl fun _ a2 g2 => a2.stL (by simp) rfl fun h22 a3 g3 => ?_
  have k22 := Fr.trans (S := fun x => x = r16) (Fr.trans (S := fun x => x = r16) g1 g2 fun _ _ e => e) g3 fun _ _ e => e
  have A22 : Own h22 r16 #[.bool n1, .slice p1 l1 c1, .int .i64 e1] := a3
  have F22 : Ext h9 h22 := Fr.trans f16 k22 fun x hx e => by omega
  have FA := Ext.trans f6 (Ext.trans f9 F22)
  refine K21g (ht.ext FA) fun n2 p2 l2 c2 e2 err2 h24 f24 B1 B2 => ⟨_, _, _, _, _, _, rfl, alK fun r31 h32 e31 f31 o31 z31 => ⟨r31, 0, rfl, ?_⟩⟩
  refine o31.stL (by simp) rfl fun _ b1 g1 => b1.stL (by simp) rfl fun _ b2 g2 => b2.stL (by simp) rfl fun h37 b3 g3 => ?_
  have k37 := Fr.trans (S := fun x => x = r31) (Fr.trans (S := fun x => x = r31) g1 g2 fun _ _ e => e) g3 fun _ _ e => e
  have A37 : Own h37 r31 #[.bool n2, .slice p2 l2 c2, .int .i64 e2] := b3
  have F37 : Ext h24 h37 := Fr.trans f31 k37 fun x hx e => by omega
  have FB := Ext.trans FA (Ext.trans f24 F37)
  have no : (isFin a && isFin b) = false → F24_j38 B R (some ⟨r6, 0, none⟩) (some ⟨r16, 0, none⟩) (some ⟨r31, 0, none⟩) true h37 := by
    intro e
    refine ⟨fun _ => ?_, fun e => (by cases e)⟩
    have := H h37 FB
    unfold justP at this
    rw [e] at this
    exact this
  cases fa : isFin a
  · have := A2 fa
    subst this
    exact ⟨fun _ => no (by rw [fa]; rfl), fun e => absurd e (by decide)⟩
  obtain ⟨rfl, M1⟩ := A1 fa
  refine ⟨fun e => absurd e (by decide), fun _ => ?_⟩
  cases fb : isFin b
  · have := B2 fb
    subst this
    exact no (by rw [fb, Bool.and_false])
  obtain ⟨rfl, M2⟩ := B1 fb
  refine ⟨fun e => absurd e (by decide), fun _ => ?_⟩
  have O16 : Own h37 r16 #[.bool n1, .slice p1 l1 c1, .int .i64 e1] := (A22.ext f24).ext F37
  refine ⟨r16, 0, rfl, _, O16.cell _, _, _, _, O16.cell _, _, O16.cell _, r31, 0, rfl, _, A37.cell _, _, _, _, A37.cell _, _, A37.cell _, ?_⟩
  have v1 := fV_bl fa
  have v2 := fV_bl fb
  refine K22 (ht.ext FB) ((M1.ext F22).ext (Ext.trans f24 F37)) (M2.ext F37) (by decide) (by omega) (by omega) fun n3 p3 l3 c3 e3 h55 f55 _ N3 => ⟨_, _, _, _, _, _, rfl, alK fun r62 h63 e62 f62 o62 z62 => ⟨r62, 0, rfl, ?_⟩⟩
  refine o62.stL (by simp) rfl fun _ d1 g1 => d1.stL (by simp) rfl fun _ d2 g2 => d2.stL (by simp) rfl fun h68 d3 g3 => ?_
  have k68 := Fr.trans (S := fun x => x = r62) (Fr.trans (S := fun x => x = r62) g1 g2 fun _ _ e => e) g3 fun _ _ e => e
  have A68 : Own h68 r62 #[.bool n3, .slice p3 l3 c3, .int .i64 e3] := d3
  have F68 : Ext h55 h68 := Fr.trans f62 k68 fun x hx e => by omega
  have FC := Ext.trans FB (Ext.trans f55 F68)
  have O6 : Own h68 r6 #[.bool neg, .slice p n c, .int .i64 e] := o6.ext (Ext.trans (Ext.trans f9 F22) (Ext.trans (Ext.trans f24 F37) (Ext.trans f55 F68)))
  refine ⟨r62, 0, rfl, _, A68.cell _, _, _, _, A68.cell _, _, A68.cell _, r6, 0, rfl, _, O6.cell _, _, _, _, O6.cell _, _, O6.cell _, ?_⟩
  have N3' := (N3.ext F68).up (K - 1074)
  rw [show 1074 + (K - 1074) = K by omega] at N3'
  have hbig : bl ((fV a + fV b) * ((2 ^ (K - 1074) : Nat) : Int)).natAbs ≤ 50000 := by
    rw [Int.natAbs_mul, Int.natAbs_natCast]
    by_cases h0 : (fV a + fV b).natAbs = 0
    · rw [h0, Nat.zero_mul]; decide
    · rw [bl_scale _ h0]
      have := bl_add v1 v2
      omega
  refine K28 N3' (N.ext FC) (by omega) hbig hx fun h80 f80 => ⟨_, _, rfl, ?_⟩
  have H' := H h80 (Ext.trans FC f80)
  unfold justP at H'
  rw [fa, fb, Bool.true_and, Bool.true_and] at H'
  have hd : decide (((fV a + fV b) * ((2 ^ (K - 1074) : Nat) : Int) - x).sign = 0) = decide ((fV a + fV b) * ((2 ^ (K - 1074) : Nat) : Int) = x) := by
    rw [decide_eq_decide, Int.sign_eq_zero_iff_zero]; omega
  show R (.returned (.bool (decide (_ = (0 : Int))))) h80
  rw [hd]; exact H'
end Go.Proofs
namespace Go.Proofs
open Go Go.Eng
variable {B : World} {R : Ending → Heap → Prop} {h : Heap}
theorem cls_no (b : Int) : decide ((2 : Int) < cls b) = !isFin b := by
  rw [← cls_fin]
  by_cases h : cls b < 3
  · rw [decide_eq_true h, decide_eq_false (by omega)]; rfl
  · rw [decide_eq_false h, decide_eq_true (by omega)]; rfl
theorem honest_no {a b : Int} (ht : TabH h) (ha : I64 a) (hb : I64 b) (hf : (isFin a && isFin b) = false) (H : ∀ h', Ext h h' → R (.returned (.bool true)) h') : F4_j8 B R a b true h := by
  refine ⟨fun _ => ?_, fun e => (by cases e)⟩
  refine K18 ht ha hb fun h1 f1 => ⟨_, _, _, rfl, K19 (ht.ext f1) ha hb fun h2 f2 => ⟨_, _, _, rfl, K20 (ht.ext (Ext.trans f1 f2)) ha hb fun h3 f3 => ⟨_, _, _, rfl, ?_⟩⟩⟩
  have F3 := Ext.trans f1 (Ext.trans f2 f3)
  have n1 : ∀ x y, sumOk x y a b = false := fun x y => by unfold sumOk; rw [hf]; rfl
  have n2 : prdOk a b = false := by unfold prdOk; rw [hf]; rfl
  rw [n1, n1, n2]
  exact K15 (ht.ext F3) fun h4 f4 => ⟨_, rfl, fun _ => ⟨fun _ => ⟨fun _ => H h4 (Ext.trans F3 f4), fun e => (by cases e)⟩, fun e => (by cases e)⟩, fun e => (by cases e)⟩
theorem beq_self (x : Bool) : (x == x) = true := by cases x <;> rfl
/-- plumblaw6.EftHonest. -/
theorem K4 {a b : Int} (ht : TabH h) (ha : I64 a) (hb : I64 b) (H : ∀ h', Ext h h' → R (.returned (.bool true)) h') : Ent Tryz.prog B 4 #[.int .i64 a, .int .i64 b] R h := by
  refine F4_ok _ _ (K17 ⟨_, rfl, ?_⟩)
  rw [cls_no]
  cases fa : isFin a
  · exact ⟨fun _ => honest_no ht ha hb (by rw [fa]; rfl) H, fun e => (by cases e)⟩
  refine ⟨fun e => (by cases e), fun _ => K17 ⟨_, rfl, ?_⟩⟩
  rw [cls_no]
  cases fb : isFin b
  · exact honest_no ht ha hb (by rw [fb, Bool.and_false]) H
  refine ⟨fun e => (by cases e), fun _ => ?_⟩
  have v1 := fV_bl fa
  have v2 := fV_bl fb
  refine K21 ht fa fun n1 p1 l1 c1 e1 h43 f43 _ N1 => ⟨_, _, _, _, _, _, rfl, alK fun r50 h51 e51 f51 o51 z51 => ⟨r50, 0, rfl, ?_⟩⟩
  refine o51.stL (by simp) rfl fun _ a1 g1 => a1.stL (by simp) rfl fun _ a2 g2 => a2.stL (by simp) rfl fun h56 a3 g3 => ?_
  have k56 := Fr.trans (S := fun x => x = r50) (Fr.trans (S := fun x => x = r50) g1 g2 fun _ _ e => e) g3 fun _ _ e => e
  have A56 : Own h56 r50 #[.bool n1, .slice p1 l1 c1, .int .i64 e1] := a3
  have F56 : Ext h43 h56 := Fr.trans f51 k56 fun x hx e => by omega
  have FA := Ext.trans f43 F56
  refine K21 (ht.ext FA) fb fun n2 p2 l2 c2 e2 h58 f58 _ N2 => ⟨_, _, _, _, _, _, rfl, alK fun r65 h66 e66 f66 o66 z66 => ⟨r65, 0, rfl, ?_⟩⟩
  refine o66.stL (by simp) rfl fun _ b1 g1 => b1.stL (by simp) rfl fun _ b2 g2 => b2.stL (by simp) rfl fun h71 b3 g3 => ?_
  have k71 := Fr.trans (S := fun x => x = r65) (Fr.trans (S := fun x => x = r65) g1 g2 fun _ _ e => e) g3 fun _ _ e => e
  have A71 : Own h71 r65 #[.bool n2, .slice p2 l2 c2, .int .i64 e2] := b3
  have F71 : Ext h58 h71 := Fr.trans f66 k71 fun x hx e => by omega
  have O50 : Own h71 r50 #[.bool n1, .slice p1 l1 c1, .int .i64 e1] := (A56.ext f58).ext F71
  have FB := Ext.trans FA (Ext.trans f58 F71)
  refine ⟨r50, 0, rfl, _, O50.cell _, _, _, _, O50.cell _, _, O50.cell _, r65, 0, rfl, _, A71.cell _, _, _, _, A71.cell _, _, A71.cell _, ?_⟩
  have M1 := (N1.ext F56).ext (Ext.trans f58 F71)
  have M2 := N2.ext F71
  refine K22 (ht.ext FB) M1 M2 (by decide) (by omega) (by omega) fun n3 p3 l3 c3 e3 h83 f83 _ N3 => ⟨_, _, _, _, _, _, rfl, alK fun r90 h91 e91 f91 o91 z91 => ⟨r90, 0, rfl, ?_⟩⟩
  refine o91.stL (by simp) rfl fun _ d1 g1 => d1.stL (by simp) rfl fun _ d2 g2 => d2.stL (by simp) rfl fun h96 d3 g3 => ?_
  have k96 := Fr.trans (S := fun x => x = r90) (Fr.trans (S := fun x => x = r90) g1 g2 fun _ _ e => e) g3 fun _ _ e => e
  have A96 : Own h96 r90 #[.bool n3, .slice p3 l3 c3, .int .i64 e3] := d3
  have F96 : Ext h83 h96 := Fr.trans f91 k96 fun x hx e => by omega
  have G1 := Ext.trans f83 F96
  have FC := Ext.trans FB G1
  have O50' := O50.ext G1
  have O65' := A71.ext G1
  refine ⟨r50, 0, rfl, _, O50'.cell _, _, _, _, O50'.cell _, _, O50'.cell _, r65, 0, rfl, _, O65'.cell _, _, _, _, O65'.cell _, _, O65'.cell _, ?_⟩
  refine K23 (ht.ext FC) (M1.ext G1) (M2.ext G1) (by decide) (by omega) (by omega) (fV_small a) fun n4 p4 l4 c4 e4 h108 f108 _ N4 => ⟨_, _, _, _, _, _, rfl, alK fun r115 h116 e116 f116 o116 z116 => ⟨r115, 0, rfl, ?_⟩⟩
  refine o116.stL (by simp) rfl fun _ q1 g1 => q1.stL (by simp) rfl fun _ q2 g2 => q2.stL (by simp) rfl fun h121 q3 g3 => ?_
  have k121 := Fr.trans (S := fun x => x = r115) (Fr.trans (S := fun x => x = r115) g1 g2 fun _ _ e => e) g3 fun _ _ e => e
  have A121 : Own h121 r115 #[.bool n4, .slice p4 l4 c4, .int .i64 e4] := q3
  have F121 : Ext h108 h121 := Fr.trans f116 k121 fun x hx e => by omega
  have FD := Ext.trans FC (Ext.trans f108 F121)
  have O90 := (A96.ext f108).ext F121
  have N3' := (N3.ext F96).ext (Ext.trans f108 F121)
  have N4' := N4.ext F121
  have s1 : ∀ x y, sumOk x y a b = justP 1074 x y (fV a + fV b) := fun x y => by unfold sumOk; rw [fa, fb]; rfl
  have s2 : prdOk a b = justP 2148 (prdH a b) (prdL a b) (fV a * fV b) := by unfold prdOk; rw [fa, fb]; rfl
  refine K18 (ht.ext FD) ha hb fun h123 f123 => ⟨_, _, _, rfl, K15 (ht.ext (Ext.trans FD f123)) fun h130 f130 => ⟨_, rfl, fun e => (by cases e), fun _ => ?_⟩⟩
  rw [s1]
  have G2 := Ext.trans f123 f130
  have O90' := O90.ext G2
  have FE := Ext.trans FD G2
  refine ⟨r90, 0, rfl, _, O90'.cell _, _, _, _, O90'.cell _, _, O90'.cell _, K24 (ht.ext FE) (N3'.ext G2) (by decide) (by decide) (Nat.le_trans (bl_add v1 v2) (by decide)) fun h181 f181 => ⟨_, rfl, ?_⟩⟩
  rw [beq_self]
  refine ⟨fun e => (by cases e), fun _ => ?_⟩
  have FF := Ext.trans FE f181
  refine K20 (ht.ext FF) ha hb fun h142 f142 => ⟨_, _, _, rfl, ?_⟩
  rw [s1]
  have G3 := Ext.trans f181 f142
  have O90'' := O90'.ext G3
  have FG := Ext.trans FE G3
  refine ⟨r90, 0, rfl, _, O90''.cell _, _, _, _, O90''.cell _, _, O90''.cell _, K24 (ht.ext FG) ((N3'.ext G2).ext G3) (by decide) (by decide) (Nat.le_trans (bl_add v1 v2) (by decide)) fun h154 f154 => ⟨_, rfl, ?_⟩⟩
  rw [beq_self]
  refine ⟨fun e => (by cases e), fun _ => ?_⟩
  have FH := Ext.trans FG f154
  refine K19 (ht.ext FH) ha hb fun h159 f159 => ⟨_, _, _, rfl, ?_⟩
  rw [s2]
  have G4 := Ext.trans G2 (Ext.trans G3 (Ext.trans f154 f159))
  have O115 := A121.ext G4
  refine ⟨r115, 0, rfl, _, O115.cell _, _, _, _, O115.cell _, _, O115.cell _, K24 (ht.ext (Ext.trans FH f159)) (N4'.ext G4) (by decide) (by decide) (Nat.le_trans (bl_mul v1 v2) (by decide)) fun h171 f171 => ⟨_, rfl, ?_⟩⟩
  rw [beq_self]
  exact H h171 (Ext.trans FH (Ext.trans f159 f171))
end Go.Proofs
