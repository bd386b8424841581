import Derived.Test.YtoclhdcpjlcdiaaGreatFmtA13
import Derived.Test.YtoclhdcpjlcdiaaGreatFmtA22
import Derived.Test.YtoclhdcpjlcdiaaGreatFmtA03
import Derived.Test.YtoclhdcpjlcdiaaGreatFmtA23
/- Here stand lemmas: dyadic and eft: contracts. -/
set_option linter.unusedVariables false
namespace Go.Proofs
open Go Go.Eng
variable {B : World} {R : Ending → Heap → Prop} {h : Heap}
theorem and_i64 {x : Int} {m : Nat} (hm : m < 4611686018427387904) : bitsI .and .i64 x (m : Int) = (((x % 18446744073709551616).toNat &&& m : Nat) : Int) := by
  have h1 : bitsI .and .i64 x (m : Int) = IntKind.i64.wrap (((BitVec.ofInt 64 x &&& BitVec.ofInt 64 (m : Int)).toNat : Nat) : Int) := rfl
  rw [h1, BitVec.toNat_and, BitVec.toNat_ofInt, BitVec.toNat_ofInt]
  have e1 : ((m : Int) % ((2 ^ 64 : Nat) : Int)).toNat = m := by omega
  have e2 : (x % ((2 ^ 64 : Nat) : Int)).toNat = (x % 18446744073709551616).toNat := rfl
  rw [e1, e2]
  have : (x % 18446744073709551616).toNat &&& m ≤ m := Nat.and_le_right
  exact i64_nat (by omega)
theorem and_fT (b : Int) : bitsI .and .i64 b (4503599627370495 : Int) = (fT b : Int) := by
  have := and_i64 (x := b) (m := 4503599627370495) (by decide)
  rw [show ((4503599627370495 : Nat) : Int) = 4503599627370495 from rfl] at this
  rw [this, show (b % 18446744073709551616).toNat &&& 4503599627370495 = (b % 18446744073709551616).toNat % 2 ^ 52 from Nat.and_two_pow_sub_one_eq_mod _ 52]
  unfold fT; omega
theorem and_fE (b : Int) : bitsI .and .i64 (Int.fdiv b (2 ^ min (Int.toNat (52 : Int)) IntKind.i64.bits)) (2047 : Int) = (fE b : Int) := by
  have e0 : Int.fdiv b (2 ^ min (Int.toNat (52 : Int)) IntKind.i64.bits) = b / 4503599627370496 := by
    have : min (Int.toNat (52 : Int)) IntKind.i64.bits = 52 := by decide
    rw [this, Int.fdiv_eq_ediv_of_nonneg _ (by decide)]; rfl
  have := and_i64 (x := b / 4503599627370496) (m := 2047) (by decide)
  rw [show ((2047 : Nat) : Int) = 2047 from rfl] at this
  rw [e0, this, show (b / 4503599627370496 % 18446744073709551616).toNat &&& 2047 = (b / 4503599627370496 % 18446744073709551616).toNat % 2 ^ 11 from Nat.and_two_pow_sub_one_eq_mod _ 11]
  unfold fE; omega
theorem or_fM (t : Nat) (ht : t < 4503599627370496) : bitsI .or .i64 (t : Int) (4503599627370496 : Int) = ((4503599627370496 + t : Nat) : Int) := by
  have h1 : bitsI .or .i64 (t : Int) (4503599627370496 : Int) = IntKind.i64.wrap (((BitVec.ofInt 64 (t : Int) ||| BitVec.ofInt 64 ((4503599627370496 : Nat) : Int)).toNat : Nat) : Int) := rfl
  rw [h1, ofInt_nat, ofInt_nat, BitVec.toNat_or, BitVec.toNat_ofNat, BitVec.toNat_ofNat, Nat.mod_eq_of_lt (by omega : t < 2 ^ 64), Nat.mod_eq_of_lt (by omega : 4503599627370496 < 2 ^ 64)]
  have e : t ||| 4503599627370496 = 4503599627370496 + t := by
    rw [Nat.or_comm]
    have := or_add (a := 1) (b := t) (s := 52) ht
    rw [Nat.one_mul] at this
    exact this
  rw [e, i64_nat (by omega)]
/-- bits.Parts, of what is finite. -/
theorem K63 {b : Int} (hf : isFin b = true) (H : R (.returned (.tuple #[.bool (decide (b < 0)), .int .i64 (fM b : Int), .int .i64 (fX b), .bool true])) h) : Ent Tryz.prog B 99 #[.int .i64 b] R h := by
  refine F63_ok _ ?_
  unfold F63
  rw [and_fE, and_fT]
  have hE : fE b < 2047 := by unfold isFin at hf; exact of_decide_eq_true hf
  have hT := fT_lt b
  unfold fM fX at H
  refine ⟨by decide, fun e => by have := of_decide_eq_true e; omega, fun _ => ⟨fun e => ?_, fun e => ?_⟩⟩
  · have h0 : fE b = 0 := by have := of_decide_eq_true e; omega
    rw [if_pos h0, if_pos h0] at H
    exact H
  · have h0 : fE b ≠ 0 := by have := of_decide_eq_false e; omega
    rw [if_neg h0, if_neg h0] at H
    rw [or_fM _ hT, i64_in (by omega) (by omega)]
    exact H
theorem Ent62 : Enters Tryz.prog 98 := enters_of Tryz.func98 (by kernel_rfl) (by kernel_rfl)
/-- What a call of dyadic ends with: a number is laid, nothing is given up. -/
theorem numEnd {r2 r4 n c : Nat} {x0 x1 x2 y0 : Value} {neg : Bool} {p : Option Addr} {e : Int} (O2 : Own h r2 #[x0, x1, x2]) (O4 : Own h r4 #[y0]) (hne : r2 ≠ r4)
    (H : ∀ h', Fr (fun x => x = r2 ∨ x = r4) h h' → R (.returned (.tuple #[.agg #[.bool neg, .slice p n c, .int .i64 e], .int .i64 (0 : Int)])) h') :
    isP (some ⟨r2, 0, none⟩) fun b47 o48 => stC h b47 o48 (.bool neg) fun h49 =>
 stC h49 b47 (o48 + 1) (.slice p n c) fun h50 =>
 stC h50 b47 (o48 + 1 + 1) (.int .i64 e) fun h51 =>
 isP (some ⟨r4, 0, none⟩) fun b52 o53 => stC h51 b52 o53 (.int .i64 (0 : Int)) fun h54 =>
 Enters Tryz.prog 98 ∧ FnD Tryz.prog B 98 #[.pointer (some ⟨r4, 0, none⟩)] .returning (dfE fun u55 h56 => lvW (fun h57 => isP (some ⟨r2, 0, none⟩) fun b60 o61 =>
∃ x62, cell? h57 ⟨b60, o61, none⟩ = some (.bool x62) ∧
∃ x63 x63n x63c, cell? h57 ⟨b60, o61 + 1, none⟩ = some (.slice x63 x63n x63c) ∧
∃ x64, cell? h57 ⟨b60, o61 + 1 + 1, none⟩ = some (.int .i64 x64) ∧
 isP (some ⟨r4, 0, none⟩) fun b65 o66 => ∃ x67, cell? h57 ⟨b65, o66, none⟩ = some (.int .i64 x67) ∧
 R (.returned (.tuple #[.agg #[.bool x62, .slice x63 x63n x63c, .int .i64 x64], .int .i64 x67])) h57) (fun ch59 h58 => R (.panicked ch59) h58) u55 h56) h54 := by
  refine ⟨r2, 0, rfl, O2.stL (by simp) rfl fun _ a1 g1 => a1.stL (by simp) rfl fun _ a2 g2 => a2.stL (by simp) rfl fun h3 a3 g3 => ⟨r4, 0, rfl, ?_⟩⟩
  have k := Fr.trans (S := fun x => x = r2) (Fr.trans (S := fun x => x = r2) g1 g2 fun _ _ e => e) g3 fun _ _ e => e
  refine (O4.fr k (show ¬ r4 = r2 from fun e => hne e.symm)).stL (by simp) rfl fun h4 a4 g4 => ⟨Ent62, K62r ?_⟩
  have A3 : Own h4 r2 #[.bool neg, .slice p n c, .int .i64 e] := a3.fr g4 hne
  have A4 : Own h4 r4 #[.int .i64 (0 : Int)] := a4
  exact ⟨r2, 0, rfl, _, A3.cell _, _, _, _, A3.cell _, _, A3.cell _, r4, 0, rfl, _, A4.cell _, H h4 (Fr.trans (Fr.mono k fun _ _ e => .inl e) g4 fun _ _ e => .inr e)⟩
/-- dyadic.of, of finite parts. -/
theorem K64 {neg : Bool} {m : Nat} {e : Int} {K : Nat} (ht : TabH h) (hm : m < 4611686018427387904) (he : 0 ≤ e + (K : Int)) (hb : bl (Ieee.signed neg m (e + (K : Int)).toNat).natAbs ≤ 60000) (hK : K ≤ 1048576)
    (H : ∀ neg' p n c e' h', Ext h h' → Fresh h p → NumS K h' neg' p n e' (Ieee.signed neg m (e + (K : Int)).toNat) → R (.returned (.agg #[.bool neg', .slice p n c, .int .i64 e'])) h') :
    Ent Tryz.prog B 100 #[.bool neg, .int .i64 (m : Int), .int .i64 e, .bool true] R h := by
  refine F64_ok _ _ _ _ (alK fun r h6 e5 f5 o5 z5 => ⟨fun e => (by cases e), fun _ => ?_⟩)
  have main : ∀ v : Int, (v = if neg then -(m : Int) else (m : Int)) → F64_j7 B R v e (some ⟨r, 0, none⟩) h6 := by
    intro v hv
    have hs : v * 2 ^ (e + (K : Int)).toNat = Ieee.signed neg m (e + (K : Int)).toNat := by
      rw [hv]
      unfold Ieee.signed
      rw [Nat.shiftLeft_eq]
      have h1 : (2 : Int) ^ (e + (K : Int)).toNat = ((2 ^ (e + (K : Int)).toNat : Nat) : Int) := by rw [Int.natCast_pow]; rfl
      rw [h1]
      cases neg
      · simp only [Bool.false_eq_true, if_false, Int.natCast_mul]
      · simp only [if_true, Int.natCast_mul, Int.neg_mul]
    refine K120 (by rw [hv]; split <;> omega) (by rw [hv]; split <;> omega) fun r2 q2 h13 f13 g1 g2 g3 I => ⟨_, rfl, ?_⟩
    refine K65 (ht.ext (Ext.trans f5 f13)) I he hs.symm hb hK fun neg' p n c e' h18 f18 fr18 N => ⟨_, _, _, _, _, rfl, ?_⟩
    have s13 := f13.size
    refine ret3 ((o5.ext f13).ext f18) fun h' f => ?_
    exact H neg' p n c e' h' (Fr.trans (Ext.trans f5 (Ext.trans f13 f18)) f fun x hx e => by omega) (fr18.mono (by omega)) (N.fr f fun b o e e2 => by have := fr18 b o e; omega)
  cases neg
  · exact ⟨fun e => (by cases e), fun _ => main _ rfl⟩
  · refine ⟨fun _ => ?_, fun e => (by cases e)⟩
    rw [i64_in (by omega) (by omega)]
    exact main _ (by simp)
/-- dyadic.Of, of what is finite. -/
theorem K21 {b : Int} (ht : TabH h) (hf : isFin b = true) (H : ∀ neg p n c e h', Ext h h' → Fresh h p → NumS 1074 h' neg p n e (fV b) → R (.returned (.tuple #[.agg #[.bool neg, .slice p n c, .int .i64 e], .int .i64 (0 : Int)])) h') :
    Ent Tryz.prog B 68 #[.int .i64 b] R h := by
  refine F21_ok _ (alK fun r2 h3 e2 f2 o2 z2 => alK fun r4 h5 e4 f4 o4 z4 => K63 hf ⟨_, _, _, _, rfl, ?_⟩)
  have hX := fX_ge b
  have hM := fM_lt b
  have hv : Ieee.signed (decide (b < 0)) (fM b) (fX b + ((1074 : Nat) : Int)).toNat = fV b := rfl
  have hbl := fV_bl hf
  have F5 := Ext.trans f2 f4
  refine K64 (K := 1074) (ht.ext F5) (by omega) (by omega) (by rw [hv]; omega) (by decide) fun neg p n c e h28 f28 fr28 N => ⟨_, _, _, _, _, rfl, ?_⟩
  rw [hv] at N
  refine numEnd ((o2.ext f4).ext f28) (o4.ext f28) (by omega) fun h' f => ?_
  exact H neg p n c e h' (Fr.trans (Ext.trans F5 f28) f fun x hx e => by omega) (fr28.mono (by omega)) (N.fr f fun b o e e3 => by have := fr28 b o e; omega)
end Go.Proofs
namespace Go.Proofs
open Go Go.Eng
variable {B : World} {R : Ending → Heap → Prop} {h : Heap}
/-- A word that is told as the pattern i. -/
def WI (w : Nat) (i : Int) : Prop := w < 18446744073709551616 ∧ nrm (sg w) = i
theorem wi_wd {a : Int} (ha : I64 a) : WI (wd a) (nrm a) := ⟨wd_lt a, by rw [sg_wd ha]⟩
theorem WI.add {x y : Nat} {i j : Int} {K : Nat → Prop} (hx : WI x i) (hy : WI y j) (H : ∀ z, WI z (addP i j) → K z) : flW .f64 (FloatKind.f64.format.add x y) x y K :=
  fadd_in hx.1 hy.1 fun z h1 h2 => H z ⟨h1, by rw [h2, hx.2, hy.2]⟩
theorem WI.sub {x y : Nat} {i j : Int} {K : Nat → Prop} (hx : WI x i) (hy : WI y j) (H : ∀ z, WI z (subP i j) → K z) : flW .f64 (FloatKind.f64.format.sub x y) x y K :=
  fsub_in hx.1 hy.1 fun z h1 h2 => H z ⟨h1, by rw [h2, hx.2, hy.2]⟩
theorem WI.mul {x y : Nat} {i j : Int} {K : Nat → Prop} (hx : WI x i) (hy : WI y j) (H : ∀ z, WI z (mulP i j) → K z) : flW .f64 (FloatKind.f64.format.mul x y) x y K :=
  fmul_in hx.1 hy.1 fun z h1 h2 => H z ⟨h1, by rw [h2, hx.2, hy.2]⟩
theorem nrm_nan (a : Int) : isNaN (nrm a) = isNaN a := by
  unfold nrm; split
  · rename_i h; rw [h]; exact isNaN_NaNP
  · rfl
theorem nrm_inf (a : Int) : isInf (nrm a) = isInf a := by
  unfold nrm; split
  · rename_i h; rw [nan_inf h]; exact isInf_NaNP
  · rfl
theorem fin_eq (a : Int) : isFin a = (!isNaN a && !isInf a) := by
  have := fE_lt a
  unfold isFin isNaN isInf
  by_cases h1 : fE a = 2047
  · by_cases h2 : fT a = 0 <;> simp [h1, h2]
  · have h3 : fE a < 2047 := by omega
    simp [h1, h3]
theorem nrm_fin (a : Int) : isFin (nrm a) = isFin a := by rw [fin_eq, fin_eq, nrm_nan, nrm_inf]
theorem WI.fin {w : Nat} {i : Int} (h : WI w i) : isFin (sg w) = isFin i := by rw [← h.2, nrm_fin]
theorem WI.nan {w : Nat} {i : Int} (h : WI w i) : isNaN (sg w) = isNaN i := by rw [← h.2, nrm_nan]
theorem WI.eq {w : Nat} {i : Int} (h : WI w i) (hn : isNaN i = false) : sg w = i := by
  have := h.2
  unfold nrm at this
  rw [h.nan, hn] at this
  exact this
theorem WI.i64 {w : Nat} {i : Int} (h : WI w i) : I64 i := by
  have := h.2
  unfold nrm at this
  split at this
  · rw [← this]; exact NaNP_I64
  · rw [← this]; exact sg_I64 h.1
/-- bits.Float. -/
theorem K54 {a : Int} (H : R (.returned (.float .f64 (wd a))) h) : Ent Tryz.prog B 8 #[.int .i64 a] R h := by
  have e : IntKind.u64.wrap a = ((wd a : Nat) : Int) := by
    have e0 : IntKind.u64.wrap a = a % 18446744073709551616 := rfl
    rw [e0]; unfold wd; omega
  refine F54_ok _ ?_
  unfold F54
  rw [e]
  exact E116 ⟨_, rfl, H⟩
/-- bits.Of. -/
theorem K56 {w : Nat} {i : Int} (hw : WI w i) (H : R (.returned (.int .i64 i)) h) : Ent Tryz.prog B 10 #[.float .f64 w] R h := by
  have ho : (FloatKind.f64.format.order w w != some .eq) = isNaN (sg w) := order_self hw.1
  refine F56_ok _ ⟨fun e => ?_, fun e => ?_⟩
  · rw [ho] at e
    have : i = NaNP := by rw [← hw.2]; unfold nrm; rw [if_pos e]
    rw [this] at H; exact H
  · rw [ho] at e
    refine E117 ⟨_, rfl, ?_⟩
    have : IntKind.i64.wrap (w : Int) = sg w := by
      have e0 : IntKind.i64.wrap (w : Int) = if (true && decide ((w : Int) % 18446744073709551616 ≥ 9223372036854775808)) = true then (w : Int) % 18446744073709551616 - 18446744073709551616 else (w : Int) % 18446744073709551616 := rfl
      have := hw.1
      rw [e0]
      unfold sg
      simp only [Bool.true_and, decide_eq_true_eq]
      split <;> split <;> omega
    rw [this, hw.eq (by rw [← hw.nan]; exact e)]
    exact H
end Go.Proofs
