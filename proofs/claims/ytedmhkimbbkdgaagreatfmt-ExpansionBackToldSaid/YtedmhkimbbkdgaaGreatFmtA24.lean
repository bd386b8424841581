import Derived.Test.YtedmhkimbbkdgaaGreatFmtA13
import Derived.Test.YtedmhkimbbkdgaaGreatFmtA22
import Derived.Test.YtedmhkimbbkdgaaGreatFmtA20
import Derived.Test.YtedmhkimbbkdgaaGreatFmtA23
/- Here stand lemmas: dyadic and eft: contracts. -/
set_option linter.unusedVariables false
namespace Go.Proofs
open Go Go.Eng
variable {B : World} {R : Ending → Heap → Prop} {h : Heap}
theorem and_i64 {x : Int} {m : Nat} (hm : m < 4611686018427387904) : bitsI .and .i64 x (m : Int) = (((x % 18446744073709551616).toNat &&& m : Nat) : Int) := by
  have h1 : bitsI .and .i64 x (m : Int) = IntKind.i64.wrap (((BitVec.ofInt 64 x &&& BitVec.ofInt 64 (m : Int)).toNat : Nat) : Int) := rfl
  rw [h1, BitVec.toNat_and, BitVec.toNat_ofInt, BitVec.toNat_ofInt]
  have e1 : ((m : Int) % ((2 ^ 64 : Nat) : Int)).toNat = m := by omega
  have e2 : (x % ((2 ^ 64 : Nat) : Int)).toNat = (x % 18446744073709551616).toNat := rfl
  rw [e1, e2]
  have : (x % 18446744073709551616).toNat &&& m ≤ m := Nat.and_le_right
  exact i64_nat (by omega)
theorem and_fT (b : Int) : bitsI .and .i64 b (4503599627370495 : Int) = (fT b : Int) := by
  have := and_i64 (x := b) (m := 4503599627370495) (by decide)
  rw [show ((4503599627370495 : Nat) : Int) = 4503599627370495 from rfl] at this
  rw [this, show (b % 18446744073709551616).toNat &&& 4503599627370495 = (b % 18446744073709551616).toNat % 2 ^ 52 from Nat.and_two_pow_sub_one_eq_mod _ 52]
  unfold fT; omega
theorem and_fE (b : Int) : bitsI .and .i64 (Int.fdiv b (2 ^ min (Int.toNat (52 : Int)) IntKind.i64.bits)) (2047 : Int) = (fE b : Int) := by
  have e0 : Int.fdiv b (2 ^ min (Int.toNat (52 : Int)) IntKind.i64.bits) = b / 4503599627370496 := by
    have : min (Int.toNat (52 : Int)) IntKind.i64.bits = 52 := by decide
    rw [this, Int.fdiv_eq_ediv_of_nonneg _ (by decide)]; rfl
  have := and_i64 (x := b / 4503599627370496) (m := 2047) (by decide)
  rw [show ((2047 : Nat) : Int) = 2047 from rfl] at this
  rw [e0, this, show (b / 4503599627370496 % 18446744073709551616).toNat &&& 2047 = (b / 4503599627370496 % 18446744073709551616).toNat % 2 ^ 11 from Nat.and_two_pow_sub_one_eq_mod _ 11]
  unfold fE; omega
theorem or_fM (t : Nat) (ht : t < 4503599627370496) : bitsI .or .i64 (t : Int) (4503599627370496 : Int) = ((4503599627370496 + t : Nat) : Int) := by
  have h1 : bitsI .or .i64 (t : Int) (4503599627370496 : Int) = IntKind.i64.wrap (((BitVec.ofInt 64 (t : Int) ||| BitVec.ofInt 64 ((4503599627370496 : Nat) : Int)).toNat : Nat) : Int) := rfl
  rw [h1, ofInt_nat, ofInt_nat, BitVec.toNat_or, BitVec.toNat_ofNat, BitVec.toNat_ofNat, Nat.mod_eq_of_lt (by omega : t < 2 ^ 64), Nat.mod_eq_of_lt (by omega : 4503599627370496 < 2 ^ 64)]
  have e : t ||| 4503599627370496 = 4503599627370496 + t := by
    rw [Nat.or_comm]
    have := or_add (a := 1) (b := t) (s := 52) ht
    rw [Nat.one_mul] at this
    exact this
  rw [e, i64_nat (by omega)]
/-- bits.Parts, of what is finite. -/
theorem K63 {b : Int} (hf : isFin b = true) (H : R (.returned (.tuple #[.bool (decide (b < 0)), .int .i64 (fM b : Int), .int .i64 (fX b), .bool true])) h) : Ent Tryz.prog B 26 #[.int .i64 b] R h := by
  refine F63_ok _ ?_
  unfold F63
  rw [and_fE, and_fT]
  have hE : fE b < 2047 := by unfold isFin at hf; exact of_decide_eq_true hf
  have hT := fT_lt b
  unfold fM fX at H
  refine ⟨by decide, fun e => by have := of_decide_eq_true e; omega, fun _ => ⟨fun e => ?_, fun e => ?_⟩⟩
  · have h0 : fE b = 0 := by have := of_decide_eq_true e; omega
    rw [if_pos h0, if_pos h0] at H
    exact H
  · have h0 : fE b ≠ 0 := by have := of_decide_eq_false e; omega
    rw [if_neg h0, if_neg h0] at H
    rw [or_fM _ hT, i64_in (by omega) (by omega)]
    exact H
theorem Ent62 : Enters Tryz.prog 36 := enters_of Tryz.func36 (by kernel_rfl) (by kernel_rfl)
/-- What a call of dyadic ends with: a number is laid, nothing is given up. -/
theorem numEnd {r2 r4 n c : Nat} {x0 x1 x2 y0 : Value} {neg : Bool} {p : Option Addr} {e : Int} (O2 : Own h r2 #[x0, x1, x2]) (O4 : Own h r4 #[y0]) (hne : r2 ≠ r4)
    (H : ∀ h', Fr (fun x => x = r2 ∨ x = r4) h h' → R (.returned (.tuple #[.agg #[.bool neg, .slice p n c, .int .i64 e], .int .i64 (0 : Int)])) h') :
    isP (some ⟨r2, 0, none⟩) fun b47 o48 => stC h b47 o48 (.bool neg) fun h49 =>
 stC h49 b47 (o48 + 1) (.slice p n c) fun h50 =>
 stC h50 b47 (o48 + 1 + 1) (.int .i64 e) fun h51 =>
 isP (some ⟨r4, 0, none⟩) fun b52 o53 => stC h51 b52 o53 (.int .i64 (0 : Int)) fun h54 =>
 Enters Tryz.prog 36 ∧ FnD Tryz.prog B 36 #[.pointer (some ⟨r4, 0, none⟩)] .returning (dfE fun u55 h56 => lvW (fun h57 => isP (some ⟨r2, 0, none⟩) fun b60 o61 =>
∃ x62, cell? h57 ⟨b60, o61, none⟩ = some (.bool x62) ∧
∃ x63 x63n x63c, cell? h57 ⟨b60, o61 + 1, none⟩ = some (.slice x63 x63n x63c) ∧
∃ x64, cell? h57 ⟨b60, o61 + 1 + 1, none⟩ = some (.int .i64 x64) ∧
 isP (some ⟨r4, 0, none⟩) fun b65 o66 => ∃ x67, cell? h57 ⟨b65, o66, none⟩ = some (.int .i64 x67) ∧
 R (.returned (.tuple #[.agg #[.bool x62, .slice x63 x63n x63c, .int .i64 x64], .int .i64 x67])) h57) (fun ch59 h58 => R (.panicked ch59) h58) u55 h56) h54 := by
  refine ⟨r2, 0, rfl, O2.stL (by simp) rfl fun _ a1 g1 => a1.stL (by simp) rfl fun _ a2 g2 => a2.stL (by simp) rfl fun h3 a3 g3 => ⟨r4, 0, rfl, ?_⟩⟩
  have k := Fr.trans (S := fun x => x = r2) (Fr.trans (S := fun x => x = r2) g1 g2 fun _ _ e => e) g3 fun _ _ e => e
  refine (O4.fr k (show ¬ r4 = r2 from fun e => hne e.symm)).stL (by simp) rfl fun h4 a4 g4 => ⟨Ent62, K62r ?_⟩
  have A3 : Own h4 r2 #[.bool neg, .slice p n c, .int .i64 e] := a3.fr g4 hne
  have A4 : Own h4 r4 #[.int .i64 (0 : Int)] := a4
  exact ⟨r2, 0, rfl, _, A3.cell _, _, _, _, A3.cell _, _, A3.cell _, r4, 0, rfl, _, A4.cell _, H h4 (Fr.trans (Fr.mono k fun _ _ e => .inl e) g4 fun _ _ e => .inr e)⟩
/-- dyadic.of, of finite parts. -/
theorem K64 {neg : Bool} {m : Nat} {e : Int} {K : Nat} (ht : TabH h) (hm : m < 4611686018427387904) (he : 0 ≤ e + (K : Int)) (hb : bl (Ieee.signed neg m (e + (K : Int)).toNat).natAbs ≤ 60000) (hK : K ≤ 1048576)
    (H : ∀ neg' p n c e' h', Ext h h' → Fresh h p → NumS K h' neg' p n e' (Ieee.signed neg m (e + (K : Int)).toNat) → R (.returned (.agg #[.bool neg', .slice p n c, .int .i64 e'])) h') :
    Ent Tryz.prog B 37 #[.bool neg, .int .i64 (m : Int), .int .i64 e, .bool true] R h := by
  refine F64_ok _ _ _ _ (alK fun r h6 e5 f5 o5 z5 => ⟨fun e => (by cases e), fun _ => ?_⟩)
  have main : ∀ v : Int, (v = if neg then -(m : Int) else (m : Int)) → F64_j7 B R v e (some ⟨r, 0, none⟩) h6 := by
    intro v hv
    have hs : v * 2 ^ (e + (K : Int)).toNat = Ieee.signed neg m (e + (K : Int)).toNat := by
      rw [hv]
      unfold Ieee.signed
      rw [Nat.shiftLeft_eq]
      have h1 : (2 : Int) ^ (e + (K : Int)).toNat = ((2 ^ (e + (K : Int)).toNat : Nat) : Int) := by rw [Int.natCast_pow]; rfl
      rw [h1]
      cases neg
      · simp only [Bool.false_eq_true, if_false, Int.natCast_mul]
      · simp only [if_true, Int.natCast_mul, Int.neg_mul]
    refine K120 (by rw [hv]; split <;> omega) (by rw [hv]; split <;> omega) fun r2 q2 h13 f13 g1 g2 g3 I => ⟨_, rfl, ?_⟩
    refine K65 (ht.ext (Ext.trans f5 f13)) I he hs.symm hb hK fun neg' p n c e' h18 f18 fr18 N => ⟨_, _, _, _, _, rfl, ?_⟩
    have s13 := f13.size
    refine ret3 ((o5.ext f13).ext f18) fun h' f => ?_
    exact H neg' p n c e' h' (Fr.trans (Ext.trans f5 (Ext.trans f13 f18)) f fun x hx e => by omega) (fr18.mono (by omega)) (N.fr f fun b o e e2 => by have := fr18 b o e; omega)
  cases neg
  · exact ⟨fun e => (by cases e), fun _ => main _ rfl⟩
  · refine ⟨fun _ => ?_, fun e => (by cases e)⟩
    rw [i64_in (by omega) (by omega)]
    exact main _ (by simp)
/-- dyadic.Of, of what is finite. -/
theorem K21 {b : Int} (ht : TabH h) (hf : isFin b = true) (H : ∀ neg p n c e h', Ext h h' → Fresh h p → NumS 1074 h' neg p n e (fV b) → R (.returned (.tuple #[.agg #[.bool neg, .slice p n c, .int .i64 e], .int .i64 (0 : Int)])) h') :
    Ent Tryz.prog B 18 #[.int .i64 b] R h := by
  refine F21_ok _ (alK fun r2 h3 e2 f2 o2 z2 => alK fun r4 h5 e4 f4 o4 z4 => K63 hf ⟨_, _, _, _, rfl, ?_⟩)
  have hX := fX_ge b
  have hM := fM_lt b
  have hv : Ieee.signed (decide (b < 0)) (fM b) (fX b + ((1074 : Nat) : Int)).toNat = fV b := rfl
  have hbl := fV_bl hf
  have F5 := Ext.trans f2 f4
  refine K64 (K := 1074) (ht.ext F5) (by omega) (by omega) (by rw [hv]; omega) (by decide) fun neg p n c e h28 f28 fr28 N => ⟨_, _, _, _, _, rfl, ?_⟩
  rw [hv] at N
  refine numEnd ((o2.ext f4).ext f28) (o4.ext f28) (by omega) fun h' f => ?_
  exact H neg p n c e h' (Fr.trans (Ext.trans F5 f28) f fun x hx e => by omega) (fr28.mono (by omega)) (N.fr f fun b o e e3 => by have := fr28 b o e; omega)
theorem numL2 {K b n c n2 c2 : Nat} {neg neg2 : Bool} {p p2 : Option Addr} {e e2 v w : Int} (O : Own h b #[.bool neg, .slice p n c, .int .i64 e, .bool neg2, .slice p2 n2 c2, .int .i64 e2]) (N1 : NumS K h neg p n e v) (N2 : NumS K h neg2 p2 n2 e2 w) :
    NumL K h (some ⟨b, 0, none⟩) [v, w] := by
  refine .inr ⟨b, 0, _, rfl, O, fun i hi => ?_⟩
  match i, hi with
  | 0, _ => exact ⟨_, _, _, _, _, rfl, rfl, rfl, N1⟩
  | 1, _ => exact ⟨_, _, _, _, _, rfl, rfl, rfl, N2⟩
theorem take2_bl {v w : Int} {L : Nat} (hv : bl v.natAbs ≤ L) (hw : bl w.natAbs ≤ L) (i : Nat) : bl (([v, w].take i).sum).natAbs ≤ L + 1 := by
  match i with
  | 0 => have : bl (([v, w].take 0).sum).natAbs = 0 := rfl
         omega
  | 1 => have : (([v, w].take 1).sum) = v := by simp
         rw [this]; omega
  | i + 2 => have : (([v, w].take (i + 2)).sum) = v + w := by simp
             rw [this]; exact bl_add hv hw
/-- dyadic.Add. -/
theorem K22 {K n c n2 c2 : Nat} {neg neg2 : Bool} {p p2 : Option Addr} {e e2 v w : Int} (ht : TabH h) (N1 : NumS K h neg p n e v) (N2 : NumS K h neg2 p2 n2 e2 w) (hK : K ≤ 1048576) (hv : bl v.natAbs ≤ 50000) (hw : bl w.natAbs ≤ 50000)
    (H : ∀ neg' p' n' c' e' h', Ext h h' → Fresh h p' → NumS K h' neg' p' n' e' (v + w) → R (.returned (.tuple #[.agg #[.bool neg', .slice p' n' c', .int .i64 e'], .int .i64 (0 : Int)])) h') :
    Ent Tryz.prog B 114 #[.agg #[.bool neg, .slice p n c, .int .i64 e], .agg #[.bool neg2, .slice p2 n2 c2, .int .i64 e2]] R h := by
  refine F22_ok _ _ _ _ _ _ _ _ _ _ (alK fun r7 h8 e7 f7 o7 z7 => alK fun r9 h10 e9 f9 o9 z9 => alK fun r11 h12 e11 f11 o11 z11 => alK fun r13 h14 e13 f13 o13 z13 => ?_)
  have O7 := ((o7.ext f9).ext f11).ext f13
  have O9 := (o9.ext f11).ext f13
  refine ⟨r7, 0, rfl, _, O7.cell _, _, _, _, O7.cell _, _, O7.cell _, r9, 0, rfl, _, O9.cell _, _, _, _, O9.cell _, _, O9.cell _, alK fun r25 h26 e25 f25 o25 z25 => ?_⟩
  have F := Ext.trans f7 (Ext.trans f9 (Ext.trans f11 (Ext.trans f13 f25)))
  refine K67 (numL2 o25 (N1.ext F) (N2.ext F)) rfl (by decide) fun xs h28 f28 X => ⟨_, _, _, rfl, ?_⟩
  refine K66 X rfl (by decide) hK (fun i _ => Nat.le_trans (take2_bl hv hw i) (by decide)) (fun x hx => ?_) fun r q m e' h46 f46 I he hs => ⟨_, _, rfl, ?_⟩
  · rcases List.mem_cons.1 hx with e | hx
    · rw [e]; omega
    · rw [List.mem_singleton.1 hx]; omega
  have hsum : [v, w].sum = v + w := by simp
  rw [hsum] at hs
  refine K65 (ht.ext (Ext.trans F (Ext.trans f28 f46))) I he hs (Nat.le_trans (bl_add hv hw) (by decide)) hK fun neg' p' n' c' e' h65 f65 fr65 N => ⟨_, _, _, _, _, rfl, ?_⟩
  have FX := Ext.trans f25 (Ext.trans f28 (Ext.trans f46 f65))
  have s46 := (Ext.trans f25 (Ext.trans f28 f46)).size
  refine numEnd ((o11.ext f13).ext FX) (o13.ext FX) (by omega) fun h' f => ?_
  exact H neg' p' n' c' e' h' (Fr.trans (Ext.trans f7 (Ext.trans f9 (Ext.trans f11 (Ext.trans f13 FX)))) f fun x hx e => by omega) (fr65.mono (by omega)) (N.fr f fun b o e e3 => by have := fr65 b o e; omega)
/-- dyadic.Sum, of two. -/
theorem K119 {K c : Nat} {p : Option Addr} {v w : Int} (ht : TabH h) (N : NumL K h p [v, w]) (hK : K ≤ 1048576) (hv : bl v.natAbs ≤ 50000) (hw : bl w.natAbs ≤ 50000)
    (H : ∀ neg' p' n' c' e' h', Ext h h' → Fresh h p' → NumS K h' neg' p' n' e' (v + w) → R (.returned (.tuple #[.agg #[.bool neg', .slice p' n' c', .int .i64 e'], .int .i64 (0 : Int)])) h') :
    Ent Tryz.prog B 30 #[.slice p 2 c] R h := by
  refine F119_ok _ _ _ (alK fun r2 h3 e2 f2 o2 z2 => alK fun r4 h5 e4 f4 o4 z4 => ?_)
  have F := Ext.trans f2 f4
  refine K67 (N.ext F) rfl (by decide) fun xs h28 f28 X => ⟨_, _, _, rfl, ?_⟩
  refine K66 X rfl (by decide) hK (fun i _ => Nat.le_trans (take2_bl hv hw i) (by decide)) (fun x hx => ?_) fun r q m e' h46 f46 I he hs => ⟨_, _, rfl, ?_⟩
  · rcases List.mem_cons.1 hx with e | hx
    · rw [e]; omega
    · rw [List.mem_singleton.1 hx]; omega
  have hsum : [v, w].sum = v + w := by simp
  rw [hsum] at hs
  refine K65 (ht.ext (Ext.trans F (Ext.trans f28 f46))) I he hs (Nat.le_trans (bl_add hv hw) (by decide)) hK fun neg' p' n' c' e' h65 f65 fr65 N => ⟨_, _, _, _, _, rfl, ?_⟩
  have FX := Ext.trans f28 (Ext.trans f46 f65)
  have s46 := (Ext.trans f28 f46).size
  refine numEnd ((o2.ext f4).ext FX) (o4.ext FX) (by omega) fun h' f => ?_
  exact H neg' p' n' c' e' h' (Fr.trans (Ext.trans F FX) f fun x hx e => by omega) (fr65.mono (by omega)) (N.fr f fun b o e e3 => by have := fr65 b o e; omega)
end Go.Proofs
namespace Go.Proofs
open Go Go.Eng
variable {B : World} {R : Ending → Heap → Prop} {h : Heap}
theorem two_of {α : Type} {l : List α} (h : l.length = 2) : ∃ a b, l = [a, b] := by
  match l, h with
  | [a, b], _ => exact ⟨a, b, rfl⟩
/-- dyadic.Cmp. -/
theorem K28 {K n c n2 c2 : Nat} {neg neg2 : Bool} {p p2 : Option Addr} {e e2 v w : Int} (N1 : NumS K h neg p n e v) (N2 : NumS K h neg2 p2 n2 e2 w) (hK : K ≤ 1048576) (hv : bl v.natAbs ≤ 50000) (hw : bl w.natAbs ≤ 50000)
    (H : ∀ h', Ext h h' → R (.returned (.tuple #[.int .i64 (v - w).sign, .int .i64 (0 : Int)])) h') :
    Ent Tryz.prog B 21 #[.agg #[.bool neg, .slice p n c, .int .i64 e], .agg #[.bool neg2, .slice p2 n2 c2, .int .i64 e2]] R h := by
  refine F28_ok _ _ _ _ _ _ _ _ _ _ (alK fun r7 h8 e7 f7 o7 z7 => alK fun r9 h10 e9 f9 o9 z9 => alK fun r11 h12 e11 f11 o11 z11 => ?_)
  have O7 := (o7.ext f9).ext f11
  have O9 := o9.ext f11
  refine ⟨r7, 0, rfl, _, O7.cell _, _, _, _, O7.cell _, _, O7.cell _, r9, 0, rfl, _, O9.cell _, _, _, _, O9.cell _, _, O9.cell _, alK fun r23 h24 e23 f23 o23 z23 => ?_⟩
  have F := Ext.trans f7 (Ext.trans f9 (Ext.trans f11 f23))
  refine K67 (numL2 o23 (N1.ext F) (N2.ext F)) rfl (by decide) fun xs h26 f26 X => ⟨_, _, _, rfl, ?_⟩
  obtain ⟨x0, x1, rfl⟩ := two_of X.len
  obtain ⟨cs, Ob, hc⟩ := X.own
  obtain ⟨c10, c11⟩ := hc 1 (by simp)
  obtain ⟨⟨I0, y1, y2, y3, y5⟩, b0, b1⟩ := X.at_ 0 (by simp) (by simp)
  obtain ⟨⟨I1, w1, w2, w3, w5⟩, d0, d1⟩ := X.at_ 1 (by simp) (by simp)
  obtain ⟨a1, a2, a3, a4⟩ := X.apart 0 1 (by decide) (by simp)
  simp only [List.getElem_cons_zero, List.getElem_cons_succ] at c10 c11 I0 y1 y2 y3 y5 b0 b1 I1 w1 w2 w3 w5 d0 d1 a1 a2 a3 a4
  refine ⟨h24.size, 0, rfl, by decide, by decide, h24.size, _, rfl, h24.size, _, rfl, _, by rw [Ob.cell]; exact c10, h24.size, 0, rfl, by decide, by decide, h24.size, _, rfl, h24.size, _, rfl, _, by rw [Ob.cell]; exact c10, ?_⟩
  refine K74i I1 fun q' h53 f53 d53 I53 => ⟨_, rfl, ?_⟩
  have l1 := I1.lt
  have lq := I1.lq
  have lb := Ob.lt
  have nS : ∀ x, x < x1.r → x < x1.q → ¬ (x = x1.r ∨ Rm x1.r x1.q x) := fun x h1 h2 hh => by
    rcases hh with hh | hh
    · omega
    · have := hh.1; omega
  have hq' : x1.r ≤ q' ∨ x1.q ≤ q' := by
    rcases d53 with e | e | e
    · omega
    · have := e.1; omega
    · omega
  have X' : ExL K h53 h24.size [x0, ⟨x1.r, q', -x1.m, x1.e⟩] [v, -w] := by
    refine ⟨rfl, ⟨cs, Ob.fr f53 (nS _ d0 d1), fun i hi => ?_⟩, fun i hi hv => ?_, fun i j hij hj => ?_⟩
    · have hi' : i < 2 := hi
      rcases (by omega : i = 0 ∨ i = 1) with rfl | rfl
      · exact hc 0 (by simp)
      · exact hc 1 (by simp)
    · have hi' : i < 2 := hi
      rcases (by omega : i = 0 ∨ i = 1) with rfl | rfl
      · exact ⟨⟨I0.fr f53 (nS _ a1 a3) (nS _ a2 a4), y1, y2, y3, y5⟩, b0, b1⟩
      · refine ⟨⟨I53, w1, w2, ?_, ?_⟩, d0, by show h24.size < q'; rcases hq' with e | e <;> omega⟩
        · show -w = -x1.m * 2 ^ (x1.e + (K : Int)).toNat
          rw [Int.neg_mul, ← w3]
        · show -x1.m = 0 ∨ (-x1.m).natAbs % 2 = 1
          rw [Int.natAbs_neg]; omega
    · have hj' : j < 2 := hj
      have hi0 : i = 0 := by omega
      have hj1 : j = 1 := by omega
      subst hi0 hj1
      exact ⟨a1, a2, by show x0.r < q'; rcases hq' with e | e <;> omega, by show x0.q < q'; rcases hq' with e | e <;> omega⟩
  refine K66 X' rfl (by decide) hK (fun i _ => Nat.le_trans (take2_bl hv (by rw [Int.natAbs_neg]; exact hw) i) (by decide)) (fun x hx => ?_) fun r q m e' h64 f64 I he hs => ⟨_, _, rfl, ?_⟩
  · rcases List.mem_cons.1 hx with e | hx
    · rw [e]; omega
    · rw [List.mem_singleton.1 hx, Int.natAbs_neg]; omega
  have hsum : [v, -w].sum = v - w := by simp; omega
  rw [hsum] at hs
  refine K75 I ⟨_, rfl, r11, 0, rfl, ?_⟩
  have s26 := f26.size
  have F53 : Ext h24 h53 := Fr.trans f26 f53 fun x hx e => nS x (by omega) (by omega) e
  have O11 := ((o11.ext f23).ext F53).ext f64
  refine O11.stL (by simp) rfl fun h4 a4 g4 => ⟨Ent62, K62r ?_⟩
  have A4 : Own h4 r11 #[.int .i64 (0 : Int)] := a4
  refine ⟨r11, 0, rfl, _, A4.cell _, ?_⟩
  have hsg : m.sign = (v - w).sign := by
    rw [hs, Int.sign_mul, Int.sign_eq_one_of_pos (Int.pow_pos (by decide) : (0 : Int) < 2 ^ (e' + (K : Int)).toNat), Int.mul_one]
  rw [hsg]
  exact H h4 (Fr.trans (Ext.trans F (Ext.trans F53 f64)) g4 fun x hx e => by omega)
/-- Its odd part has at most 64 bits. -/
def small64 (v : Int) : Prop := ∀ m k : Nat, v.natAbs = m * 2 ^ k → m % 2 = 1 → bl m ≤ 64
theorem fV_small (b : Int) : small64 (fV b) := by
  intro m k hv hm
  have hV : (fV b).natAbs = fM b * 2 ^ (fX b + 1074).toNat := by unfold fV; rw [signed_abs]
  have hM := fM_lt b
  rw [bl_le_iff]
  by_cases h0 : fM b = 0
  · rw [h0, Nat.zero_mul] at hV
    rw [hV] at hv
    have : 0 < m * 2 ^ k := Nat.mul_pos (by omega) (Nat.pow_pos (by decide))
    omega
  · have key : m ≤ fM b := by
      have e := hv.symm.trans hV
      rcases Nat.le_total k (fX b + 1074).toNat with hk | hk
      · obtain ⟨d, hd⟩ := Nat.exists_eq_add_of_le hk
        rw [hd, Nat.pow_add, Nat.mul_comm (2 ^ k), ← Nat.mul_assoc] at e
        have e2 := Nat.eq_of_mul_eq_mul_right (Nat.pow_pos (by decide)) e
        cases d with
        | zero => rw [Nat.pow_zero, Nat.mul_one] at e2; omega
        | succ d => rw [Nat.pow_succ, ← Nat.mul_assoc] at e2; omega
      · obtain ⟨d, hd⟩ := Nat.exists_eq_add_of_le hk
        rw [hd, Nat.pow_add, Nat.mul_comm (2 ^ _), ← Nat.mul_assoc] at e
        have e2 := Nat.eq_of_mul_eq_mul_right (Nat.pow_pos (by decide)) e
        rw [← e2]; exact Nat.le_mul_of_pos_right _ (Nat.pow_pos (by decide))
    omega
/-- dyadic.Mul, of two of one word. -/
theorem K23 {K n c n2 c2 : Nat} {neg neg2 : Bool} {p p2 : Option Addr} {e e2 v w : Int} (ht : TabH h) (N1 : NumS K h neg p n e v) (N2 : NumS K h neg2 p2 n2 e2 w) (hK : K ≤ 500000) (hv : bl v.natAbs ≤ 25000) (hw : bl w.natAbs ≤ 25000) (hs1 : small64 v)
    (H : ∀ neg' p' n' c' e' h', Ext h h' → Fresh h p' → NumS (K + K) h' neg' p' n' e' (v * w) → R (.returned (.tuple #[.agg #[.bool neg', .slice p' n' c', .int .i64 e'], .int .i64 (0 : Int)])) h') :
    Ent Tryz.prog B 83 #[.agg #[.bool neg, .slice p n c, .int .i64 e], .agg #[.bool neg2, .slice p2 n2 c2, .int .i64 e2]] R h := by
  refine F23_ok _ _ _ _ _ _ _ _ _ _ (alK fun r7 h8 e7 f7 o7 z7 => alK fun r9 h10 e9 f9 o9 z9 => alK fun r11 h12 e11 f11 o11 z11 => alK fun r13 h14 e13 f13 o13 z13 => ?_)
  have O7 := ((o7.ext f9).ext f11).ext f13
  have O9 := (o9.ext f11).ext f13
  refine ⟨r7, 0, rfl, _, O7.cell _, _, _, _, O7.cell _, _, O7.cell _, r9, 0, rfl, _, O9.cell _, _, _, _, O9.cell _, _, O9.cell _, alK fun r25 h26 e25 f25 o25 z25 => ?_⟩
  have F := Ext.trans f7 (Ext.trans f9 (Ext.trans f11 (Ext.trans f13 f25)))
  refine K67 (numL2 o25 (N1.ext F) (N2.ext F)) rfl (by decide) fun xs h28 f28 X => ⟨_, _, _, rfl, ?_⟩
  obtain ⟨x0, x1, rfl⟩ := two_of X.len
  obtain ⟨cs, Ob, hc⟩ := X.own
  obtain ⟨c00, c01⟩ := hc 0 (by simp)
  obtain ⟨c10, c11⟩ := hc 1 (by simp)
  obtain ⟨⟨I0, y1, y2, y3, y5⟩, b0, b1⟩ := X.at_ 0 (by simp) (by simp)
  obtain ⟨⟨I1, w1, w2, w3, w5⟩, d0, d1⟩ := X.at_ 1 (by simp) (by simp)
  obtain ⟨a1, a2, a3, a4⟩ := X.apart 0 1 (by decide) (by simp)
  simp only [List.getElem_cons_zero, List.getElem_cons_succ] at c00 c01 c10 c11 I0 y1 y2 y3 y5 b0 b1 I1 w1 w2 w3 w5 d0 d1 a1 a2 a3 a4
  refine ⟨h26.size, 0, rfl, by decide, by decide, h26.size, _, rfl, _, by rw [Ob.cell]; exact c00, _, by rw [Ob.cell]; exact c01, h26.size, 0, rfl, by decide, by decide, h26.size, _, rfl, _, by rw [Ob.cell]; exact c10, _, by rw [Ob.cell]; exact c11, ?_⟩
  have B0 := bl_part y3 hv
  have B1 := bl_part w3 hw
  refine K68 I0 I1 (by omega) (by omega) (by omega) ?_ (by omega) (by omega) fun rz qz h58 f58 gz gq I => ⟨_, _, rfl, ?_⟩
  · left
    rcases y5 with h0 | h0
    · rw [h0]; decide
    · exact hs1 _ _ (by rw [y3, abs_val]) h0
  have hvw : v * w = x0.m * x1.m * 2 ^ (x0.e + x1.e + ((K + K : Nat) : Int)).toNat := by
    rw [y3, w3, show (x0.e + x1.e + ((K + K : Nat) : Int)).toNat = (x0.e + (K : Int)).toNat + (x1.e + (K : Int)).toNat by omega, Int.pow_add]
    ac_rfl
  refine K65 (K := K + K) (ht.ext (Ext.trans F (Ext.trans f28 f58))) I (by omega) hvw (Nat.le_trans (bl_mul hv hw) (by decide)) (by omega) fun neg' p' n' c' e' h65 f65 fr65 N => ⟨_, _, _, _, _, rfl, ?_⟩
  have FX := Ext.trans f25 (Ext.trans f28 (Ext.trans f58 f65))
  have s46 := (Ext.trans f25 (Ext.trans f28 f58)).size
  refine numEnd ((o11.ext f13).ext FX) (o13.ext FX) (by omega) fun h' f => ?_
  exact H neg' p' n' c' e' h' (Fr.trans (Ext.trans f7 (Ext.trans f9 (Ext.trans f11 (Ext.trans f13 FX)))) f fun x hx e => by omega) (fr65.mono (by omega)) (N.fr f fun b o e e3 => by have := fr65 b o e; omega)
end Go.Proofs
namespace Go.Proofs
open Go Go.Eng
variable {B : World} {R : Ending → Heap → Prop} {h : Heap}
/-- A word that is told as the pattern i. -/
def WI (w : Nat) (i : Int) : Prop := w < 18446744073709551616 ∧ nrm (sg w) = i
theorem wi_wd {a : Int} (ha : I64 a) : WI (wd a) (nrm a) := ⟨wd_lt a, by rw [sg_wd ha]⟩
theorem WI.add {x y : Nat} {i j : Int} {K : Nat → Prop} (hx : WI x i) (hy : WI y j) (H : ∀ z, WI z (addP i j) → K z) : flW .f64 (FloatKind.f64.format.add x y) x y K :=
  fadd_in hx.1 hy.1 fun z h1 h2 => H z ⟨h1, by rw [h2, hx.2, hy.2]⟩
theorem WI.sub {x y : Nat} {i j : Int} {K : Nat → Prop} (hx : WI x i) (hy : WI y j) (H : ∀ z, WI z (subP i j) → K z) : flW .f64 (FloatKind.f64.format.sub x y) x y K :=
  fsub_in hx.1 hy.1 fun z h1 h2 => H z ⟨h1, by rw [h2, hx.2, hy.2]⟩
theorem WI.mul {x y : Nat} {i j : Int} {K : Nat → Prop} (hx : WI x i) (hy : WI y j) (H : ∀ z, WI z (mulP i j) → K z) : flW .f64 (FloatKind.f64.format.mul x y) x y K :=
  fmul_in hx.1 hy.1 fun z h1 h2 => H z ⟨h1, by rw [h2, hx.2, hy.2]⟩
theorem nrm_nan (a : Int) : isNaN (nrm a) = isNaN a := by
  unfold nrm; split
  · rename_i h; rw [h]; exact isNaN_NaNP
  · rfl
theorem nrm_inf (a : Int) : isInf (nrm a) = isInf a := by
  unfold nrm; split
  · rename_i h; rw [nan_inf h]; exact isInf_NaNP
  · rfl
theorem fin_eq (a : Int) : isFin a = (!isNaN a && !isInf a) := by
  have := fE_lt a
  unfold isFin isNaN isInf
  by_cases h1 : fE a = 2047
  · by_cases h2 : fT a = 0 <;> simp [h1, h2]
  · have h3 : fE a < 2047 := by omega
    simp [h1, h3]
theorem nrm_fin (a : Int) : isFin (nrm a) = isFin a := by rw [fin_eq, fin_eq, nrm_nan, nrm_inf]
theorem fin_nrm {a : Int} (h : isFin a = true) : nrm a = a := by
  rw [fin_eq] at h
  unfold nrm
  cases hn : isNaN a
  · simp
  · rw [hn] at h; simp at h
theorem WI.fin {w : Nat} {i : Int} (h : WI w i) : isFin (sg w) = isFin i := by rw [← h.2, nrm_fin]
theorem WI.nan {w : Nat} {i : Int} (h : WI w i) : isNaN (sg w) = isNaN i := by rw [← h.2, nrm_nan]
theorem WI.eq {w : Nat} {i : Int} (h : WI w i) (hn : isNaN i = false) : sg w = i := by
  have := h.2
  unfold nrm at this
  rw [h.nan, hn] at this
  exact this
theorem WI.i64 {w : Nat} {i : Int} (h : WI w i) : I64 i := by
  have := h.2
  unfold nrm at this
  split at this
  · rw [← this]; exact NaNP_I64
  · rw [← this]; exact sg_I64 h.1
/-- bits.Float. -/
theorem K54 {a : Int} (H : R (.returned (.float .f64 (wd a))) h) : Ent Tryz.prog B 29 #[.int .i64 a] R h := by
  have e : IntKind.u64.wrap a = ((wd a : Nat) : Int) := by
    have e0 : IntKind.u64.wrap a = a % 18446744073709551616 := rfl
    rw [e0]; unfold wd; omega
  refine F54_ok _ ?_
  unfold F54
  rw [e]
  exact E116 ⟨_, rfl, H⟩
/-- bits.Of. -/
theorem K56 {w : Nat} {i : Int} (hw : WI w i) (H : R (.returned (.int .i64 i)) h) : Ent Tryz.prog B 58 #[.float .f64 w] R h := by
  have ho : (FloatKind.f64.format.order w w != some .eq) = isNaN (sg w) := order_self hw.1
  refine F56_ok _ ⟨fun e => ?_, fun e => ?_⟩
  · rw [ho] at e
    have : i = NaNP := by rw [← hw.2]; unfold nrm; rw [if_pos e]
    rw [this] at H; exact H
  · rw [ho] at e
    refine E117 ⟨_, rfl, ?_⟩
    have : IntKind.i64.wrap (w : Int) = sg w := by
      have e0 : IntKind.i64.wrap (w : Int) = if (true && decide ((w : Int) % 18446744073709551616 ≥ 9223372036854775808)) = true then (w : Int) % 18446744073709551616 - 18446744073709551616 else (w : Int) % 18446744073709551616 := rfl
      have := hw.1
      rw [e0]
      unfold sg
      simp only [Bool.true_and, decide_eq_true_eq]
      split <;> split <;> omega
    rw [this, hw.eq (by rw [← hw.nan]; exact e)]
    exact H
theorem andNot_top {w : Nat} (hw : w < 18446744073709551616) : bitsI .andNot .u64 (w : Int) (9223372036854775808 : Int) = ((w % 9223372036854775808 : Nat) : Int) := by
  have h1 : bitsI .andNot .u64 (w : Int) (9223372036854775808 : Int) = IntKind.u64.wrap (((BitVec.ofInt 64 (w : Int) &&& ~~~(BitVec.ofInt 64 (9223372036854775808 : Int))).toNat : Nat) : Int) := rfl
  have h2 : ~~~(BitVec.ofInt 64 (9223372036854775808 : Int)) = BitVec.ofNat 64 9223372036854775807 := by decide
  rw [h1, h2, ofInt_nat, BitVec.toNat_and, BitVec.toNat_ofNat, BitVec.toNat_ofNat, Nat.mod_eq_of_lt (by omega : w < 2 ^ 64), Nat.mod_eq_of_lt (by omega : 9223372036854775807 < 2 ^ 64)]
  rw [show w &&& 9223372036854775807 = w % 2 ^ 63 from Nat.and_two_pow_sub_one_eq_mod w 63, wrap_u64_nat]
  omega
/-- math.IsInf, of either sign. -/
theorem K118 {w : Nat} (hw : w < 18446744073709551616) (H : R (.returned (.bool (isInf (sg w)))) h) : Ent Tryz.prog B 86 #[.float .f64 w, .int .i64 (0 : Int)] R h := by
  refine F118_ok _ _ ⟨fun _ => F94_ok _ (E117 ⟨_, rfl, ?_⟩), fun e => by cases e⟩
  rw [andNot_top hw]
  refine E116 ⟨_, rfl, _, rfl, ?_⟩
  have hi : isInf ((w % 9223372036854775808 : Nat) : Int) = isInf (sg w) := by
    have key : fE ((w % 9223372036854775808 : Nat) : Int) = fE (sg w) ∧ fT ((w % 9223372036854775808 : Nat) : Int) = fT (sg w) := by
      unfold fE fT sg
      split <;> omega
    unfold isInf
    rw [key.1, key.2]
  have := isInf_rung (r := w % 9223372036854775808) (Nat.mod_lt _ (by decide))
  show R (.returned (.bool (Ieee.double.order (w % 9223372036854775808) 9218868437227405311 == some .gt))) h
  rw [this, hi]; exact H
/-- Floats in a block. -/
def Fv (l : List Nat) : List Value := l.map fun w : Nat => Value.float .f64 w
/-- eft.finite. -/
theorem K59 {r n c : Nat} {ws : List Nat} (O : Own h r (Fv ws).toArray) (hn : ws.length = n) (hl : n ≤ 1000000) (hw : ∀ w ∈ ws, w < 18446744073709551616)
    (H : R (.returned (.bool (ws.all fun w => isFin (sg w)))) h) : Ent Tryz.prog B 82 #[.slice (some ⟨r, 0, none⟩) n c] R h := by
  refine F59_ok _ _ _ ⟨fun m vs h' => match vs with
    | [.slice p n1 c1, .int _ nn, .int _ i] => p = some (⟨r, 0, none⟩ : Addr) ∧ n = n1 ∧ c = c1 ∧ nn = (n : Int) ∧ h = h' ∧ ∃ j : Nat, i = (j : Int) ∧ j ≤ n ∧ m = n - j ∧ ((ws.take j).all fun w => isFin (sg w)) = true
    | _ => False, n, ⟨rfl, rfl, rfl, rfl, rfl, 0, rfl, by omega, rfl, rfl⟩, ?_⟩
  rintro m h' _ _ _ _ _ ⟨rfl, rfl, rfl, rfl, rfl, j, rfl, hj, rfl, ha⟩ _
  refine ⟨fun e => ?_, fun e => ?_⟩
  · have hjn : j < n := by have := of_decide_eq_true e; omega
    have hwj : ws[j]'(by omega) < 18446744073709551616 := hw _ (List.getElem_mem _)
    refine ⟨r, 0, rfl, by omega, by omega, r, _, rfl, ws[j]'(by omega), ?_, ?_⟩
    · rw [Int.toNat_natCast, Nat.zero_add, Nat.mul_one, O.cell]
      unfold Fv
      rw [List.getElem?_toArray, List.getElem?_map, List.getElem?_eq_getElem (by omega)]; rfl
    have ho : (FloatKind.f64.format.order (ws[j]'(by omega)) (ws[j]'(by omega)) != some .eq) = isNaN (sg (ws[j]'(by omega))) := order_self hwj
    have fls : isFin (sg (ws[j]'(by omega))) = false → R (.returned (.bool false)) h := by
      intro hf
      have : (ws.all fun w => isFin (sg w)) = false := by
        rw [List.all_eq_false]
        exact ⟨_, List.getElem_mem (show j < ws.length by omega), by rw [hf]; decide⟩
      rw [this] at H; exact H
    rw [ho]
    refine ⟨fun e1 => ⟨fun _ => fls ?_, fun e => (by cases e)⟩, fun e1 => K118 hwj ⟨_, rfl, fun e2 => fls ?_, fun e2 => ?_⟩⟩
    · rw [fin_eq, e1]; rfl
    · rw [fin_eq, e2]; simp
    · refine ⟨n - (j + 1), by omega, rfl, rfl, rfl, rfl, rfl, j + 1, by rw [i64_in (by omega) (by omega)]; rfl, by omega, rfl, ?_⟩
      rw [List.take_succ_eq_append_getElem (by omega), List.all_append, ha, List.all_cons, List.all_nil, fin_eq, e1, e2]; rfl
  · have hjn : j = n := by have := of_decide_eq_false e; omega
    rw [hjn, List.take_of_length_le (by omega)] at ha
    rw [ha] at H; exact H
/-- eft.num. -/
theorem K60 {w : Nat} {i : Int} (ht : TabH h) (hw : WI w i) (hf : isFin i = true) (H : ∀ neg p n c e h', Ext h h' → Fresh h p → NumS 1074 h' neg p n e (fV i) → R (.returned (.agg #[.bool neg, .slice p n c, .int .i64 e])) h') :
    Ent Tryz.prog B 84 #[.float .f64 w] R h := by
  refine F60_ok _ (alK fun r2 h3 e2 f2 o2 z2 => K56 hw ⟨_, rfl, K21 (ht.ext f2) hf fun neg p n c e h10 f10 fr N => ⟨_, _, _, _, _, _, rfl, alK fun r17 h18 e17 f17 o17 z17 => ⟨r17, 0, rfl, ?_⟩⟩⟩)
  refine o17.stL (by simp) rfl fun _ a1 g1 => a1.stL (by simp) rfl fun _ a2 g2 => a2.stL (by simp) rfl fun h23 a3 g3 => ?_
  have k := Fr.trans (S := fun x => x = r17) (Fr.trans (S := fun x => x = r17) g1 g2 fun _ _ e => e) g3 fun _ _ e => e
  have A3 : Own h23 r17 #[.bool neg, .slice p n c, .int .i64 e] := a3
  have F23 : Ext h10 h23 := Fr.trans f17 k fun x hx e => by omega
  have s10 := f10.size
  refine ⟨r17, 0, rfl, _, A3.cell _, _, _, _, A3.cell _, _, A3.cell _, ret3 (o2.ext (Ext.trans f10 F23)) fun h' f => ?_⟩
  exact H neg p n c e h' (Fr.trans (Ext.trans f2 (Ext.trans f10 F23)) f fun x hx e => by omega) (fr.mono (by omega)) ((N.ext F23).fr f fun b o e e3 => by have := fr b o e; omega)
/-- eft.just. -/
theorem K61 {wh wl : Nat} {ih il : Int} {K n c : Nat} {neg : Bool} {p : Option Addr} {e x : Int} (ht : TabH h) (hh : WI wh ih) (hl : WI wl il) (N : NumS K h neg p n e x) (hK1 : 1074 ≤ K) (hK : K ≤ 10000) (hx : bl x.natAbs ≤ 50000)
    (H : ∀ h', Ext h h' → R (.returned (.bool (justP K ih il x))) h') : Ent Tryz.prog B 85 #[.float .f64 wh, .float .f64 wl, .agg #[.bool neg, .slice p n c, .int .i64 e]] R h := by
  refine F61_ok _ _ _ _ _ _ _ (alK fun r6 h7 e6 f6 o6 z6 => alK fun r8 h9 e8 f8 o8 z8 => ?_)
  have F := Ext.trans f6 f8
  have hall : ([wh, wl].all fun w => isFin (sg w)) = (isFin ih && isFin il) := by simp [hh.fin, hl.fin]
  refine K59 (ws := [wh, wl]) o8 rfl (by decide) (fun w hw => ?_) ⟨_, rfl, fun e0 => ?_, fun e0 => ?_⟩
  · rcases List.mem_cons.1 hw with e | hw
    · rw [e]; exact hh.1
    · rw [List.mem_singleton.1 hw]; exact hl.1
  · rw [hall] at e0
    have := H _ F
    unfold justP at this
    have e1 : (isFin ih && isFin il) = false := by revert e0; cases (isFin ih && isFin il) <;> simp
    rw [e1] at this
    exact this
  · rw [hall] at e0
    have e1 : (isFin ih && isFin il) = true := by revert e0; cases (isFin ih && isFin il) <;> simp
    obtain ⟨fh, fl⟩ := Bool.and_eq_true_iff.1 e1
    refine K60 (ht.ext F) hh fh fun n1 p1 l1 c1 e3 h16 f16 _ N1 => ⟨_, _, _, _, _, rfl, K60 (ht.ext (Ext.trans F f16)) hl fl fun n2 p2 l2 c2 e4 h23 f23 _ N2 => ⟨_, _, _, _, _, rfl, alK fun r29 h30 e29 f29 o29 z29 => ?_⟩⟩
    have b1 := fV_bl fh
    have b2 := fV_bl fl
    refine K119 (ht.ext (Ext.trans F (Ext.trans f16 (Ext.trans f23 f29)))) (numL2 o29 ((N1.ext f23).ext f29) (N2.ext f29)) (by decide) (by omega) (by omega) fun n3 p3 l3 c3 e5 h32 f32 _ N3 => ⟨_, _, _, _, _, _, rfl, alK fun r39 h40 e39 f39 o39 z39 => ⟨r39, 0, rfl, ?_⟩⟩
    refine o39.stL (by simp) rfl fun _ a1 g1 => a1.stL (by simp) rfl fun _ a2 g2 => a2.stL (by simp) rfl fun h45 a3 g3 => ?_
    have k := Fr.trans (S := fun x => x = r39) (Fr.trans (S := fun x => x = r39) g1 g2 fun _ _ e => e) g3 fun _ _ e => e
    have A3 : Own h45 r39 #[.bool n3, .slice p3 l3 c3, .int .i64 e5] := a3
    have F45 : Ext h32 h45 := Fr.trans f39 k fun x hx e => by omega
    have FX := Ext.trans f8 (Ext.trans f16 (Ext.trans f23 (Ext.trans f29 (Ext.trans f32 F45))))
    have O6 := o6.ext FX
    refine ⟨r39, 0, rfl, _, A3.cell _, _, _, _, A3.cell _, _, A3.cell _, r6, 0, rfl, _, O6.cell _, _, _, _, O6.cell _, _, O6.cell _, ?_⟩
    have N3' := (N3.ext F45).up (K - 1074)
    rw [show 1074 + (K - 1074) = K by omega] at N3'
    have FA := Ext.trans f6 FX
    have hbig : bl ((fV ih + fV il) * ((2 ^ (K - 1074) : Nat) : Int)).natAbs ≤ 50000 := by
      rw [Int.natAbs_mul, Int.natAbs_natCast]
      by_cases h0 : (fV ih + fV il).natAbs = 0
      · rw [h0, Nat.zero_mul]; decide
      · rw [bl_scale _ h0]
        have := bl_add b1 b2
        omega
    refine K28 N3' (N.ext FA) (by omega) hbig hx fun h57 f57 => ⟨_, _, rfl, fun _ => ?_, fun e => (by cases e)⟩
    have H' := H h57 (Ext.trans FA f57)
    unfold justP at H'
    rw [e1, Bool.true_and] at H'
    have hd : decide (((fV ih + fV il) * ((2 ^ (K - 1074) : Nat) : Int) - x).sign = 0) = decide ((fV ih + fV il) * ((2 ^ (K - 1074) : Nat) : Int) = x) := by
      rw [decide_eq_decide, Int.sign_eq_zero_iff_zero]; omega
    show R (.returned (.bool (decide (_ = (0 : Int))))) h57
    rw [hd]; exact H'
/-- eft.sum. -/
theorem K57 {wh wl wa wb : Nat} {ih il ia ib : Int} (ht : TabH h) (hh : WI wh ih) (hl : WI wl il) (ha : WI wa ia) (hb : WI wb ib) (H : ∀ h', Ext h h' → R (.returned (.bool (sumOk ih il ia ib))) h') :
    Ent Tryz.prog B 80 #[.float .f64 wh, .float .f64 wl, .float .f64 wa, .float .f64 wb] R h := by
  refine F57_ok _ _ _ _ (alK fun r5 h6 e5 f5 o5 z5 => ?_)
  have hall : ([wa, wb, wh, wl].all fun w => isFin (sg w)) = (isFin ia && isFin ib && (isFin ih && isFin il)) := by simp [hh.fin, hl.fin, ha.fin, hb.fin, Bool.and_assoc]
  refine K59 (ws := [wa, wb, wh, wl]) o5 rfl (by decide) (fun w hw => ?_) ⟨_, rfl, fun e0 => ?_, fun e0 => ?_⟩
  · simp only [List.mem_cons, List.not_mem_nil, or_false] at hw
    rcases hw with e | e | e | e <;> subst e
    · exact ha.1
    · exact hb.1
    · exact hh.1
    · exact hl.1
  · rw [hall] at e0
    have := H _ f5
    unfold sumOk justP at this
    have e1 : (isFin ia && isFin ib && (isFin ih && isFin il)) = false := by revert e0; cases (isFin ia && isFin ib && (isFin ih && isFin il)) <;> simp
    rw [← Bool.and_assoc, e1] at this
    exact this
  · rw [hall] at e0
    have e1 : (isFin ia && isFin ib && (isFin ih && isFin il)) = true := by revert e0; cases (isFin ia && isFin ib && (isFin ih && isFin il)) <;> simp
    obtain ⟨e2, e3⟩ := Bool.and_eq_true_iff.1 e1
    obtain ⟨fa, fb⟩ := Bool.and_eq_true_iff.1 e2
    have b1 := fV_bl fa
    have b2 := fV_bl fb
    refine K60 (ht.ext f5) ha fa fun n1 p1 l1 c1 e3 h13 f13 _ N1 => ⟨_, _, _, _, _, rfl, K60 (ht.ext (Ext.trans f5 f13)) hb fb fun n2 p2 l2 c2 e4 h20 f20 _ N2 => ⟨_, _, _, _, _, rfl, ?_⟩⟩
    have F20 := Ext.trans f5 (Ext.trans f13 f20)
    refine K22 (ht.ext F20) (N1.ext f20) N2 (by decide) (by omega) (by omega) fun n3 p3 l3 c3 e5 h27 f27 _ N3 => ⟨_, _, _, _, _, _, rfl, alK fun r34 h35 e34 f34 o34 z34 => ⟨r34, 0, rfl, ?_⟩⟩
    refine o34.stL (by simp) rfl fun _ a1 g1 => a1.stL (by simp) rfl fun _ a2 g2 => a2.stL (by simp) rfl fun h40 a3 g3 => ?_
    have k := Fr.trans (S := fun x => x = r34) (Fr.trans (S := fun x => x = r34) g1 g2 fun _ _ e => e) g3 fun _ _ e => e
    have A3 : Own h40 r34 #[.bool n3, .slice p3 l3 c3, .int .i64 e5] := a3
    have F40 : Ext h27 h40 := Fr.trans f34 k fun x hx e => by omega
    have FA := Ext.trans F20 (Ext.trans f27 F40)
    refine ⟨r34, 0, rfl, _, A3.cell _, _, _, _, A3.cell _, _, A3.cell _, ?_⟩
    refine K61 (K := 1074) (ht.ext FA) hh hl (N3.ext F40) (by decide) (by decide) (Nat.le_trans (bl_add b1 b2) (by decide)) fun h' f => ⟨_, rfl, ?_⟩
    have := H h' (Ext.trans FA f)
    unfold sumOk at this
    rw [e2, Bool.true_and] at this
    exact this
end Go.Proofs
namespace Go.Proofs
open Go Go.Eng
variable {B : World} {R : Ending → Heap → Prop} {h : Heap}
/-- eft.twoSum. -/
theorem K55 {x y : Nat} {a b : Int} (hx : WI x (nrm a)) (hy : WI y (nrm b)) (H : ∀ p q, WI p (sumH a b) → WI q (sumL a b) → R (.returned (.tuple #[.float .f64 p, .float .f64 q])) h) : Ent Tryz.prog B 79 #[.float .f64 x, .float .f64 y] R h := by
  refine F55_ok _ _ (hx.add hy fun f3 w3 => (w3.sub hx) fun f4 w4 => (w3.sub w4) fun f5 w5 => (hx.sub w5) fun f6 w6 => (hy.sub w4) fun f7 w7 => (w6.add w7) fun f8 w8 => ?_)
  simp only [addP_nl, addP_nr, subP_nl, subP_nr] at w3 w8
  exact H f3 f8 w3 w8
/-- eft.TwoSum. -/
theorem K18 {a b : Int} (ht : TabH h) (ha : I64 a) (hb : I64 b) (H : ∀ h', Ext h h' → R (.returned (.tuple #[.int .i64 (sumH a b), .int .i64 (sumL a b), .bool (sumOk (sumH a b) (sumL a b) a b)])) h') : Ent Tryz.prog B 44 #[.int .i64 a, .int .i64 b] R h := by
  refine F18_ok _ _ (K54 ⟨_, rfl, K54 ⟨_, rfl, K55 (wi_wd ha) (wi_wd hb) fun p q wp wq => ⟨_, _, rfl, K56 wp ⟨_, rfl, K56 wq ⟨_, rfl, K57 ht wp wq (wi_wd ha) (wi_wd hb) fun h' f => ⟨_, rfl, ?_⟩⟩⟩⟩⟩⟩)
  have e : sumOk (sumH a b) (sumL a b) (nrm a) (nrm b) = sumOk (sumH a b) (sumL a b) a b := by
    unfold sumOk
    rw [nrm_fin, nrm_fin]
    cases fa : isFin a
    · rfl
    · cases fb : isFin b
      · rfl
      · rw [fin_nrm fa, fin_nrm fb]
  rw [e]
  exact H h' f
theorem fac_wd : WI 4728779608772575232 (nrm FAC) := ⟨by decide, by decide⟩
/-- eft.split. -/
theorem K58 {x : Nat} {a : Int} (hx : WI x (nrm a)) (H : ∀ p q, WI p (splH a) → WI q (splL a) → R (.returned (.tuple #[.float .f64 p, .float .f64 q])) h) : Ent Tryz.prog B 81 #[.float .f64 x] R h := by
  refine F58_ok _ ((fac_wd.mul hx) fun f2 w2 => (w2.sub hx) fun f3 w3 => (w2.sub w3) fun f4 w4 => (hx.sub w4) fun f5 w5 => ?_)
  simp only [mulP_nl, mulP_nr, subP_nl, subP_nr] at w4 w5
  exact H f4 f5 w4 w5
/-- eft.TwoProd. -/
theorem K19 {a b : Int} (ht : TabH h) (ha : I64 a) (hb : I64 b) (H : ∀ h', Ext h h' → R (.returned (.tuple #[.int .i64 (prdH a b), .int .i64 (prdL a b), .bool (prdOk a b)])) h') : Ent Tryz.prog B 46 #[.int .i64 a, .int .i64 b] R h := by
  have hx := wi_wd ha
  have hy := wi_wd hb
  refine F19_ok _ _ (K54 ⟨_, rfl, K54 ⟨_, rfl, (hx.mul hy) fun f13 w13 => K58 hx fun p q wp wq => ⟨_, _, rfl, K58 hy fun r s wr ws => ⟨_, _, rfl, ?_⟩⟩⟩⟩)
  refine (wq.mul ws) fun f26 w26 => (wp.mul wr) fun f27 w27 => (w13.sub w27) fun f28 w28 => (wq.mul wr) fun f29 w29 => (w28.sub w29) fun f30 w30 => (wp.mul ws) fun f31 w31 => (w30.sub w31) fun f32 w32 => (w26.sub w32) fun f33 w33 => ?_
  simp only [mulP_nl, mulP_nr] at w13 w33
  have w33' : WI f33 (prdL a b) := w33
  have w13' : WI f13 (prdH a b) := w13
  refine alK fun r34 h35 e34 f34 o34 z34 => K59 (ws := [wd a, wd b]) o34 rfl (by decide) (fun w hw => ?_) ⟨_, rfl, ?_⟩
  · rcases List.mem_cons.1 hw with e | hw
    · rw [e]; exact hx.1
    · rw [List.mem_singleton.1 hw]; exact hy.1
  have hall : ([wd a, wd b].all fun w => isFin (sg w)) = (isFin a && isFin b) := by simp [sg_wd ha, sg_wd hb]
  rw [hall]
  have fin : ∀ (c : Bool) (hh : Heap), Ext h hh → c = prdOk a b → F19_j80 B R c f13 f33 hh := by
    intro c hh fh hc
    rw [hc]
    exact K56 w13' ⟨_, rfl, K56 w33' ⟨_, rfl, H hh fh⟩⟩
  refine ⟨fun e => ?_, fun e => fin false _ f34 (by unfold prdOk; rw [e]; rfl)⟩
  obtain ⟨fa, fb⟩ := Bool.and_eq_true_iff.1 e
  have b1 := fV_bl fa
  have b2 := fV_bl fb
  have hx' : WI (wd a) a := by have := hx; rw [fin_nrm fa] at this; exact this
  have hy' : WI (wd b) b := by have := hy; rw [fin_nrm fb] at this; exact this
  refine K60 (ht.ext f34) hx' fa fun n1 p1 l1 c1 e3 h42 f42 _ N1 => ⟨_, _, _, _, _, rfl, K60 (ht.ext (Ext.trans f34 f42)) hy' fb fun n2 p2 l2 c2 e4 h49 f49 _ N2 => ⟨_, _, _, _, _, rfl, ?_⟩⟩
  have F49 := Ext.trans f34 (Ext.trans f42 f49)
  refine K23 (ht.ext F49) (N1.ext f49) N2 (by decide) (by omega) (by omega) (fV_small a) fun n3 p3 l3 c3 e5 h56 f56 _ N3 => ⟨_, _, _, _, _, _, rfl, alK fun r63 h64 e63 f63 o63 z63 => ⟨r63, 0, rfl, ?_⟩⟩
  refine o63.stL (by simp) rfl fun _ a1 g1 => a1.stL (by simp) rfl fun _ a2 g2 => a2.stL (by simp) rfl fun h69 a3 g3 => ?_
  have k := Fr.trans (S := fun x => x = r63) (Fr.trans (S := fun x => x = r63) g1 g2 fun _ _ e => e) g3 fun _ _ e => e
  have A3 : Own h69 r63 #[.bool n3, .slice p3 l3 c3, .int .i64 e5] := a3
  have F69 : Ext h56 h69 := Fr.trans f63 k fun x hx e => by omega
  have FA := Ext.trans F49 (Ext.trans f56 F69)
  refine ⟨r63, 0, rfl, _, A3.cell _, _, _, _, A3.cell _, _, A3.cell _, ?_⟩
  refine K61 (K := 2148) (ht.ext FA) w13' w33' (N3.ext F69) (by decide) (by decide) (Nat.le_trans (bl_mul b1 b2) (by decide)) fun h' f => ⟨_, rfl, ?_⟩
  exact fin _ h' (Ext.trans FA f) (by unfold prdOk; rw [e, Bool.true_and])
end Go.Proofs
