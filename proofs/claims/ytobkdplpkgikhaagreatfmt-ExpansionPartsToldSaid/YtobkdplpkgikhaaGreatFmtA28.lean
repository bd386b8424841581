import Derived.Test.YtobkdplpkgikhaaGreatFmtA27
import Derived.Test.YtobkdplpkgikhaaGreatFmtA25
/- Here stand lemmas and contracts, in the order in which they are used. -/
set_option linter.unusedVariables false
namespace Go.Proofs
open Go Go.Eng
variable {B : World} {R : Ending → Heap → Prop} {h : Heap}
/-- plumbref1.cut. -/
theorem K149 {b : Int} (hb : I64 b) (H : R (.returned (.tuple #[.bool (decide (b < 0)), .int .i64 (fE b : Int), .int .i64 (fT b : Int)])) h) : Ent Tryz.prog B 60 #[.int .i64 b] R h := by
  have key : ∀ y : Nat, (y : Int) = b ∨ (y : Int) = b + 9223372036854775808 → y < 9223372036854775808 → F149_j2 B R (y : Int) (decide (b < 0)) h := by
    intro y hy hlt
    have e1 : Int.tdiv (y : Int) (4503599627370496 : Int) = ((y / 4503599627370496 : Nat) : Int) := tdN y 4503599627370496
    have e2 : Int.tmod (y : Int) (4503599627370496 : Int) = ((y % 4503599627370496 : Nat) : Int) := tmN y 4503599627370496
    have e3 : y / 4503599627370496 = fE b := by unfold fE; omega
    have e4 : y % 4503599627370496 = fT b := by unfold fT; omega
    unfold F149_j2
    rw [e1, e2, i64_nat (by omega), e3, e4]
    exact ⟨by decide, by decide, H⟩
  unfold I64 at hb
  refine F149_ok _ ⟨fun e => ?_, fun e => ?_⟩
  · have hneg : b < 0 := of_decide_eq_true e
    rw [i64_in (by omega) (by omega), show b - (-9223372036854775808 : Int) = ((b + 9223372036854775808).toNat : Int) by omega]
    exact key _ (.inr (by omega)) (by omega)
  · have hneg : ¬ b < 0 := of_decide_eq_false e
    have := key b.toNat (.inl (by omega)) (by omega)
    rw [show ((b.toNat : Nat) : Int) = b by omega] at this
    exact this
/-- plumbref1.Class. -/
theorem K84 {b : Int} (hb : I64 b) (H : R (.returned (.int .i64 (cls b))) h) : Ent Tryz.prog B 35 #[.int .i64 b] R h := by
  refine F84_ok _ (K149 hb ⟨_, _, _, rfl, F150_ok _ _ _ ?_⟩)
  have dE : decide (((fE b : Nat) : Int) = 2047) = decide (fE b = 2047) := by rw [decide_eq_decide]; omega
  have dT : decide (((fT b : Nat) : Int) = 0) = decide (fT b = 0) := by rw [decide_eq_decide]; omega
  have dE0 : decide ((0 : Int) < ((fE b : Nat) : Int)) = decide (0 < fE b) := by rw [decide_eq_decide]; omega
  have dT0 : decide ((0 : Int) < ((fT b : Nat) : Int)) = decide (0 < fT b) := by rw [decide_eq_decide]; omega
  unfold F150 F150_j4
  rw [dE, dT, dE0, dT0]
  have Hc : ∀ x, x = cls b → ∃ x13, Value.int .i64 x = Value.int .i64 x13 ∧ R (.returned (.int .i64 x13)) h := by
    rintro x rfl; exact ⟨_, rfl, H⟩
  unfold cls at Hc
  by_cases h1 : fE b = 2047
  · by_cases h2 : fT b = 0
    · simp only [h1, h2, decide_true]
      refine ⟨fun _ => ⟨fun _ => Hc _ (by simp [h1, h2]), fun e => (by cases e)⟩, fun e => (by cases e)⟩
    · simp only [h1, h2, decide_true, decide_false]
      refine ⟨fun _ => ⟨fun e => (by cases e), fun _ => ⟨fun _ => Hc _ (by simp [h1, h2]), fun e => (by cases e)⟩⟩, fun e => (by cases e)⟩
  · simp only [h1, decide_false]
    refine ⟨fun e => (by cases e), fun _ => ⟨fun e => (by cases e), fun _ => ⟨fun e => (by cases e), fun _ => ⟨fun e => ?_, fun e => ⟨fun e2 => ?_, fun e2 => ?_⟩⟩⟩⟩⟩
    · have := of_decide_eq_true e; exact Hc _ (by simp [h1, this])
    · have h3 := of_decide_eq_false e; have h4 := of_decide_eq_true e2; exact Hc _ (by simp only [h1, false_and, if_false, h3, h4, if_true])
    · have h3 := of_decide_eq_false e; have h4 := of_decide_eq_false e2; exact Hc _ (by simp only [h1, false_and, if_false, h3, h4])
/-- plumbref1.Neg. -/
def negP (b : Int) : Int := if isNaN b then NaNP else if b < 0 then b + 9223372036854775808 else b - 9223372036854775808
/-- plumbref1.Parts, of what is finite. -/
theorem K160 {b : Int} (hb : I64 b) (hf : isFin b = true) (H : R (.returned (.tuple #[.bool (decide (b < 0)), .int .i64 (fM b : Int), .int .i64 (fX b), .bool true])) h) : Ent Tryz.prog B 64 #[.int .i64 b] R h := by
  refine F160_ok _ (K149 hb ⟨_, _, _, rfl, K84 hb ⟨_, rfl, ?_⟩⟩)
  have hE : fE b < 2047 := by unfold isFin at hf; exact of_decide_eq_true hf
  have hT := fT_lt b
  have h1 : fE b ≠ 2047 := by omega
  unfold fM fX at H
  by_cases h2 : fE b = 0
  · have hj : F160_j14 B R (decide (b < 0)) (fE b : Int) (fT b : Int) (cls b) true h := ⟨fun _ => by rw [if_pos h2, if_pos h2] at H; exact H, fun e => (by cases e)⟩
    have hc : cls b = 1 ∨ cls b = 0 := by
      unfold cls
      rw [if_neg (by omega : ¬ (fE b = 2047 ∧ fT b = 0)), if_neg h1, if_neg (by omega : ¬ 0 < fE b)]
      split <;> simp
    refine ⟨fun e => ?_, fun e => ?_⟩
    · rw [e]; exact hj
    · have : cls b ≠ 0 := of_decide_eq_false e
      rw [show decide (cls b = 1) = true from by simp; omega]; exact hj
  · have hc : cls b = 2 := by unfold cls; simp only [h1, false_and, if_false]; rw [if_pos (by omega)]
    rw [hc]
    refine ⟨fun e => (by cases e), fun _ => ⟨fun e => (by cases e), fun _ => ⟨fun _ => ?_, fun e => by cases e⟩⟩⟩
    rw [if_neg h2, if_neg h2] at H
    rw [i64_in (x := (fE b : Int) - (1075 : Int)) (by omega) (by omega), show (4503599627370496 : Int) + (fT b : Int) = ((4503599627370496 + fT b : Nat) : Int) by omega, i64_nat (by omega)]
    exact H
/-- plumbref1.shifted, to 53 bits. -/
theorem K162 {m : Nat} {e : Int} (hm : 0 < m) (hml : m < 4611686018427387904) (he : -1074 ≤ e) (he2 : e ≤ 1000000) (ho : ∀ s o, m = 2 ^ s * o → o % 2 = 1 → o < 9007199254740992)
    (H : ∀ (a : Nat) (x : Int), a * 2 ^ (x + 1074).toNat = m * 2 ^ (e + 1074).toNat → a < 9007199254740992 → -1074 ≤ x → x ≤ e + 64 → (x = -1074 ∨ 4503599627370496 ≤ a) → R (.returned (.tuple #[.int .i64 (a : Int), .int .i64 x, .bool true])) h) :
    Ent Tryz.prog B 186 #[.int .i64 (m : Int), .int .i64 e, .int .i64 (-1074 : Int), .int .i64 (53 : Int)] R h := by
  refine F162_ok _ _ _ _ ⟨fun w vs h' => match vs with
    | [.int _ a, .int _ x, .int _ lo, .int _ bt] => h' = h ∧ lo = -1074 ∧ bt = 53 ∧ a = (w : Int) ∧ 0 < w ∧ ∃ s : Nat, m = 2 ^ s * w ∧ x = e + (s : Int)
    | _ => False, m, ⟨rfl, rfl, rfl, rfl, hm, 0, by simp, by simp⟩, ?_⟩
  rintro w h' _ _ _ _ ⟨rfl, rfl, rfl, rfl, hw, s, hs, rfl⟩ _
  have hs62 : s < 62 := by
    rcases Nat.lt_or_ge s 62 with h | h
    · exact h
    · have : 2 ^ 62 ≤ 2 ^ s := Nat.pow_le_pow_right (by decide) h
      have : 2 ^ s * 1 ≤ 2 ^ s * w := Nat.mul_le_mul_left _ hw
      omega
  have hwm : w ≤ m := by rw [hs]; exact Nat.le_mul_of_pos_left _ (Nat.pow_pos (by decide))
  refine ⟨fun _ => ⟨by decide, ?_⟩, fun e0 => by simp at e0; omega⟩
  refine ⟨fun e1 => ⟨by decide, ?_⟩, fun e1 => ⟨by decide, ?_⟩⟩
  · have h2 : w % 2 = 0 := by
      have := of_decide_eq_true e1
      rw [tm2] at this; omega
    refine ⟨w / 2, by omega, rfl, rfl, rfl, by rw [td2, i64_nat (by omega)], by omega, s + 1, ?_, by rw [i64_in (by omega) (by omega)]; omega⟩
    rw [hs, Nat.pow_succ, Nat.mul_assoc]; congr 1; omega
  · have h2 : w % 2 = 1 := by
      have := of_decide_eq_false e1
      rw [tm2] at this; omega
    have hw53 := ho s w hs h2
    have e53 : IntKind.i64.wrap ((1 : Int) * 2 ^ min (Int.toNat (53 : Int)) IntKind.i64.bits) = 9007199254740992 := by decide
    have e52 : IntKind.i64.wrap ((1 : Int) * 2 ^ min (Int.toNat (IntKind.i64.wrap ((53 : Int) - (1 : Int)))) IntKind.i64.bits) = 4503599627370496 := by decide
    have e52' : (0 : Int) ≤ IntKind.i64.wrap ((53 : Int) - (1 : Int)) := by decide
    rw [e53]
    refine ⟨fun e2 => by have := of_decide_eq_true e2; omega, fun _ => ?_⟩
    rw [show decide (e + (s : Int) < -1074) = false by simp; omega]
    refine ⟨fun e => (by cases e), fun _ => ?_⟩
    have hval : w * 2 ^ (e + (s : Int) + 1074).toNat = m * 2 ^ (e + 1074).toNat := by
      rw [hs, show (e + (s : Int) + 1074).toNat = s + (e + 1074).toNat by omega, Nat.pow_add]; ac_rfl
    refine ⟨fun u vs h2 => match vs with
      | [.int _ a, .int _ x, .int _ lo, .int _ bt] => h2 = h' ∧ lo = -1074 ∧ bt = 53 ∧ ∃ a' : Nat, a = (a' : Int) ∧ a' < 9007199254740992 ∧ -1074 ≤ x ∧ x ≤ e + 64 ∧ u = (x + 1074).toNat ∧ a' * 2 ^ (x + 1074).toNat = m * 2 ^ (e + 1074).toNat
      | _ => False, _, ⟨rfl, rfl, rfl, w, rfl, hw53, by omega, by omega, rfl, hval⟩, ?_⟩
    rintro u h2 _ x _ _ ⟨rfl, rfl, rfl, a, rfl, ha, hx1, hx2, rfl, hv⟩ _
    refine ⟨fun e3 => ⟨e52', ?_⟩, fun e3 => ⟨fun e => (by cases e), fun _ => ?_⟩⟩
    · have hx : -1074 < x := of_decide_eq_true e3
      rw [e52]
      refine ⟨fun e4 => ?_, fun e4 => ?_⟩
      · have hlt : a < 4503599627370496 := by have := of_decide_eq_true e4; omega
        refine ⟨_, ?_, rfl, rfl, rfl, a + a, by rw [i64_in (by omega) (by omega)]; rfl, by omega, ?_, ?_, rfl, ?_⟩
        · rw [i64_in (by omega) (by omega)]; omega
        · rw [i64_in (by omega) (by omega)]; omega
        · rw [i64_in (by omega) (by omega)]; omega
        · rw [i64_in (by omega) (by omega), ← hv, show (x + 1074).toNat = (x - 1 + 1074).toNat + 1 by omega, Nat.pow_succ]
          rw [Nat.add_mul]
          generalize 2 ^ (x - 1 + 1074).toNat = P
          rw [← Nat.mul_assoc]; omega
      · have hge : 4503599627370496 ≤ a := by have := of_decide_eq_false e4; omega
        exact H a x hv ha hx1 hx2 (.inr hge)
    · have hx : x = -1074 := by have := of_decide_eq_false e3; omega
      exact H a x hv ha hx1 hx2 (.inl hx)
/-- plumbref1.Join, without a sign. -/
theorem K115 {m : Nat} {e : Int} (hml : m < 4611686018427387904) (he : -1074 ≤ e) (he2 : e ≤ 2000) (ho : ∀ s o, m = 2 ^ s * o → o % 2 = 1 → o < 9007199254740992) (hr : m = 0 ∨ rung m e < INF)
    (H : R (.returned (.tuple #[.int .i64 (if m = 0 then 0 else (rung m e : Int)), .bool true])) h) : Ent Tryz.prog B 171 #[.bool false, .int .i64 (m : Int), .int .i64 e] R h := by
  have j9 : F115_j9 B R (m : Int) e 0 false h := by
    refine ⟨fun e => (by cases e), fun _ => ⟨fun e0 => ?_, fun e0 => ?_⟩⟩
    · have hm : m = 0 := by have := of_decide_eq_true e0; omega
      rw [if_pos hm] at H; exact H
    · have hm : m ≠ 0 := by have := of_decide_eq_false e0; omega
      rw [if_neg hm] at H
      refine K162 (by omega) hml he (by omega) ho fun a x hv ha hx1 hx2 hn => ⟨_, _, _, rfl, ?_⟩
      have ha0 : a ≠ 0 := by
        intro h0
        rw [h0, Nat.zero_mul] at hv
        have : 0 < m * 2 ^ (e + 1074).toNat := Nat.mul_pos (by omega) (Nat.pow_pos (by decide))
        omega
      have hra : rung a x = rung m e := by
        have h1 := rung_scale (x + 1074).toNat (-1074) ha0
        have h2 := rung_scale (e + 1074).toNat (-1074) hm
        rw [hv, h2, show (-1074 : Int) + ((e + 1074).toNat : Int) = e by omega, show (-1074 : Int) + ((x + 1074).toNat : Int) = x by omega] at h1
        exact h1.symm
      have hrn := rung_norm ha0 (by omega) hx1 hn
      have hlt : rung m e < INF := hr.resolve_left hm
      rw [hra] at hrn
      have hINF : INF = 9218868437227405312 := rfl
      refine ⟨fun e => (by cases e), fun _ => ?_⟩
      have hx971 : decide ((971 : Int) < x) = false := by
        rcases hn with h | h
        · simp; omega
        · simp
          omega
      rw [hx971]
      refine ⟨fun e => (by cases e), fun _ => ⟨fun e2 => ?_, fun e2 => ?_⟩⟩
      · have h52 : a < 4503599627370496 := by have := of_decide_eq_true e2; omega
        rw [Int.zero_add, i64_nat (by omega), show a = rung m e by omega]; exact H
      · have h52 : ¬ a < 4503599627370496 := by have := of_decide_eq_false e2; omega
        have hxl : x ≤ 971 := by simpa using hx971
        rw [i64_in (x := x + (1075 : Int)) (by omega) (by omega), i64_in (x := (x + (1075 : Int)) * (4503599627370496 : Int)) (by omega) (by omega), Int.zero_add, i64_in (x := (x + (1075 : Int)) * (4503599627370496 : Int)) (by omega) (by omega), i64_in (x := (x + (1075 : Int)) * (4503599627370496 : Int) + (a : Int)) (by omega) (by omega), i64_in (by omega) (by omega)]
        rw [show (x + (1075 : Int)) * (4503599627370496 : Int) + (a : Int) - (4503599627370496 : Int) = (rung m e : Int) by omega]
        exact H
  refine F115_ok _ _ _ ⟨fun e => (by cases e), fun _ => ⟨fun e0 => by have := of_decide_eq_true e0; omega, fun _ => ⟨fun e1 => by have := of_decide_eq_true e1; omega, fun _ => ⟨fun e => (by cases e), fun _ => ⟨fun e2 => by have := of_decide_eq_true e2; omega, fun _ => j9⟩⟩⟩⟩⟩
end Go.Proofs
namespace Go.Proofs
open Go Go.Eng
variable {B : World} {R : Ending → Heap → Prop} {h : Heap}
/-- A number laid and handed back. -/
theorem ret3 {r n c : Nat} {x0 x1 x2 : Value} {neg : Bool} {p : Option Addr} {e : Int} (O : Own h r #[x0, x1, x2]) (H : ∀ h', Fr (fun x => x = r) h h' → R (.returned (.agg #[.bool neg, .slice p n c, .int .i64 e])) h') :
    isP (some ⟨r, 0, none⟩) fun b11 o12 => stC h b11 o12 (.bool neg) fun h13 =>
 stC h13 b11 (o12 + 1) (.slice p n c) fun h14 =>
 stC h14 b11 (o12 + 1 + 1) (.int .i64 e) fun h15 =>
 isP (some ⟨r, 0, none⟩) fun b16 o17 =>
∃ x18, cell? h15 ⟨b16, o17, none⟩ = some (.bool x18) ∧
∃ x19 x19n x19c, cell? h15 ⟨b16, o17 + 1, none⟩ = some (.slice x19 x19n x19c) ∧
∃ x20, cell? h15 ⟨b16, o17 + 1 + 1, none⟩ = some (.int .i64 x20) ∧
 R (.returned (.agg #[.bool x18, .slice x19 x19n x19c, .int .i64 x20])) h15 := by
  refine ⟨r, 0, rfl, O.stC (by simp) rfl fun oa fa => oa.stC (by simp) rfl fun ob fb => ob.stC (by simp) rfl fun oc fc => ⟨r, 0, rfl, _, oc.cell _, _, _, _, oc.cell _, _, oc.cell _, ?_⟩⟩
  exact H _ (Fr.trans (S := fun x => x = r) (Fr.trans (S := fun x => x = r) fa fb fun _ _ e => e) fc fun _ _ e => e)
/-- plumbref3.Norm. -/
theorem K158 {neg : Bool} {p : Option Addr} {n c K : Nat} {ds : List Nat} {e : Int} (D : DigU h p n ds) (hn : n ≤ 1000000000) (he : 0 ≤ e + (K : Int)) (he2 : e ≤ 4611686018427387904) (hK : K ≤ 1048576)
    (hb : bl (Ieee.signed neg (val B30 ds) (e + (K : Int)).toNat).natAbs ≤ 60000)
    (H : ∀ neg' p' n' c' e' h', Ext h h' → Fresh h p' → NumS K h' neg' p' n' e' (Ieee.signed neg (val B30 ds) (e + (K : Int)).toNat) → R (.returned (.agg #[.bool neg', .slice p' n' c', .int .i64 e'])) h') :
    Ent Tryz.prog B 65 #[.bool neg, .slice p n c, .int .i64 e] R h := by
  refine F158_ok _ _ _ _ _ (alK fun r4 h5 e4 f4 o4 z4 => K190 (D.ext f4) (by omega) (fun h0 => ⟨_, rfl, fun _ => ?_, fun e => by cases e⟩) fun t m hv => ⟨_, rfl, fun e1 => ?_, fun _ => ?_⟩)
  · refine ret3 o4 fun h' f => ?_
    have hz : Ieee.signed neg (val B30 ds) (e + (K : Int)).toNat = 0 := by rw [h0]; unfold Ieee.signed; simp
    rw [hz] at H
    exact H false none 0 0 0 _ (Fr.trans f4 f fun x hx e => by omega) Fresh.nil (numS_zero K _)
  · have := of_decide_eq_true e1; omega
  · have hM : val B30 ds / 2 ^ t = 2 * m + 1 := by rw [hv, Nat.mul_div_cancel_left _ (Nat.pow_pos (by decide))]
    have hbl : bl (Ieee.signed neg (val B30 ds) (e + (K : Int)).toNat).natAbs = bl (2 * m + 1) + t + (e + (K : Int)).toNat := by
      rw [signed_abs, bl_scale _ (by rw [hv]; exact Nat.mul_ne_zero (by have := Nat.pow_pos (n := t) (show 0 < 2 by decide); omega) (by omega)), hv, Nat.mul_comm, bl_scale _ (by omega)]
    have hb1 : 0 < bl (2 * m + 1) := bl_pos (by omega)
    refine K191 (D.ext f4) hn (by omega) fun p' n' c' es h22 f22 fr22 D22 hes => ⟨_, _, _, rfl, ?_⟩
    rw [i64_in (by omega) (by omega)]
    refine ret3 (o4.ext f22) fun h' f => ?_
    have F : Ext h h' := Fr.trans (Ext.trans f4 f22) f fun x hx e => by omega
    rw [hM] at hes
    have hds : es = digs B30 (2 * m + 1) := by rw [← hes, digs_of (by decide) D22.dig D22.trim]
    subst hds
    refine H neg p' n' c' _ h' F (fr22.mono f4.size) (NumS.fr (S := fun x => x = r4) (h := h22) ⟨2 * m + 1, ⟨D22, ?_, fun h0 => ?_, fun _ => ⟨by rw [hes]; omega, by omega, by omega⟩⟩, by omega, ?_⟩ f fun b o e e2 => by have := fr22 b o e; omega)
    · rw [← D22.len]; exact digs_len (k := 30) rfl (by decide) (by omega)
    · exfalso
      have := D22.len
      rw [h0, digs_ne (by decide) (by omega)] at this
      simp at this
    · rw [hv, show e + (t : Int) + (K : Int) = (((e + (K : Int)).toNat + t : Nat) : Int) by omega, Int.toNat_natCast]
      unfold Ieee.signed
      have : (2 ^ t * (2 * m + 1)) <<< (e + (K : Int)).toNat = (2 * m + 1) <<< ((e + (K : Int)).toNat + t) := by
        rw [Nat.shiftLeft_eq, Nat.shiftLeft_eq, Nat.pow_add]; ac_rfl
      rw [this]
theorem fM_lt (b : Int) : fM b < 9007199254740992 := by
  have := fT_lt b
  unfold fM; split <;> omega
theorem fX_lt {b : Int} (hf : isFin b = true) : fX b ≤ 971 := by
  have hE : fE b < 2047 := by unfold isFin at hf; exact of_decide_eq_true hf
  unfold fX; split <;> omega
theorem fV_bl {b : Int} (hf : isFin b = true) : bl (fV b).natAbs ≤ 2100 := by
  have h1 := fX_lt hf
  have h2 := fM_lt b
  have h3 := fX_ge b
  unfold fV
  rw [signed_abs]
  by_cases h0 : fM b = 0
  · rw [h0, Nat.zero_mul]; decide
  · have hl : bl (fM b) ≤ 53 := bl_le_iff.2 h2
    rw [bl_scale _ h0]; omega
/-- plumbref3.Of. -/
theorem K114 {b : Int} (hb : I64 b) (hf : isFin b = true) (H : ∀ neg p n c e h', Ext h h' → Fresh h p → NumS 1074 h' neg p n e (fV b) → R (.returned (.agg #[.bool neg, .slice p n c, .int .i64 e])) h') :
    Ent Tryz.prog B 37 #[.int .i64 b] R h := by
  have hM := fM_lt b
  have hX := fX_lt hf
  have hX2 := fX_ge b
  refine F114_ok _ (alK fun r2 h3 e2 f2 o2 z2 => K160 hb hf ⟨_, _, _, _, rfl, K161 (by omega) fun p n c h13 f13 fr13 D13 hn => ⟨_, _, _, rfl, ?_⟩⟩)
  have hv : Ieee.signed (decide (b < 0)) (val B30 (digs B30 (fM b))) (fX b + ((1074 : Nat) : Int)).toNat = fV b := by rw [digs_val (by decide)]; rfl
  refine K158 (K := 1074) D13.u (by omega) (by omega) (by omega) (by decide) (by rw [hv]; have := fV_bl hf; omega) fun neg p' n' c' e' h18 f18 fr18 N => ⟨_, _, _, _, _, rfl, ?_⟩
  rw [hv] at N
  have s13 := f13.size
  have l2 := o2.lt
  refine ret3 ((o2.ext f13).ext f18) fun h' f => ?_
  refine H neg p' n' c' e' h' (Fr.trans (Ext.trans f2 (Ext.trans f13 f18)) f fun x hx e => by omega) (fr18.mono (by omega)) (N.fr f fun b o e e2 => by have := fr18 b o e; omega)
theorem signed_ne {neg : Bool} {M k : Nat} (h : M ≠ 0) : Ieee.signed neg M k ≠ 0 := by
  have h1 := signed_abs neg M k
  have h2 : 0 < M * 2 ^ k := Nat.mul_pos (by omega) (Nat.pow_pos (by decide))
  intro e; rw [e] at h1; simp at h1; omega
theorem signed_neg {neg : Bool} {M k : Nat} (h : M ≠ 0) : decide (Ieee.signed neg M k < 0) = neg := by
  have h2 : 0 < M * 2 ^ k := Nat.mul_pos (by omega) (Nat.pow_pos (by decide))
  unfold Ieee.signed
  rw [Nat.shiftLeft_eq]
  cases neg
  · have : ¬ ((M * 2 ^ k : Nat) : Int) < 0 := by omega
    simp only [Bool.false_eq_true, if_false, this, decide_false]
  · simp only [if_true, decide_eq_true_eq]; omega
theorem numI_cases {neg : Bool} {p : Option Addr} {n M : Nat} {e : Int} (I : NumI h neg p n e (digs B30 M)) : (M = 0 ∧ neg = false ∧ e = 0) ∨ M % 2 = 1 := by
  by_cases hn : n = 0
  · obtain ⟨a, b⟩ := I.zero hn
    have hl := I.d.len
    left
    refine ⟨?_, a, b⟩
    rcases Nat.eq_zero_or_pos M with h | h
    · exact h
    · rw [digs_ne (by decide) (by omega)] at hl; simp at hl; omega
  · right
    have := (I.pos (by omega)).1
    rw [digs_val (by decide)] at this; exact this
theorem signed_mul (s : Bool) (m k j : Nat) : Ieee.signed s (m * 2 ^ k) j = Ieee.signed s m (k + j) := by
  unfold Ieee.signed
  have : (m * 2 ^ k) <<< j = m <<< (k + j) := by rw [Nat.shiftLeft_eq, Nat.shiftLeft_eq, Nat.pow_add, Nat.mul_assoc]
  rw [this]
theorem signed_sum (s : Bool) (a b j : Nat) : Ieee.signed s (a + b) j = Ieee.signed s a j + Ieee.signed s b j := by
  unfold Ieee.signed
  rw [Nat.shiftLeft_eq, Nat.shiftLeft_eq, Nat.shiftLeft_eq, Nat.add_mul]
  cases s <;> simp <;> omega
theorem signed_dif (s : Bool) {a b : Nat} (h : b ≤ a) (j : Nat) : Ieee.signed s (a - b) j = Ieee.signed s a j - Ieee.signed s b j := by
  have := signed_sum s (a - b) b j
  rw [Nat.sub_add_cancel h] at this; omega
theorem DigI.short {p : Option Addr} {n N : Nat} {es : List Nat} (D : DigI h p n es) (hb : bl (val B30 es) ≤ 30 * N) : n ≤ N := by
  have : digs B30 (val B30 es) = es := digs_of (by decide) D.dig D.trim
  rw [← D.len, ← this]
  exact digs_len (k := 30) rfl (by decide) hb
theorem bl_add {a b : Int} {L : Nat} (ha : bl a.natAbs ≤ L) (hb : bl b.natAbs ≤ L) : bl (a + b).natAbs ≤ L + 1 := by
  rw [bl_le_iff] at *
  rw [Nat.pow_succ]; omega
theorem bl_mul {a b : Int} {L L' : Nat} (ha : bl a.natAbs ≤ L) (hb : bl b.natAbs ≤ L') : bl (a * b).natAbs ≤ L + L' := by
  rw [bl_le_iff] at *
  rw [Int.natAbs_mul, Nat.pow_add]
  exact Nat.mul_lt_mul'' ha hb
theorem signed_bl {s : Bool} {m k L : Nat} (h : bl (Ieee.signed s m k).natAbs ≤ L) : bl m ≤ L := by
  rw [signed_abs] at h
  exact Nat.le_trans (bl_mono (Nat.le_mul_of_pos_right _ (Nat.pow_pos (by decide)))) h
/-- plumbref3.Add, and where its digits lie. -/
theorem K133P {P : Option Addr → Prop} {K : Nat} {neg neg2 : Bool} {p p2 : Option Addr} {n n2 c c2 : Nat} {e e2 v w : Int} (N1 : NumS K h neg p n e v) (N2 : NumS K h neg2 p2 n2 e2 w) (hK : K ≤ 1048576) (hv : bl v.natAbs ≤ 50000) (hw : bl w.natAbs ≤ 50000)
    (hP : ∀ q, Fresh h q → P q) (g1 : P p) (g2 : P p2)
    (H : ∀ neg' p' n' c' e' h', Ext h h' → P p' → NumS K h' neg' p' n' e' (v + w) → R (.returned (.agg #[.bool neg', .slice p' n' c', .int .i64 e'])) h') :
    Ent Tryz.prog B 62 #[.agg #[.bool neg, .slice p n c, .int .i64 e], .agg #[.bool neg2, .slice p2 n2 c2, .int .i64 e2]] R h := by
  refine F133_ok _ _ _ _ _ _ _ _ _ _ (alK fun r7 h8 e7 f7 o7 z7 => alK fun r9 h10 e9 f9 o9 z9 => alK fun r11 h12 e11 f11 o11 z11 => ?_)
  have o7' := (o7.ext f9).ext f11
  have o9' := o9.ext f11
  have F := Ext.trans f7 (Ext.trans f9 f11)
  refine ⟨r7, 0, rfl, r7, 0 + 1, rfl, _, _, _, o7'.cell _, fun e1 => ?_, fun e1 => ⟨r9, 0, rfl, r9, 0 + 1, rfl, _, _, _, o9'.cell _, fun e3 => ?_, fun e3 => ?_⟩⟩
  · have hn0 : n = 0 := by have := of_decide_eq_true e1; omega
    refine ⟨r9, 0, rfl, _, o9'.cell _, _, _, _, o9'.cell _, _, o9'.cell _, ret3 o11 fun h' f => ?_⟩
    have F' : Ext h h' := Fr.trans F f fun x hx e => by omega
    obtain ⟨M, I1, a1, a2⟩ := N1
    have hv0 : v = 0 := by
      rcases numI_cases I1 with ⟨q, _⟩ | q
      · rw [a2, q]; unfold Ieee.signed; simp
      · have := I1.d.len; rw [hn0, digs_ne (by decide) (by omega)] at this; simp at this
    rw [hv0, Int.zero_add] at H
    exact H _ _ _ _ _ h' F' g2 (N2.ext F')
  · have hn0 : n2 = 0 := by have := of_decide_eq_true e3; omega
    refine ⟨r7, 0, rfl, _, o7'.cell _, _, _, _, o7'.cell _, _, o7'.cell _, ret3 o11 fun h' f => ?_⟩
    have F' : Ext h h' := Fr.trans F f fun x hx e => by omega
    obtain ⟨M, I1, a1, a2⟩ := N2
    have hv0 : w = 0 := by
      rcases numI_cases I1 with ⟨q, _⟩ | q
      · rw [a2, q]; unfold Ieee.signed; simp
      · have := I1.d.len; rw [hn0, digs_ne (by decide) (by omega)] at this; simp at this
    rw [hv0, Int.add_zero] at H
    exact H _ _ _ _ _ h' F' g1 (N1.ext F')
  · have hn0 : 0 < n := by have := of_decide_eq_false e1; omega
    have hn2 : 0 < n2 := by have := of_decide_eq_false e3; omega
    obtain ⟨M, I1, a1, a2⟩ := N1
    obtain ⟨M', I2, b1, b2⟩ := N2
    obtain ⟨p1, p3, p4⟩ := I1.pos hn0
    obtain ⟨q1, q3, q4⟩ := I2.pos hn2
    have le1 := I1.le
    have le2 := I2.le
    refine ⟨r7, 0, rfl, r7, 0 + 2, rfl, _, o7'.cell _, r9, 0, rfl, r9, 0 + 2, rfl, _, o9'.cell _, r7, 0, rfl, r7, 0 + 1, rfl, _, _, _, o7'.cell _, r7, 0, rfl, r7, 0 + 2, rfl, _, o7'.cell _, ?_⟩
    obtain ⟨low, hlow, l1, l2, l3⟩ : ∃ low, (if e2 < e then e2 else e) = low ∧ low ≤ e ∧ low ≤ e2 ∧ 0 ≤ low + (K : Int) := ⟨_, rfl, by split <;> omega, by split <;> omega, by split <;> omega⟩
    rw [hlow]
    rw [i64_in (x := e - low) (by omega) (by omega), show e - low = ((e - low).toNat : Int) by omega]
    refine K177 (I1.d.u.ext F) (by omega) (by omega) fun pA nA cA eA h74 f74 frA DA hA => ⟨_, _, _, rfl, ?_⟩
    have o9a := o9'.ext f74
    refine ⟨r9, 0, rfl, r9, 0 + 1, rfl, _, _, _, o9a.cell _, r9, 0, rfl, r9, 0 + 2, rfl, _, o9a.cell _, ?_⟩
    rw [i64_in (x := e2 - low) (by omega) (by omega), show e2 - low = ((e2 - low).toNat : Int) by omega]
    refine K177 (I2.d.u.ext (Ext.trans F f74)) (by omega) (by omega) fun pB nB cB eB h89 f89 frB DB hB => ⟨_, _, _, rfl, ?_⟩
    have o7b := (o7'.ext f74).ext f89
    have o9b := o9a.ext f89
    have o11b := (o11.ext f74).ext f89
    have F89 := Ext.trans F (Ext.trans f74 f89)
    rw [digs_val (by decide)] at hA hB
    have DA' := DA.ext f89
    have eK : (e + (K : Int)).toNat = (e - low).toNat + (low + (K : Int)).toNat := by omega
    have eK2 : (e2 + (K : Int)).toNat = (e2 - low).toNat + (low + (K : Int)).toNat := by omega
    have hva : v = Ieee.signed neg (val B30 eA) (low + (K : Int)).toNat := by rw [a2, hA, signed_mul, eK]
    have hwb : w = Ieee.signed neg2 (val B30 eB) (low + (K : Int)).toNat := by rw [b2, hB, signed_mul, eK2]
    have blA : bl (val B30 eA) ≤ 50000 := signed_bl (hva ▸ hv)
    have blB : bl (val B30 eB) ≤ 50000 := signed_bl (hwb ▸ hw)
    have nA' : nA ≤ 2000 := DA.short (by omega)
    have nB' : nB ≤ 2000 := DB.short (by omega)
    have hsum := bl_add hv hw
    have s74 := f74.size
    have s89 := f89.size
    have fin : ∀ {h1 : Heap}, Ext h89 h1 → ∀ neg' p' n' c' e' h2, Ext h1 h2 → Fresh h1 p' → NumS K h2 neg' p' n' e' (v + w) →
        isP (some ⟨r11, 0, none⟩) fun b11 o12 => stC h2 b11 o12 (.bool neg') fun h13 => stC h13 b11 (o12 + 1) (.slice p' n' c') fun h14 => stC h14 b11 (o12 + 1 + 1) (.int .i64 e') fun h15 =>
          isP (some ⟨r11, 0, none⟩) fun b16 o17 => ∃ x18, cell? h15 ⟨b16, o17, none⟩ = some (.bool x18) ∧ ∃ x19 x19n x19c, cell? h15 ⟨b16, o17 + 1, none⟩ = some (.slice x19 x19n x19c) ∧
          ∃ x20, cell? h15 ⟨b16, o17 + 1 + 1, none⟩ = some (.int .i64 x20) ∧ R (.returned (.agg #[.bool x18, .slice x19 x19n x19c, .int .i64 x20])) h15 := by
      intro h1 f1 neg' p' n' c' e' h2 f2 fr N
      have s1 := f1.size
      refine ret3 ((o11b.ext f1).ext f2) fun h' f => ?_
      exact H neg' p' n' c' e' h' (Fr.trans (Ext.trans F89 (Ext.trans f1 f2)) f fun x hx e => by omega) (hP _ (fr.mono (by have := F89.size; omega))) (N.fr f fun b o e e4 => by have := fr b o e; omega)
    refine ⟨r7, 0, rfl, r7, 0, rfl, _, o7b.cell _, r9, 0, rfl, r9, 0, rfl, _, o9b.cell _, fun e5 => ?_, fun e5 => ?_⟩
    · have hnn : neg = neg2 := by simpa using e5
      subst hnn
      refine ⟨r7, 0, rfl, r7, 0, rfl, _, o7b.cell _, K178 DA'.u DB.u (by omega) (by omega) fun pC nC cC eC h109 f109 frC UC nC' hC => ⟨_, _, _, rfl, same1 o7b f109 id, ?_⟩⟩
      have hvs : v + w = Ieee.signed neg (val B30 eC) (low + (K : Int)).toNat := by rw [hC, signed_sum, ← hva, ← hwb]
      refine K158 (K := K) UC (by omega) l3 (by omega) hK (by rw [← hvs]; omega) fun neg' p' n' c' e' h114 f114 fr114 N => ⟨_, _, _, _, _, rfl, ?_⟩
      rw [← hvs] at N
      exact fin f109 neg' p' n' c' e' h114 f114 fr114 N
    · have hnn : neg2 = !neg := by
        cases neg <;> cases neg2 <;> simp at e5 ⊢
      refine K179 DA' DB (by omega) (by omega) ⟨_, rfl, fun e6 => ?_, fun e6 => ?_⟩
      · have hle : val B30 eB ≤ val B30 eA := by
          have := of_decide_eq_true e6
          unfold cmpN at this
          split at this
          · omega
          · omega
        refine ⟨r7, 0, rfl, r7, 0, rfl, _, o7b.cell _, ?_⟩
        have nBA : nB ≤ nA := by
          have e1 : digs B30 (val B30 eA) = eA := digs_of (by decide) DA.dig DA.trim
          have e2 : digs B30 (val B30 eB) = eB := digs_of (by decide) DB.dig DB.trim
          rw [← DA.len, ← DB.len]
          rcases Nat.lt_or_ge eA.length eB.length with hl | hl
          · exfalso
            have h1 := val_lt DA.dig
            have h2 := val_pos (b := B30) (x := eB) (by intro e; rw [e] at hl; simp at hl) DB.trim (by decide)
            have h3 : B30 ^ eA.length ≤ B30 ^ (eB.length - 1) := Nat.pow_le_pow_right (by decide) (by omega)
            omega
          · exact hl
        refine K180 DA'.u DB.u (by omega) nBA hle fun pC nC cC eC h109 f109 frC DC hC => ⟨_, _, _, rfl, same1 o7b f109 id, ?_⟩
        have hvs : v + w = Ieee.signed neg (val B30 eC) (low + (K : Int)).toNat := by
          rw [hC, signed_dif _ hle, ← hva, hwb, hnn, signed_opp]; omega
        have nC' : nC ≤ 2001 := DC.short (by rw [hC]; exact Nat.le_trans (bl_mono (Nat.sub_le _ _)) (by omega))
        refine K158 (K := K) DC.u (by omega) l3 (by omega) hK (by rw [← hvs]; omega) fun neg' p' n' c' e' h114 f114 fr114 N => ⟨_, _, _, _, _, rfl, ?_⟩
        rw [← hvs] at N
        exact fin f109 neg' p' n' c' e' h114 f114 fr114 N
      · have hle : val B30 eA ≤ val B30 eB := by
          have := of_decide_eq_false e6
          unfold cmpN at this
          split at this
          · omega
          · split at this <;> omega
        refine ⟨r9, 0, rfl, r9, 0, rfl, _, o9b.cell _, ?_⟩
        have nBA : nA ≤ nB := by
          rw [← DA.len, ← DB.len]
          rcases Nat.lt_or_ge eB.length eA.length with hl | hl
          · exfalso
            have h1 := val_lt DB.dig
            have h2 := val_pos (b := B30) (x := eA) (by intro e; rw [e] at hl; simp at hl) DA.trim (by decide)
            have h3 : B30 ^ eB.length ≤ B30 ^ (eA.length - 1) := Nat.pow_le_pow_right (by decide) (by omega)
            omega
          · exact hl
        refine K180 DB.u DA'.u (by omega) nBA hle fun pC nC cC eC h109 f109 frC DC hC => ⟨_, _, _, rfl, same1 o9b f109 id, ?_⟩
        have hvs : v + w = Ieee.signed neg2 (val B30 eC) (low + (K : Int)).toNat := by
          have h1 : Ieee.signed neg2 (val B30 eA) (low + (K : Int)).toNat = -v := by rw [hnn, signed_opp, ← hva]
          rw [hC, signed_dif _ hle, ← hwb, h1]; omega
        have nC' : nC ≤ 2001 := DC.short (by rw [hC]; exact Nat.le_trans (bl_mono (Nat.sub_le _ _)) (by omega))
        refine K158 (K := K) DC.u (by omega) l3 (by omega) hK (by rw [← hvs]; omega) fun neg' p' n' c' e' h114 f114 fr114 N => ⟨_, _, _, _, _, rfl, ?_⟩
        rw [← hvs] at N
        exact fin f109 neg' p' n' c' e' h114 f114 fr114 N
/-- plumbref3.Neg. -/
theorem K213 {K : Nat} {neg : Bool} {p : Option Addr} {n c : Nat} {e v : Int} (N : NumS K h neg p n e v)
    (H : ∀ neg' h', Ext h h' → NumS K h' neg' p n e (-v) → R (.returned (.agg #[.bool neg', .slice p n c, .int .i64 e])) h') : Ent Tryz.prog B 63 #[.agg #[.bool neg, .slice p n c, .int .i64 e]] R h := by
  refine F213_ok _ _ _ _ _ (alK fun r4 h5 e4 f4 o4 z4 => alK fun r6 h7 e6 f6 o6 z6 => ?_)
  have o4' := o4.ext f6
  have F := Ext.trans f4 f6
  have fin : ∀ (neg' : Bool) (h1 : Heap), Fr (fun x => x = r4) h7 h1 → Own h1 r4 #[.bool neg', .slice p n c, .int .i64 e] → (∀ h', Ext h h' → NumS K h' neg' p n e (-v)) → F213_j23 B R (some ⟨r4, 0, none⟩) (some ⟨r6, 0, none⟩) h1 := by
    intro neg' h1 f1 O hN
    refine ⟨r4, 0, rfl, _, O.cell _, _, _, _, O.cell _, _, O.cell _, ret3 (o6.fr f1 (show ¬ r6 = r4 by omega)) fun h' f => ?_⟩
    have F' : Ext h h' := Fr.trans (Fr.trans F f1 fun x hx e => by omega) f fun x hx e => by omega
    exact H neg' h' F' (hN h' F')
  refine ⟨r4, 0, rfl, r4, 0 + 1, rfl, _, _, _, o4'.cell _, fun e1 => ?_, fun e1 => ?_⟩
  · have hn : 0 < n := by have := of_decide_eq_true e1; omega
    refine ⟨r4, 0, rfl, r4, 0, rfl, _, o4'.cell _, r4, 0, rfl, r4, 0, rfl, o4'.stC (by simp) rfl fun oa fa => fin (!neg) _ fa oa fun h' F' => ?_⟩
    obtain ⟨M, I, a1, a2⟩ := N
    exact ⟨M, ⟨(I.d.ext F'), I.le, fun h0 => by omega, I.pos⟩, a1, by rw [a2, signed_opp]⟩
  · have hn : n = 0 := by have := of_decide_eq_false e1; omega
    refine fin neg _ Fr.rfl' o4' fun h' F' => ?_
    obtain ⟨M, I, a1, a2⟩ := N
    have hM : v = 0 := by
      rcases numI_cases I with ⟨q, _⟩ | q
      · rw [a2, q]; unfold Ieee.signed; simp
      · have := I.d.len; rw [hn, digs_ne (by decide) (by omega)] at this; simp at this
    refine ⟨M, I.ext F', a1, ?_⟩
    rw [hM, ← a2, hM]; rfl
end Go.Proofs
