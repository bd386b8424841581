import Derived.Test.YteailhnlphhfdaaGreatFmtA59
import Derived.Test.YteailhnlphhfdaaGreatFmtA60
import Derived.Test.YteailhnlphhfdaaGreatFmtA57
import Derived.Test.YteailhnlphhfdaaGreatFmtA34
/- Here stand lemmas: the walks of the rows of chapter 4. -/
set_option linter.unusedVariables false
set_option linter.unusedVariables false
/-! plumblaw4.RoundBetween, RoundNearest, RoundMirrors. -/
namespace Go.Proofs
open Go Go.Eng
variable {B : World} {R : Ending → Heap → Prop} {h : Heap}
/-- round.To. -/
theorem K1030R {K k : Nat} {neg : Bool} {p : Option Addr} {n c : Nat} {e v w : Int} (N : NumS K h neg p n e v) (hw : w = (k : Int)) (h4 : k < 4)
    (H : ∀ h', Ext h h' → R (.returned (.tuple #[.int .i64 (toR k v K), .bool (inxV v (-(K : Int))), .int .i64 (0 : Int)])) h') :
    Ent Tryz.prog B 7 #[.agg #[.bool neg, .slice p n c, .int .i64 e], .int .i64 w] R h := by
  refine K1030 N (by omega) (by omega) fun h' f => ?_
  have := H h' f
  rw [show w.toNat = k by omega]
  exact this
theorem and3 (x : Int) : ∃ w : Nat, w < 4 ∧ bitsI .and .i64 x (3 : Int) = (w : Int) := by
  refine ⟨_, ?_, and_i64 (x := x) (m := 3) (by decide)⟩
  rw [show (3 : Nat) = 2 ^ 2 - 1 by decide, Nat.and_two_pow_sub_one_eq_mod]
  exact Nat.mod_lt _ (by decide)
theorem back_get {b w : Nat} {K : Int → Prop} (hw : w < 4) (O : Own h b #[.int .i64 (0 : Int), .int .i64 (2 : Int), .int .i64 (1 : Int), .int .i64 (3 : Int)]) (k : K (bkW w : Int)) :
    ixW (some ⟨b, 0, none⟩) 4 (w : Int) 1 fun x3 y3 => isP (some ⟨x3, y3, none⟩) fun z3 a4 => ∃ b4, cell? h ⟨z3, a4, none⟩ = some (.int .i64 b4) ∧ K b4 := by
  refine ⟨b, 0, rfl, by omega, by omega, b, _, rfl, _, ?_, k⟩
  rw [Int.toNat_natCast, Nat.mul_one, O.cell]
  have : w = 0 ∨ w = 1 ∨ w = 2 ∨ w = 3 := by omega
  rcases this with rfl | rfl | rfl | rfl <;> rfl
/-- plumblaw4.RoundMirrors. -/
theorem K1317 {neg neg2 : Bool} {p p2 : Option Addr} {n c n2 c2 : Nat} {e e2 way : Int} {xs ys : List Int} (ht : TabH h) (I : IntsH h p xs) (hn : xs.length = n) (I2 : IntsH h p2 ys) (hn2 : ys.length = n2) (H : ∀ h', Ext h h' → R (.returned (.bool true)) h') :
    Ent Tryz.prog B 5 #[.agg #[.bool neg, .slice p n c, .int .i64 e], .agg #[.bool neg2, .slice p2 n2 c2, .int .i64 e2], .int .i64 way] R h := by
  obtain ⟨w, hw, ew⟩ := and3 way
  have hw2 : bkW w < 4 := by
    have : w = 0 ∨ w = 1 ∨ w = 2 ∨ w = 3 := by omega
    rcases this with rfl | rfl | rfl | rfl <;> decide
  refine F1317_ok _ _ _ _ _ _ _ _ _ _ _ (alK fun r1 h1 e1 f1 o1 z1 => alK fun r2 h2 e2' f2 o2 z2 => ?_)
  rw [ew]
  have O1 := o1.ext f2
  have F2 := Ext.trans f1 f2
  refine ⟨r1, 0, rfl, _, O1.cell _, _, _, _, O1.cell _, _, O1.cell _, K1318 (ht.fr F2 id) (I.ext F2) hn fun na pa ma ca ea v h3 f3 fra N hb => ⟨_, _, _, _, _, rfl, lay3 fun r4 h4 f4 l4 O4 => ?_⟩⟩
  have F4 := Ext.trans (Ext.trans F2 f3) f4
  have N4 := N.ext f4
  have O2 := (o2.ext f3).ext f4
  refine ⟨r2, 0, rfl, _, O2.cell _, _, _, _, O2.cell _, _, O2.cell _, K1318 (ht.fr F4 id) (I2.ext F4) hn2 fun nb pb mb cb eb u h5 f5 frb M hb2 => ⟨_, _, _, _, _, rfl, lay3 fun r6 h6 f6 l6 O6 => ?_⟩⟩
  have F6 := Ext.trans (Ext.trans F4 f5) f6
  have O46 := (O4.ext f5).ext f6
  have N6 := (N4.ext f5).ext f6
  have M6 := M.ext f6
  refine alK fun r7 h7 e7 f7 o7 z7 => back_get hw o7 ?_
  have F7 := Ext.trans F6 f7
  have O47 := O46.ext f7
  refine ⟨r4, 0, rfl, _, O47.cell _, _, _, _, O47.cell _, _, O47.cell _, K1025 (ht.fr F7 id) (N6.ext f7) (by decide) (by omega) fun nc pc mc cc ec h8 f8 frc P => ⟨_, _, _, _, _, _, rfl, lay3 fun r9 h9 f9 l9 O9 => ?_⟩⟩
  have F9 := Ext.trans (Ext.trans F7 f8) f9
  have O49 := (O47.ext f8).ext f9
  have N9 := ((N6.ext f7).ext f8).ext f9
  have P9 := P.ext f9
  have O69 := ((O6.ext f7).ext f8).ext f9
  have M9 := ((M6.ext f7).ext f8).ext f9
  refine ⟨r4, 0, rfl, _, O49.cell _, _, _, _, O49.cell _, _, O49.cell _, K1030R (k := w) N9 rfl hw fun h10 f10 => ⟨_, _, _, rfl, ?_⟩⟩
  have O910 := O9.ext f10
  refine ⟨r9, 0, rfl, _, O910.cell _, _, _, _, O910.cell _, _, O910.cell _, K1030R (k := bkW w) (P9.ext f10) rfl hw2 fun h11 f11 => ⟨_, _, _, rfl, ?_⟩⟩
  have O611 := (O69.ext f10).ext f11
  have M11 := (M9.ext f10).ext f11
  refine ⟨r6, 0, rfl, _, O611.cell _, _, _, _, O611.cell _, _, O611.cell _, K1030R (k := w) M11 rfl hw fun h12 f12 => ⟨_, _, _, rfl, ?_⟩⟩
  have O412 := ((O49.ext f10).ext f11).ext f12
  have O612 := O611.ext f12
  have N12 := ((N9.ext f10).ext f11).ext f12
  refine ⟨r4, 0, rfl, _, O412.cell _, _, _, _, O412.cell _, _, O412.cell _, r6, 0, rfl, _, O612.cell _, _, _, _, O612.cell _, _, O612.cell _, ?_⟩
  refine K28 N12 (M11.ext f12) (by decide) (by omega) (by omega) fun h13 f13 => ⟨_, _, rfl, ?_⟩
  have F13 := Ext.trans (Ext.trans (Ext.trans (Ext.trans F9 f10) f11) f12) f13
  refine K1319 (ht.fr F13 id) fun h14 f14 => ⟨_, rfl, fun _ => ?_, fun e => (by cases e)⟩
  have HH := H h14 (Ext.trans F13 f14)
  obtain ⟨a1, b1, _⟩ := toR_wf w v 1400
  obtain ⟨a2, b2, _⟩ := toR_wf w u 1400
  obtain ⟨a3, b3, _⟩ := toR_wf (bkW w) (-v) 1400
  obtain ⟨n1, n2', n3⟩ := rk_neg a1 b1
  refine ⟨fun _ => ?_, fun e => absurd e (by decide)⟩
  rw [inxV_neg, show (inxV v (-((1400 : Nat) : Int)) == inxV v (-((1400 : Nat) : Int))) = true from beq_self_eq_true _]
  refine ⟨fun _ => K99 a1 ⟨_, rfl, K1031e n2' a3 n3 b3 (toR_neg hw) ⟨_, rfl, ?_⟩⟩, fun e => (by cases e)⟩
  have last : F1317_j166 B R (toR w v 1400) (toR w u 1400) (v - u).sign true h14 := by
    refine ⟨fun _ => ⟨fun _ => HH, fun hc => K32n a1 a2 b1 b2 ⟨_, rfl, ?_⟩⟩, fun e => (by cases e)⟩
    have h1 := of_decide_eq_false hc
    have h2 : u ≤ v := by
      rcases Int.lt_trichotomy (v - u) 0 with k | k | k
      · rw [Int.sign_eq_neg_one_of_neg k] at h1; omega
      · omega
      · omega
    have := toR_mono (w := w) (K := 1400) hw (by decide) h2
    rw [decide_eq_false (by omega)]
    exact HH
  refine ⟨fun _ => ⟨fun _ => last, fun hc => K32n a2 a1 b2 b1 ⟨_, rfl, ?_⟩⟩, fun e => (by cases e)⟩
  have h1 := of_decide_eq_false hc
  have h2 : v ≤ u := by
    rcases Int.lt_trichotomy (v - u) 0 with k | k | k
    · omega
    · omega
    · rw [Int.sign_eq_one_of_pos k] at h1; omega
  have := toR_mono (w := w) (K := 1400) hw (by decide) h2
  rw [decide_eq_false (by omega)]
  exact last
end Go.Proofs
