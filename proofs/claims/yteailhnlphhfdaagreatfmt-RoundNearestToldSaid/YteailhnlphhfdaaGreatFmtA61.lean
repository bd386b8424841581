import Derived.Test.YteailhnlphhfdaaGreatFmtA59
import Derived.Test.YteailhnlphhfdaaGreatFmtA60
import Derived.Test.YteailhnlphhfdaaGreatFmtA57
import Derived.Test.YteailhnlphhfdaaGreatFmtA34
/- Here stand lemmas: the walks of the rows of chapter 4. -/
set_option linter.unusedVariables false
set_option linter.unusedVariables false
/-! plumblaw4.RoundBetween, RoundNearest, RoundMirrors. -/
namespace Go.Proofs
open Go Go.Eng
variable {B : World} {R : Ending → Heap → Prop} {h : Heap}
/-- round.To. -/
theorem K1030R {K k : Nat} {neg : Bool} {p : Option Addr} {n c : Nat} {e v w : Int} (N : NumS K h neg p n e v) (hw : w = (k : Int)) (h4 : k < 4)
    (H : ∀ h', Ext h h' → R (.returned (.tuple #[.int .i64 (toR k v K), .bool (inxV v (-(K : Int))), .int .i64 (0 : Int)])) h') :
    Ent Tryz.prog B 7 #[.agg #[.bool neg, .slice p n c, .int .i64 e], .int .i64 w] R h := by
  refine K1030 N (by omega) (by omega) fun h' f => ?_
  have := H h' f
  rw [show w.toNat = k by omega]
  exact this
theorem toR_in {v : Int} (hi : inxV v (-((1400 : Nat) : Int)) = true) : v ≠ 0 ∧ rk (toR 2 v 1400) = rk (toR 1 v 1400) + 1 ∧ (toR 0 v 1400 = toR 1 v 1400 ∨ toR 0 v 1400 = toR 2 v 1400) ∧ toR 3 v 1400 = (if v < 0 then toR 2 v 1400 else toR 1 v 1400) := by
  obtain ⟨a, b, c, d⟩ := dir_inx hi
  refine ⟨a, by rw [(toR_wf 2 v 1400).2.2.1, (toR_wf 1 v 1400).2.2.1]; exact b, ?_, ?_⟩
  · unfold toR
    rcases c with c | c <;> rw [c]
    · exact .inl rfl
    · exact .inr rfl
  · unfold toR
    rw [d]
    split <;> rfl
theorem and1_par (x : Int) : bitsI .and .i64 x (1 : Int) = x % 2 := by
  have h1 := and_i64 (x := x) (m := 1) (by decide)
  have e1 : ((1 : Nat) : Int) = 1 := rfl
  rw [e1] at h1
  rw [h1, Nat.and_one_is_mod]
  omega
theorem nearest_end {r3 r8 r9 n c m1 d1 m2 d2 : Nat} {neg g1 g2 : Bool} {p p1 p2 : Option Addr} {e x1 x2 v : Int} (ht : TabH h) (O3 : Own h r3 #[.bool neg, .slice p n c, .int .i64 e]) (N : NumS 1400 h neg p n e v) (hb : bl v.natAbs ≤ 4000)
    (O8 : Own h r8 #[.bool g1, .slice p1 m1 d1, .int .i64 x1]) (O9 : Own h r9 #[.bool g2, .slice p2 m2 d2, .int .i64 x2]) (hix : inxV v (-((1400 : Nat) : Int)) = true)
    (N1 : isFin (toR 1 v 1400) = true → NumS 1074 h g1 p1 m1 x1 (fV (toR 1 v 1400))) (N2 : isFin (toR 2 v 1400) = true → NumS 1074 h g2 p2 m2 x2 (fV (toR 2 v 1400)))
    (H : ∀ h', Ext h h' → R (.returned (.bool true)) h') (l0 : Bool) (hl : l0 = false → isFin (toR 1 v 1400) = true ∧ isFin (toR 2 v 1400) = true) :
    F1316_j10 B R (some ⟨r3, 0, none⟩) (toR 0 v 1400) (toR 1 v 1400) (toR 2 v 1400) (some ⟨r8, 0, none⟩) (some ⟨r9, 0, none⟩) l0 h := by
  obtain ⟨v0, v1, v2, v3⟩ := toR_in hix
  refine ⟨fun _ => ?_, fun e => ?_⟩
  · refine ⟨fun _ => H h Fr.rfl', fun hne => ?_⟩
    rcases v2 with k | k
    · exact absurd k (of_decide_eq_false hne)
    · rw [k, decide_eq_true (rfl : toR 2 v 1400 = toR 2 v 1400)]; exact H h Fr.rfl'
  · obtain ⟨f1, f2⟩ := hl e
    obtain ⟨q1, q2, q3⟩ := nearest_R (K := 1400) (by decide) hix f1 f2
    rw [show 1400 - 1074 = 326 from rfl] at q1 q2 q3
    have b1 := Nat.le_trans (bl_scale (L := 2100) (d := 326) (fV_bl f1)) (show 2100 + 326 ≤ 5000 by decide)
    have b2 := Nat.le_trans (bl_scale (L := 2100) (d := 326) (fV_bl f2)) (show 2100 + 326 ≤ 5000 by decide)
    refine ⟨r3, 0, rfl, _, O3.cell _, _, _, _, O3.cell _, _, O3.cell _, r8, 0, rfl, _, O8.cell _, _, _, _, O8.cell _, _, O8.cell _, ?_⟩
    refine K44 ht N ((N1 f1).up 326) (by decide) (by omega) (by omega) fun ng pg mg cg eg ha fa fra Na => ⟨_, _, _, _, _, _, rfl, lay3 fun ra hb' fb lb Oa => ?_⟩
    have F1 := Ext.trans fa fb
    have O31 := O3.ext F1
    have O91 := O9.ext F1
    refine ⟨r9, 0, rfl, _, O91.cell _, _, _, _, O91.cell _, _, O91.cell _, r3, 0, rfl, _, O31.cell _, _, _, _, O31.cell _, _, O31.cell _, ?_⟩
    refine K44 (ht.fr F1 id) (((N2 f2).up 326).ext F1) (N.ext F1) (by decide) (by omega) (by omega) fun nk pk' mk ck ek hc fc frc Nc => ⟨_, _, _, _, _, _, rfl, lay3 fun rc hd fd ld Oc => ?_⟩
    have Oa1 := (Oa.ext fc).ext fd
    have Na1 := ((Na.ext fb).ext fc).ext fd
    have Nc1 := Nc.ext fd
    refine ⟨ra, 0, rfl, _, Oa1.cell _, _, _, _, Oa1.cell _, _, Oa1.cell _, rc, 0, rfl, _, Oc.cell _, _, _, _, Oc.cell _, _, Oc.cell _, ?_⟩
    generalize fV (toR 1 v 1400) * ((2 ^ 326 : Nat) : Int) = A1 at *
    generalize fV (toR 2 v 1400) * ((2 ^ 326 : Nat) : Int) = A2 at *
    have w1 : bl (v - A1).natAbs ≤ 50000 := by
      rw [Int.sub_eq_add_neg]
      exact Nat.le_trans (bl_add (L := 5000) (by omega) (by rw [Int.natAbs_neg]; omega)) (by decide)
    have w2 : bl (A2 - v).natAbs ≤ 50000 := by
      rw [Int.sub_eq_add_neg]
      exact Nat.le_trans (bl_add (L := 5000) (by omega) (by rw [Int.natAbs_neg]; omega)) (by decide)
    refine K28 Na1 Nc1 (by decide) w1 w2 fun he fe => ⟨_, _, rfl, ?_⟩
    have HH := H he (Ext.trans (Ext.trans (Ext.trans F1 fc) fd) fe)
    rcases Int.lt_trichotomy (v - A1 - (A2 - v)) 0 with k | k | k
    · rw [Int.sign_eq_neg_one_of_neg k, q1 (by omega), decide_eq_true (rfl : toR 1 v 1400 = toR 1 v 1400)]
      exact ⟨fun _ => HH, fun e => absurd e (by decide)⟩
    · rw [k]
      refine ⟨fun e => absurd e (by decide), fun _ => ⟨fun e => absurd e (by decide), fun _ => ?_⟩⟩
      rw [and1_par, q3 (by omega)]
      exact HH
    · rw [Int.sign_eq_one_of_pos k, q2 (by omega), decide_eq_true (rfl : toR 2 v 1400 = toR 2 v 1400)]
      exact ⟨fun e => absurd e (by decide), fun _ => ⟨fun _ => HH, fun e => absurd e (by decide)⟩⟩
/-- plumblaw4.RoundNearest. -/
theorem K1316 {neg : Bool} {p : Option Addr} {n c : Nat} {e : Int} {xs : List Int} (ht : TabH h) (I : IntsH h p xs) (hn : xs.length = n) (H : ∀ h', Ext h h' → R (.returned (.bool true)) h') :
    Ent Tryz.prog B 4 #[.agg #[.bool neg, .slice p n c, .int .i64 e]] R h := by
  refine F1316_ok _ _ _ _ _ (alK fun r1 h1 e1 f1 o1 z1 => ⟨r1, 0, rfl, _, o1.cell _, _, _, _, o1.cell _, _, o1.cell _, K1318 (ht.fr f1 id) (I.ext f1) hn fun neg' p' n' c' e' v h2 f2 fr N hb => ⟨_, _, _, _, _, rfl, lay3 fun r3 h3 f3 l3 O3 => ?_⟩⟩)
  have F3 := Ext.trans (Ext.trans f1 f2) f3
  have N3 := N.ext f3
  refine ⟨r3, 0, rfl, _, O3.cell _, _, _, _, O3.cell _, _, O3.cell _, K1030R (k := 0) N3 rfl (by decide) fun h4 f4 => ⟨_, _, _, rfl, ?_⟩⟩
  have F4 := Ext.trans F3 f4
  refine K1319 (ht.fr F4 id) fun h5 f5 => ⟨_, rfl, fun e => (by cases e), fun _ => ?_⟩
  have F5 := Ext.trans F4 f5
  have O5 := (O3.ext f4).ext f5
  have N5 := (N3.ext f4).ext f5
  refine ⟨fun e => absurd e (by decide), fun _ => ?_⟩
  cases hix : inxV v (-((1400 : Nat) : Int))
  · refine ⟨fun _ => K1319 (ht.fr F5 id) fun h6 f6 => ⟨_, rfl, fun _ => ?_, fun e => (by cases e)⟩, fun e => absurd e (by decide)⟩
    exact H h6 (Ext.trans F5 f6)
  · refine ⟨fun e => absurd e (by decide), fun _ => ⟨r3, 0, rfl, _, O5.cell _, _, _, _, O5.cell _, _, O5.cell _, K1030R (k := 1) N5 rfl (by decide) fun h6 f6 => ⟨_, _, _, rfl, ?_⟩⟩⟩
    have O6 := O5.ext f6
    refine ⟨r3, 0, rfl, _, O6.cell _, _, _, _, O6.cell _, _, O6.cell _, K1030R (k := 2) (N5.ext f6) rfl (by decide) fun h7 f7 => ⟨_, _, _, rfl, ?_⟩⟩
    have F7 := Ext.trans (Ext.trans F5 f6) f7
    refine K21g (ht.fr F7 id) fun na pa ma ca ea erra h8 f8 A1 A2 => ⟨_, _, _, _, _, _, rfl, lay3 fun r9 h9 f9 l9 O9 => ?_⟩
    have F9 := Ext.trans (Ext.trans F7 f8) f9
    refine K21g (ht.fr F9 id) fun nb pb mb cb eb errb h10 f10 B1 B2 => ⟨_, _, _, _, _, _, rfl, lay3 fun r11 h11 f11 l11 O11 => ?_⟩
    have F11 := Ext.trans (Ext.trans F9 f10) f11
    have G9 := Ext.trans (Ext.trans f8 f9) (Ext.trans f10 f11)
    have go := fun l0 hl => nearest_end (B := B) (R := R) (ht.fr F11 id) (((O6.ext f7).ext G9)) (((N5.ext f6).ext f7).ext G9) hb ((O9.ext f10).ext f11) O11 hix (fun k => (((A1 k).2.ext f9).ext f10).ext f11) (fun k => (B1 k).2.ext f11) (fun h' f => H h' (Ext.trans F11 f)) l0 hl
    refine ⟨fun _ => go true (fun e => (by cases e)), fun e1 => go _ fun e2 => ?_⟩
    refine ⟨?_, ?_⟩
    · cases hf : isFin (toR 1 v 1400)
      · rw [A2 hf] at e1; exact absurd e1 (by decide)
      · rfl
    · cases hf : isFin (toR 2 v 1400)
      · rw [B2 hf] at e2; exact absurd e2 (by decide)
      · rfl
end Go.Proofs
