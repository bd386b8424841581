import Derived.Test.YteailhnlphhfdaaGreatFmtA59
import Derived.Test.YteailhnlphhfdaaGreatFmtA60
import Derived.Test.YteailhnlphhfdaaGreatFmtA57
import Derived.Test.YteailhnlphhfdaaGreatFmtA34
/- Here stand lemmas: the walks of the rows of chapter 4. -/
set_option linter.unusedVariables false
set_option linter.unusedVariables false
/-! plumblaw4.RoundBetween, RoundNearest, RoundMirrors. -/
namespace Go.Proofs
open Go Go.Eng
variable {B : World} {R : Ending → Heap → Prop} {h : Heap}
theorem num_neg {K : Nat} {neg : Bool} {p : Option Addr} {n : Nat} {e v : Int} (N : NumS K h neg p n e v) (h0 : v ≠ 0) : neg = decide (v < 0) := by
  obtain ⟨M, N1, N2, N3⟩ := N
  unfold Ieee.signed at N3
  cases neg
  · simp only [Bool.false_eq_true, if_false] at N3
    generalize M <<< (e + (K : Int)).toNat = P at *
    exact (decide_eq_false (by omega)).symm
  · simp only [if_true] at N3
    generalize M <<< (e + (K : Int)).toNat = P at *
    exact (decide_eq_true (by omega)).symm
/-- round.To. -/
theorem K1030R {K k : Nat} {neg : Bool} {p : Option Addr} {n c : Nat} {e v w : Int} (N : NumS K h neg p n e v) (hw : w = (k : Int)) (h4 : k < 4)
    (H : ∀ h', Ext h h' → R (.returned (.tuple #[.int .i64 (toR k v K), .bool (inxV v (-(K : Int))), .int .i64 (0 : Int)])) h') :
    Ent Tryz.prog B 7 #[.agg #[.bool neg, .slice p n c, .int .i64 e], .int .i64 w] R h := by
  refine K1030 N (by omega) (by omega) fun h' f => ?_
  have := H h' f
  rw [show w.toNat = k by omega]
  exact this
/-- The order of a number and a float. -/
def ordR (v b : Int) : Int := if isFin b then (v - fV b * ((2 ^ 326 : Nat) : Int)).sign else if b < 0 then 1 else -1
theorem K1320 {neg : Bool} {p : Option Addr} {n c : Nat} {e v b : Int} (ht : TabH h) (N : NumS 1400 h neg p n e v) (hb : bl v.natAbs ≤ 4000) (H : ∀ h', Ext h h' → R (.returned (.int .i64 (ordR v b))) h') :
    Ent Tryz.prog B 9 #[.agg #[.bool neg, .slice p n c, .int .i64 e], .int .i64 b] R h := by
  refine F1320_ok _ _ _ _ _ _ (alK fun r1 h1 e1 f1 o1 z1 => K21g (ht.fr f1 id) fun neg' p' n' c' e' err h2 f2 A1 A2 => ⟨_, _, _, _, _, _, rfl, lay3 fun r3 h3 f3 l3 O3 => ?_⟩)
  have F := Ext.trans (Ext.trans f1 f2) f3
  cases hf : isFin b
  · have HH := H h3 F
    unfold ordR at HH
    rw [hf] at HH
    rw [A2 hf]
    refine ⟨fun _ => ⟨fun e => ?_, fun e => ?_⟩, fun e => absurd e (by decide)⟩
    · rw [if_neg (by decide), if_pos (of_decide_eq_true e)] at HH; exact HH
    · rw [if_neg (by decide), if_neg (of_decide_eq_false e)] at HH; exact HH
  · obtain ⟨rfl, N2⟩ := A1 hf
    have O1 := (o1.ext f2).ext f3
    refine ⟨fun e => absurd e (by decide), fun _ => ⟨r1, 0, rfl, _, O1.cell _, _, _, _, O1.cell _, _, O1.cell _, r3, 0, rfl, _, O3.cell _, _, _, _, O3.cell _, _, O3.cell _, ?_⟩⟩
    have hfb := fV_bl hf
    refine K28 (N.ext F) ((N2.ext f3).up 326) (by decide) (by omega) (Nat.le_trans (bl_scale (L := 2100) (d := 326) hfb) (by decide)) fun h4 f4 => ⟨_, _, rfl, ?_⟩
    have HH := H h4 (Ext.trans F f4)
    unfold ordR at HH
    rw [hf, if_pos rfl] at HH
    exact HH
theorem sgn_nn {x : Int} (h : 0 ≤ x) : 0 ≤ x.sign := by
  rcases Int.lt_trichotomy x 0 with k | k | k
  · omega
  · rw [k]; decide
  · rw [Int.sign_eq_one_of_pos k]; decide
theorem sgn_np {x : Int} (h : x ≤ 0) : x.sign ≤ 0 := by
  rcases Int.lt_trichotomy x 0 with k | k | k
  · rw [Int.sign_eq_neg_one_of_neg k]; decide
  · rw [k]; decide
  · omega
theorem sgn_z {x : Int} (h : x.sign = 0) : x = 0 := by
  rcases Int.lt_trichotomy x 0 with k | k | k
  · rw [Int.sign_eq_neg_one_of_neg k] at h; omega
  · exact k
  · rw [Int.sign_eq_one_of_pos k] at h; omega
theorem rk_lt0 {a : Int} (h : rk a < 0) : a < 0 := by
  unfold rk at h
  split at h <;> omega
theorem rk_gt0 {a : Int} (h : 0 < rk a) (ia : I64 a) : ¬ a < 0 := by
  unfold I64 at ia
  unfold rk at h
  split at h <;> omega
theorem ord_lo (v : Int) : 0 ≤ ordR v (toR 1 v 1400) := by
  obtain ⟨a, b, c, d, e⟩ := toR_wf 1 v 1400
  unfold ordR
  cases hf : isFin (toR 1 v 1400)
  · rw [if_neg (by decide)]
    have h12 := (dirV_12 v (-((1400 : Nat) : Int))).2.1
    rcases rk_inf a b hf with k | k
    · omega
    · rw [if_pos (rk_lt0 (by omega))]; decide
  · rw [if_pos rfl, e]
    have := dirV_lo (K := 1400) (by decide) (d ▸ hf)
    rw [show 1400 - 1074 = 326 from rfl] at this
    exact sgn_nn (by omega)
theorem ord_hi (v : Int) : ordR v (toR 2 v 1400) ≤ 0 := by
  obtain ⟨a, b, c, d, e⟩ := toR_wf 2 v 1400
  unfold ordR
  cases hf : isFin (toR 2 v 1400)
  · rw [if_neg (by decide)]
    have h12 := (dirV_12 v (-((1400 : Nat) : Int))).2.2
    rcases rk_inf a b hf with k | k
    · rw [if_neg (rk_gt0 (by omega) a)]; decide
    · omega
  · rw [if_pos rfl, e]
    have := dirV_hi (K := 1400) (by decide) (d ▸ hf)
    rw [show 1400 - 1074 = 326 from rfl] at this
    exact sgn_np (by omega)
theorem ord_ne {v : Int} (hi : inxV v (-((1400 : Nat) : Int)) = true) : ordR v (toR 1 v 1400) ≠ 0 := by
  obtain ⟨a, b, c, d, e⟩ := toR_wf 1 v 1400
  unfold ordR
  cases hf : isFin (toR 1 v 1400)
  · rw [if_neg (by decide)]
    split <;> decide
  · rw [if_pos rfl]
    intro k
    have k := sgn_z k
    refine inx_ne (K := 1400) (by decide) hi a hf ?_
    rw [show 1400 - 1074 = 326 from rfl]
    omega
theorem ord_eq {v : Int} (hi : inxV v (-((1400 : Nat) : Int)) = false) : ordR v (toR 1 v 1400) = 0 := by
  obtain ⟨a, b, c, d, e⟩ := toR_wf 1 v 1400
  obtain ⟨x1, x2, x3⟩ := dir_exact (K := 1400) (by decide) hi
  unfold ordR
  rw [d, x1, if_pos rfl, e]
  rw [show 1400 - 1074 = 326 from rfl] at x2
  rw [x2, Int.sub_self]; rfl
theorem toR_ex {v : Int} (hi : inxV v (-((1400 : Nat) : Int)) = false) (w : Nat) : toR w v 1400 = toR 1 v 1400 := by
  unfold toR
  rw [(dir_exact (K := 1400) (by decide) hi).2.2 w]
theorem toR_in {v : Int} (hi : inxV v (-((1400 : Nat) : Int)) = true) : v ≠ 0 ∧ rk (toR 2 v 1400) = rk (toR 1 v 1400) + 1 ∧ (toR 0 v 1400 = toR 1 v 1400 ∨ toR 0 v 1400 = toR 2 v 1400) ∧ toR 3 v 1400 = (if v < 0 then toR 2 v 1400 else toR 1 v 1400) := by
  obtain ⟨a, b, c, d⟩ := dir_inx hi
  refine ⟨a, by rw [(toR_wf 2 v 1400).2.2.1, (toR_wf 1 v 1400).2.2.1]; exact b, ?_, ?_⟩
  · unfold toR
    rcases c with c | c <;> rw [c]
    · exact .inl rfl
    · exact .inr rfl
  · unfold toR
    rw [d]
    split <;> rfl
theorem bne_self' (b : Bool) : (!(b == b)) = false := by cases b <;> rfl
/-- RoundBetween, once all is rounded. -/
theorem between_end {r3 n c : Nat} {neg : Bool} {p : Option Addr} {e v : Int} (ht : TabH h) (O3 : Own h r3 #[.bool neg, .slice p n c, .int .i64 e]) (N : NumS 1400 h neg p n e v) (hb : bl v.natAbs ≤ 4000) (H : ∀ h', Ext h h' → R (.returned (.bool true)) h') (ix : Bool) (hix : inxV v (-((1400 : Nat) : Int)) = ix) :
    F1315_j78 B R (some ⟨r3, 0, none⟩) (toR 1 v 1400) ix (toR 2 v 1400) ix (toR 3 v 1400) ix (toR 0 v 1400) ix false h := by
  refine ⟨fun e => (by cases e), fun _ => ?_⟩
  rw [bne_self']
  refine ⟨fun e => (by cases e), fun _ => ?_⟩
  rw [bne_self']
  refine ⟨fun e => (by cases e), fun _ => ?_⟩
  rw [bne_self']
  refine ⟨fun e => (by cases e), fun _ => ⟨r3, 0, rfl, _, O3.cell _, _, _, _, O3.cell _, _, O3.cell _, K1320 ht N hb fun h1 f1 => ⟨_, rfl, ?_⟩⟩⟩
  rw [decide_eq_false (show ¬ ordR v (toR 1 v 1400) < 0 from fun k => by have := ord_lo v; omega)]
  have O31 := O3.ext f1
  refine ⟨fun e => (by cases e), fun _ => ⟨r3, 0, rfl, _, O31.cell _, _, _, _, O31.cell _, _, O31.cell _, K1320 (ht.fr f1 id) (N.ext f1) hb fun h2 f2 => ⟨_, rfl, ?_⟩⟩⟩
  rw [decide_eq_false (show ¬ 0 < ordR v (toR 2 v 1400) from fun k => by have := ord_hi v; omega)]
  have F2 := Ext.trans f1 f2
  have O32 := O31.ext f2
  refine ⟨fun e => (by cases e), fun _ => ?_⟩
  cases ix
  · refine ⟨fun _ => ⟨r3, 0, rfl, _, O32.cell _, _, _, _, O32.cell _, _, O32.cell _, K1320 (ht.fr F2 id) (N.ext F2) hb fun h3 f3 => ⟨_, rfl, ?_⟩⟩, fun e => absurd e (by decide)⟩
    rw [ord_eq hix, toR_ex hix 2, toR_ex hix 3, toR_ex hix 0]
    refine ⟨fun _ => ?_, fun e => absurd e (by decide)⟩
    rw [decide_eq_true (rfl : toR 1 v 1400 = toR 1 v 1400)]
    refine ⟨fun _ => ?_, fun e => (by cases e)⟩
    rw [decide_eq_true (rfl : toR 1 v 1400 = toR 1 v 1400)]
    refine ⟨fun _ => ?_, fun e => (by cases e)⟩
    rw [decide_eq_true (rfl : toR 1 v 1400 = toR 1 v 1400)]
    exact H h3 (Ext.trans F2 f3)
  · obtain ⟨v0, v1, v2, v3⟩ := toR_in hix
    obtain ⟨a1, b1, c1, d1, _⟩ := toR_wf 1 v 1400
    obtain ⟨a2, b2, c2, d2, _⟩ := toR_wf 2 v 1400
    refine ⟨fun e => absurd e (by decide), fun _ => K1044r a1 b1 fun q iq nq rq => ⟨_, rfl, K1059 iq ⟨_, rfl, r3, 0, rfl, _, O32.cell _, _, _, _, O32.cell _, _, O32.cell _, K1320 (ht.fr F2 id) (N.ext F2) hb fun h3 f3 => ⟨_, rfl, ?_⟩⟩⟩⟩
    have hq : cnP q = toR 2 v 1400 := by
      obtain ⟨x1, x2, x3⟩ := cn_rk iq nq
      have hbd := rk_bd a2 b2
      exact rk_inj x3 a2 (cn_nz iq nq) (pz_nz _) (by rw [x1, rq, v1]; omega)
    rw [decide_eq_false (ord_ne hix), hq]
    refine ⟨fun e => (by cases e), fun _ => ?_⟩
    rw [decide_eq_true (rfl : toR 2 v 1400 = toR 2 v 1400)]
    have O33 := O32.ext f3
    have HH := H h3 (Ext.trans F2 f3)
    have hne : toR 2 v 1400 ≠ toR 1 v 1400 := fun k => by rw [k] at v1; omega
    have hng := num_neg N v0
    have j12 : F1315_j12 B R (some ⟨r3, 0, none⟩) (toR 1 v 1400) (toR 2 v 1400) (toR 3 v 1400) false h3 := by
      refine ⟨fun e => (by cases e), fun _ => ?_⟩
      rw [v3]
      by_cases hv : v < 0
      · rw [if_pos hv, decide_eq_false hne]
        rw [decide_eq_true hv] at hng
        refine ⟨fun e => (by cases e), fun _ => ⟨fun e => (by cases e), fun _ => ?_⟩⟩
        rw [decide_eq_true (rfl : toR 2 v 1400 = toR 2 v 1400)]
        refine ⟨fun _ => ⟨r3, 0, rfl, r3, 0, rfl, _, O33.cell _, ?_⟩, fun e => (by cases e)⟩
        rw [hng]
        exact HH
      · rw [if_neg hv, decide_eq_true (rfl : toR 1 v 1400 = toR 1 v 1400)]
        rw [decide_eq_false hv] at hng
        refine ⟨fun _ => ⟨r3, 0, rfl, r3, 0, rfl, _, O33.cell _, ?_⟩, fun e => (by cases e)⟩
        rw [hng]
        exact ⟨fun _ => HH, fun e => (by cases e)⟩
    refine ⟨fun e => (by cases e), fun _ => ?_⟩
    rcases v2 with k | k
    · rw [k, decide_eq_true (rfl : toR 1 v 1400 = toR 1 v 1400)]
      exact ⟨fun e => (by cases e), fun _ => j12⟩
    · rw [k, decide_eq_false hne, decide_eq_true (rfl : toR 2 v 1400 = toR 2 v 1400)]
      exact ⟨fun _ => j12, fun e => (by cases e)⟩
/-- plumblaw4.RoundBetween. -/
theorem K1315 {neg : Bool} {p : Option Addr} {n c : Nat} {e : Int} {xs : List Int} (ht : TabH h) (I : IntsH h p xs) (hn : xs.length = n) (H : ∀ h', Ext h h' → R (.returned (.bool true)) h') :
    Ent Tryz.prog B 3 #[.agg #[.bool neg, .slice p n c, .int .i64 e]] R h := by
  refine F1315_ok _ _ _ _ _ (alK fun r1 h1 e1 f1 o1 z1 => ⟨r1, 0, rfl, _, o1.cell _, _, _, _, o1.cell _, _, o1.cell _, K1318 (ht.fr f1 id) (I.ext f1) hn fun neg' p' n' c' e' v h2 f2 fr N hb => ⟨_, _, _, _, _, rfl, lay3 fun r3 h3 f3 l3 O3 => ?_⟩⟩)
  have F3 := Ext.trans (Ext.trans f1 f2) f3
  have N3 := N.ext f3
  refine ⟨r3, 0, rfl, _, O3.cell _, _, _, _, O3.cell _, _, O3.cell _, K1030R (k := 1) N3 rfl (by decide) fun h4 f4 => ⟨_, _, _, rfl, ?_⟩⟩
  have O4 := O3.ext f4
  refine ⟨r3, 0, rfl, _, O4.cell _, _, _, _, O4.cell _, _, O4.cell _, K1030R (k := 2) (N3.ext f4) rfl (by decide) fun h5 f5 => ⟨_, _, _, rfl, ?_⟩⟩
  have O5 := O4.ext f5
  refine ⟨r3, 0, rfl, _, O5.cell _, _, _, _, O5.cell _, _, O5.cell _, K1030R (k := 3) ((N3.ext f4).ext f5) rfl (by decide) fun h6 f6 => ⟨_, _, _, rfl, ?_⟩⟩
  have O6 := O5.ext f6
  have F6 := Ext.trans (Ext.trans (Ext.trans F3 f4) f5) f6
  refine ⟨r3, 0, rfl, _, O6.cell _, _, _, _, O6.cell _, _, O6.cell _, K1030R (k := 0) (((N3.ext f4).ext f5).ext f6) rfl (by decide) fun h7 f7 => ⟨_, _, _, rfl, ?_⟩⟩
  refine K1319 (ht.fr (Ext.trans F6 f7) id) fun h8 f8 => ⟨_, rfl, fun e => (by cases e), fun _ => ?_⟩
  have F8 := Ext.trans (Ext.trans F6 f7) f8
  exact between_end (ht.fr F8 id) ((O6.ext f7).ext f8) (((((N3.ext f4).ext f5).ext f6).ext f7).ext f8) hb (fun h9 f9 => H h9 (Ext.trans F8 f9)) _ rfl
end Go.Proofs
