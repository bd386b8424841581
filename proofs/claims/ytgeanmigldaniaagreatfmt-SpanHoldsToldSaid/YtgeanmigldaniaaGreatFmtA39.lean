import Derived.Test.YtgeanmigldaniaaGreatFmtA38
/- Here stand lemmas: span: further contracts; rounding keeps the order. -/
set_option linter.unusedVariables false
set_option linter.unusedVariables false
namespace Go.Eng
open Go
theorem ge_ord {x y : Int} : ((some (compareOfLessAndEq x y) == some Ordering.gt) || (some (compareOfLessAndEq x y) == some Ordering.eq)) = decide (y ≤ x) := by
  unfold compareOfLessAndEq
  by_cases h : x < y
  · rw [if_pos h, decide_eq_false (by omega)]; rfl
  · rw [if_neg h]
    by_cases h2 : x = y
    · rw [if_pos h2, decide_eq_true (by omega)]; rfl
    · rw [if_neg h2, decide_eq_true (by omega)]; rfl
theorem order_0 {a : Int} (ha : I64 a) (na : isNaN a = false) : FloatKind.f64.format.order (wd a) 0 = some (compareOfLessAndEq (rk a) 0) := by
  have := order_rk ha (b := 0) (by unfold I64; omega) na (by decide)
  rw [show wd 0 = 0 from rfl, show rk 0 = 0 from rfl] at this
  exact this
end Go.Eng
namespace Go.Proofs
open Go Go.Eng
variable {B : World} {R : Ending → Heap → Prop} {h : Heap}
set_option maxHeartbeats 1000000 in
/-- span.Square. -/
theorem K1021 {a b : Int} (ht : TabH h) (hk : TabK h) (hN : NoneH h) (ia : I64 a) (ib : I64 b)
    (Hbad : vS a b = false → ∀ h', Ext h h' → R (.returned (.tuple #[.agg #[.int .i64 0, .int .i64 0], .int .i64 (1 : Int)])) h')
    (Hyes : vS a b = true → ∀ x y h', Ext h h' → I64 x → I64 y → isNaN x = false → isNaN y = false → rk x = (if rk a ≤ 0 ∧ 0 ≤ rk b then 0 else min (rk (timW 1 a a)) (rk (timW 1 b b))) → rk y = max (rk (timW 2 a a)) (rk (timW 2 b b)) →
      R (.returned (.tuple #[.agg #[.int .i64 (cnP x), .int .i64 (cnP y)], .int .i64 (0 : Int)])) h') :
    Ent Tryz.prog B 11 #[.agg #[.int .i64 a, .int .i64 b]] R h := by
  refine F1021_ok _ _ (alK fun r1 h1 e1 f1 o1 z1 => alK fun r2 h2 e2 f2 o2 z2 => ?_)
  have O1 := o1.ext f2
  have F2 := Ext.trans f1 f2
  refine ⟨r1, 0, rfl, _, O1.cell _, _, O1.cell _, alK fun r3 h3 e3 f3 o3 z3 => ?_⟩
  refine K1040 (ps := [(a, b)]) o3 rfl (by omega) (fun i hi => ?_) fun h4 f4 => ⟨_, rfl, ?_⟩
  · have : i = 0 := by simp at hi; omega
    subst this
    exact ⟨rfl, rfl, ia, ib⟩
  have ho : okS [(a, b)] = vS a b := by unfold okS; simp
  rw [ho]
  have F4 := Ext.trans (Ext.trans F2 f3) f4
  have O1 := (O1.ext f3).ext f4
  have O2 := (o2.ext f3).ext f4
  have N4 := hN.ext F4
  have n2 : h.size ≤ r2 := by have := f1.size; omega
  cases hv : vS a b
  · refine ⟨fun _ => ⟨_, 0, rfl, _, N4.c0, _, N4.c1, r2, 0, rfl, O2.stC (by simp) rfl fun oa fa => oa.stC (by simp) rfl fun ob fb => ⟨r2, 0, rfl, _, ob.cell _, _, ob.cell _, ?_⟩⟩, fun e => (by cases e)⟩
    have fab := Fr.trans (S := fun x => x = r2) fa fb fun _ _ e => e
    exact Hbad hv _ (Fr.trans F4 fab fun x hx e => by omega)
  obtain ⟨na, nb, _, _, _⟩ := vS_parts hv
  have t := fun w => @tim_nan w a a ia ia na na
  have t' := fun w => @tim_nan w b b ib ib nb nb
  refine ⟨fun e => (by cases e), fun _ => ⟨r1, 0, rfl, r1, 0, rfl, _, O1.cell _, r1, 0, rfl, r1, 0, rfl, _, O1.cell _, r1, 0, rfl, r1, 0 + 1, rfl, _, O1.cell _, r1, 0, rfl, r1, 0 + 1, rfl, _, O1.cell _, ?_⟩⟩
  refine K1046 (ht.fr F4 id) (hk.ext F4) ia ia (by omega) (by omega) fun h5 f5 => ⟨_, rfl, same1 O1 f5 id, same1 O1 f5 id, ?_⟩
  have O1 := O1.ext f5
  have F5 := Ext.trans F4 f5
  refine K1046 (ht.fr F5 id) (hk.ext F5) ib ib (by omega) (by omega) fun h6 f6 => ⟨_, rfl, ?_⟩
  have O1 := O1.ext f6
  have F6 := Ext.trans F5 f6
  obtain ⟨o, x, p1, p2, p3, p4, p5⟩ := min_wd (timW_I64 1 a a) (timW_I64 1 b b) (t 1) (t' 1)
  refine ⟨o, p1, ?_⟩
  rw [p2]
  refine ⟨r1, 0, rfl, r1, 0, rfl, _, O1.cell _, r1, 0, rfl, r1, 0, rfl, _, O1.cell _, r1, 0, rfl, r1, 0 + 1, rfl, _, O1.cell _, r1, 0, rfl, r1, 0 + 1, rfl, _, O1.cell _, ?_⟩
  refine K1046 (ht.fr F6 id) (hk.ext F6) ia ia (by omega) (by omega) fun h7 f7 => ⟨_, rfl, same1 O1 f7 id, same1 O1 f7 id, ?_⟩
  have O1 := O1.ext f7
  have F7 := Ext.trans F6 f7
  refine K1046 (ht.fr F7 id) (hk.ext F7) ib ib (by omega) (by omega) fun h8 f8 => ⟨_, rfl, ?_⟩
  have O1 := O1.ext f8
  have F8 := Ext.trans F7 f8
  obtain ⟨o', y, q1, q2, q3, q4, q5⟩ := max_wd (timW_I64 2 a a) (timW_I64 2 b b) (t 2) (t' 2)
  refine ⟨o', q1, ?_⟩
  rw [q2]
  have O2 := (((O2.ext f5).ext f6).ext f7).ext f8
  have j8 : ∀ z, I64 z → isNaN z = false → rk z = (if rk a ≤ 0 ∧ 0 ≤ rk b then 0 else min (rk (timW 1 a a)) (rk (timW 1 b b))) → F1021_j8 B R (some ⟨r2, 0, none⟩) (wd z) (wd y) h8 := fun z iz nz rz => by
    refine K56 (wi_nn iz nz) ⟨_, rfl, K56 (wi_nn q3 q4) ⟨_, rfl, K1041 iz q3 fun h9 f9 => ⟨_, _, _, rfl, ?_⟩⟩⟩
    refine ⟨r2, 0, rfl, (O2.ext f9).stC (by simp) rfl fun oc fc => oc.stC (by simp) rfl fun od fd => ⟨r2, 0, rfl, _, od.cell _, _, od.cell _, ?_⟩⟩
    have fcd := Fr.trans (S := fun x => x = r2) fc fd fun _ _ e => e
    exact Hyes hv z y _ (Fr.trans (Ext.trans F8 f9) fcd fun x hx e => by omega) iz q3 nz q4 rz q5
  refine ⟨r1, 0, rfl, r1, 0, rfl, _, O1.cell _, K54 ⟨_, rfl, ?_⟩⟩
  rw [order_0 ia na, le_ord]
  refine ⟨fun e => ⟨r1, 0, rfl, r1, 0 + 1, rfl, _, O1.cell _, K54 ⟨_, rfl, ?_⟩⟩, fun e => ⟨fun e2 => (by cases e2), fun _ => j8 x p3 p4 ?_⟩⟩
  · rw [order_0 ib nb, ge_ord]
    have h1 := of_decide_eq_true e
    refine ⟨fun e2 => ?_, fun e2 => j8 x p3 p4 ?_⟩
    · have h2 := of_decide_eq_true e2
      have := j8 0 (by unfold I64; omega) (by decide) (by rw [if_pos ⟨h1, h2⟩]; rfl)
      exact this
    · have h2 := of_decide_eq_false e2
      rw [if_neg (fun k => h2 k.2), p5]
  · have h1 := of_decide_eq_false e
    rw [if_neg (fun k => h1 k.1), p5]
end Go.Proofs
set_option linter.unusedVariables false
namespace Go.Eng
open Go
theorem cn_nz {a : Int} (ha : I64 a) (hn : isNaN a = false) : cnP a ≠ -9223372036854775808 := by
  obtain ⟨s, k, hk, rfl⟩ := as_pat ha hn
  have hz : isNaN 0 = false ∧ isInf 0 = false ∧ fW 0 = 0 ∧ decide ((0 : Int) < 0) = false := ⟨by decide, by decide, by decide, by decide⟩
  unfold cnP addP plusP
  rw [hn, hz.1, hz.2.1, hz.2.2.1, hz.2.2.2]
  by_cases h : k = 9218868437227405312
  · subst h
    have hi : isInf (pat s 9218868437227405312) = true := by cases s <;> decide +kernel
    rw [hi, pat_neg s (by omega)]
    simp only [Bool.or_self, Bool.and_false, Bool.false_and, Bool.false_eq_true, if_false, if_true]
    cases s <;> decide
  · have hf : isFin (pat s k) = true := pat_fin (by omega)
    have hi : isInf (pat s k) = false := (fin_not hf).2
    have hw : fW (pat s k) = if s then -(magK k : Int) else (magK k : Int) := by unfold fW; rw [if_pos hf, fV_mag (by omega)]
    rw [hi, hw, pat_neg s (by omega), Int.add_zero]
    simp only [Bool.or_self, Bool.and_false, Bool.false_and, Bool.false_eq_true, if_false]
    have hab : (if s then -(magK k : Int) else (magK k : Int)).natAbs = magK k := by cases s <;> simp
    rw [hab, rung_mag hk]
    by_cases h0 : k = 0
    · subst h0
      rw [magK_zero]
      cases s <;> decide
    · unfold pat
      split <;> omega
/-- An interval that was told: ends that are no NaNs, canonical, in order. -/
structure TolS (lo hi : Int) : Prop where
  il : I64 lo
  ih : I64 hi
  nl : isNaN lo = false
  nh : isNaN hi = false
  zl : lo ≠ -9223372036854775808
  zh : hi ≠ -9223372036854775808
  v : vS lo hi = true
theorem TolS.mk' {x y : Int} (ix : I64 x) (iy : I64 y) (nx : isNaN x = false) (ny : isNaN y = false) (h1 : rk x ≤ rk y) (h2 : rk x < 9218868437227405312) (h3 : -9218868437227405312 < rk y) : TolS (cnP x) (cnP y) := by
  obtain ⟨a1, a2, a3⟩ := cn_rk ix nx
  obtain ⟨b1, b2, b3⟩ := cn_rk iy ny
  refine ⟨a3, b3, a2, b2, cn_nz ix nx, cn_nz iy ny, ?_⟩
  unfold vS
  rw [a2, b2, a1, b1, decide_eq_true h1, decide_eq_true h2, decide_eq_true h3]; rfl
end Go.Eng
namespace Go.Proofs
open Go Go.Eng
variable {B : World} {R : Ending → Heap → Prop} {h : Heap}
end Go.Proofs
set_option linter.unusedVariables false
namespace Go.Proofs
open Go Go.Eng
variable {B : World} {R : Ending → Heap → Prop} {h : Heap}
theorem ord_ii : (FloatKind.f64.format.order 9218868437227405312 9218868437227405312 == some .eq) = true := by decide +kernel
theorem K1066i (H : R (.returned (.float .f64 9218868437227405312)) h) : Ent Tryz.prog B 51 #[.float .f64 9218868437227405312, .float .f64 9218868437227405312] R h := by
  refine F1066_ok _ _ (K183 (b := false) (by omega) (by decide +kernel) ⟨_, rfl, fun e => (by cases e), fun _ => K183 (b := false) (by omega) (by decide +kernel) ⟨_, rfl, ?_⟩⟩)
  refine ⟨fun e => (by cases e), fun _ => ⟨fun _ => H, fun e => ?_⟩⟩
  rw [ord_ii] at e; cases e
theorem K1044i (H : R (.returned (.int .i64 9218868437227405312)) h) : Ent Tryz.prog B 27 #[.int .i64 9218868437227405312] R h := by
  refine F1044_ok _ (K54 ⟨_, rfl, K185 (ng := false) rfl ⟨_, rfl, ?_⟩⟩)
  rw [wordN_f, wd_inf]
  refine K1066i ⟨_, rfl, ?_⟩
  have hw := wi_nn (m := 9218868437227405312) (by unfold I64; omega) inf_rk.2
  rw [wd_inf] at hw
  exact K56 hw ⟨_, rfl, H⟩
/-- bits.Next, by ranks. -/
theorem K1044r {a : Int} (ia : I64 a) (na : isNaN a = false) (H : ∀ p, I64 p → isNaN p = false → rk p = min (rk a + 1) 9218868437227405312 → R (.returned (.int .i64 p)) h) : Ent Tryz.prog B 27 #[.int .i64 a] R h := by
  obtain ⟨s, k, hk, rfl⟩ := as_pat ia na
  by_cases hi : s = false ∧ k = 9218868437227405312
  · obtain ⟨rfl, rfl⟩ := hi
    exact K1044i (H _ (by unfold I64; omega) inf_rk.2 (by rw [inf_rk.1, rk_pat (by omega)]; rfl))
  · refine K1044 hk hi (H _ (nxK_I64 hk) (nxK_nan hk hi) ?_)
    rw [rk_pat (by omega)]
    unfold nxK
    cases s
    · simp only [Bool.false_eq_true, if_false]
      have : k ≠ 9218868437227405312 := fun e => hi ⟨rfl, e⟩
      unfold rk
      rw [if_neg (by omega)]; omega
    · simp only [if_true]
      by_cases h0 : k = 0
      · rw [if_pos h0, h0]; decide
      · rw [if_neg h0, rk_pat (by omega)]
        simp only [if_true]; omega
theorem rk_neg {a : Int} (ia : I64 a) (na : isNaN a = false) : rk (negP a) = -rk a ∧ I64 (negP a) ∧ isNaN (negP a) = false := by
  obtain ⟨s, k, hk, rfl⟩ := as_pat ia na
  rw [negP_pat hk, rk_pat (by omega), rk_pat (by omega)]
  refine ⟨?_, pat_I64 (by omega), pat_nan hk⟩
  cases s <;> simp
/-- bits.Prev, by ranks. -/
theorem K1043r {a : Int} (ia : I64 a) (na : isNaN a = false) (H : ∀ p, I64 p → isNaN p = false → rk p = max (rk a - 1) (-9218868437227405312) → R (.returned (.int .i64 p)) h) : Ent Tryz.prog B 26 #[.int .i64 a] R h := by
  obtain ⟨n1, n2, n3⟩ := rk_neg ia na
  refine F1043_ok _ (K99 ia ⟨_, rfl, K1044r n2 n3 fun p ip np rp => ⟨_, rfl, K99 ip ⟨_, rfl, ?_⟩⟩⟩)
  obtain ⟨m1, m2, m3⟩ := rk_neg ip np
  exact H _ m2 m3 (by rw [m1, rp, n1]; omega)
end Go.Proofs
set_option linter.unusedVariables false
namespace Go.Proofs
open Go Go.Eng
variable {B : World} {R : Ending → Heap → Prop} {h : Heap}
theorem wi_nan : WI 9221120237041090561 NaNP := ⟨by decide, by decide +kernel⟩
theorem K1044n {a : Int} (ia : I64 a) (na : isNaN a = true) (H : R (.returned (.int .i64 NaNP)) h) : Ent Tryz.prog B 27 #[.int .i64 a] R h := by
  refine F1044_ok _ (K54 ⟨_, rfl, K185 (ng := false) rfl ⟨_, rfl, ?_⟩⟩)
  refine F1066_ok _ _ (K183 (b := true) (wd_lt a) (by rw [sg_wd ia]; exact na) ⟨_, rfl, fun _ => ⟨fun _ => F1087_ok (E116 (n := 9221120237041090561) ⟨_, rfl, _, rfl, _, rfl, K56 wi_nan ⟨_, rfl, H⟩⟩), fun e => (by cases e)⟩, fun e => (by cases e)⟩)
theorem nan_I64 : I64 NaNP := NaNP_I64
theorem neg_nan {a : Int} (na : isNaN a = true) : negP a = NaNP := by unfold negP; rw [if_pos na]
theorem K1043n {a : Int} (ia : I64 a) (na : isNaN a = true) (H : R (.returned (.int .i64 NaNP)) h) : Ent Tryz.prog B 26 #[.int .i64 a] R h := by
  refine F1043_ok _ (K99 ia ⟨_, rfl, ?_⟩)
  rw [neg_nan na]
  refine K1044n nan_I64 isNaN_NaNP ⟨_, rfl, K99 nan_I64 ⟨_, rfl, ?_⟩⟩
  rw [neg_nan isNaN_NaNP]; exact H
/-- So many places below, and above. -/
def Dn (b x : Int) (j : Nat) : Prop := I64 x ∧ (isNaN b = false → isNaN x = false ∧ rk x = max (rk b - j) (-9218868437227405312))
def Up (b x : Int) (j : Nat) : Prop := I64 x ∧ (isNaN b = false → isNaN x = false ∧ rk x = min (rk b + j) 9218868437227405312)
theorem K1043d {b a : Int} {j : Nat} (ib : I64 b) (D : Dn b a j) (H : ∀ p, Dn b p (j + 1) → R (.returned (.int .i64 p)) h) : Ent Tryz.prog B 26 #[.int .i64 a] R h := by
  cases na : isNaN a
  · refine K1043r D.1 na fun p ip np rp => H p ⟨ip, fun nb => ⟨np, ?_⟩⟩
    rw [rp, (D.2 nb).2]; have := rk_bd ib nb; omega
  · refine K1043n D.1 na (H _ ⟨nan_I64, fun nb => ?_⟩)
    rw [(D.2 nb).1] at na; cases na
theorem K1044d {b a : Int} {j : Nat} (ib : I64 b) (D : Up b a j) (H : ∀ p, Up b p (j + 1) → R (.returned (.int .i64 p)) h) : Ent Tryz.prog B 27 #[.int .i64 a] R h := by
  cases na : isNaN a
  · refine K1044r D.1 na fun p ip np rp => H p ⟨ip, fun nb => ⟨np, ?_⟩⟩
    rw [rp, (D.2 nb).2]; have := rk_bd ib nb; omega
  · refine K1044n D.1 na (H _ ⟨nan_I64, fun nb => ?_⟩)
    rw [(D.2 nb).1] at na; cases na
end Go.Proofs
set_option linter.unusedVariables false
namespace Go.Eng
open Go
theorem and7 (x : Int) : 0 ≤ bitsI .and .i64 x (7 : Int) ∧ bitsI .and .i64 x (7 : Int) ≤ 7 := by
  have h1 : bitsI .and .i64 x (7 : Int) = IntKind.i64.wrap (((BitVec.ofInt 64 x &&& BitVec.ofInt 64 (7 : Int)).toNat : Nat) : Int) := rfl
  have h2 : (BitVec.ofInt 64 x &&& BitVec.ofInt 64 (7 : Int)).toNat ≤ 7 := by
    rw [BitVec.toNat_and]
    have : (BitVec.ofInt 64 (7 : Int)).toNat = 7 := by decide
    rw [this]; exact Nat.and_le_right
  rw [h1, wrap_i64_in (by omega) (by omega)]
  omega
theorem same3 {h h' : Heap} {b : Nat} {cs : Array Value} {S : Nat → Prop} (H : Own h b cs) (f : Fr S h h') (hb : ¬ S b) : sameCells h h' b 0 3 := by
  have h1 := H.fr f hb
  simp only [sameCells]
  simp [H.cell, h1.cell]
end Go.Eng
namespace Go.Proofs
open Go Go.Eng
variable {B : World} {R : Ending → Heap → Prop} {h : Heap}
theorem K21f {b : Int} (ht : TabH h) (H : ∀ neg p n c e err h', Ext h h' → Fresh h p → (isFin b = true → err = 0 ∧ NumS 1074 h' neg p n e (fV b)) → (isFin b = false → err = 10) → R (.returned (.tuple #[.agg #[.bool neg, .slice p n c, .int .i64 e], .int .i64 err])) h') :
    Ent Tryz.prog B 25 #[.int .i64 b] R h := by
  cases hf : isFin b
  · exact K21n hf fun h' f => H _ _ _ _ _ _ h' f Fresh.nil (fun e => by rw [hf] at e; cases e) fun _ => rfl
  · exact K21 ht hf fun neg p n c e h' f fr N => H neg p n c e 0 h' f fr (fun _ => ⟨rfl, N⟩) fun e => by rw [hf] at e; cases e
/-- plumblaw8.around. -/
theorem K1017 {b u w : Int} (ht : TabH h) (ib : I64 b)
    (H : ∀ lo hi neg p n c e err h', Ext h h' → Dn b lo (bitsI .and .i64 u (7 : Int)).toNat → Up b hi (bitsI .and .i64 w (7 : Int)).toNat → (isFin b = true → err = 0 ∧ NumS 1074 h' neg p n e (fV b)) → (isFin b = false → err = 10) →
      R (.returned (.tuple #[.agg #[.int .i64 lo, .int .i64 hi], .agg #[.bool neg, .slice p n c, .int .i64 e], .bool (decide (err = (0 : Int)))])) h') :
    Ent Tryz.prog B 6 #[.int .i64 b, .int .i64 u, .int .i64 w] R h := by
  obtain ⟨u0, u7⟩ := and7 u
  obtain ⟨w0, w7⟩ := and7 w
  refine F1017_ok _ _ _ (alK fun r1 h1 e1 f1 o1 z1 => alK fun r2 h2 e2 f2 o2 z2 => ?_)
  have F2 := Ext.trans f1 f2
  refine K21f (ht.fr F2 id) fun neg p n c e err h3 f3 hfr hfin hinf => ⟨_, _, _, _, _, _, rfl, ?_⟩
  refine alK fun r4 h4 e4 f4 o4 z4 => ⟨r4, 0, rfl, o4.stC (by simp) rfl fun oa fa => oa.stC (by simp) rfl fun ob fb => ob.stC (by simp) rfl fun oc fc => ?_⟩
  have fac := Fr.trans (S := fun x => x = r4) (Fr.trans (S := fun x => x = r4) fa fb fun _ _ e => e) fc fun _ _ e => e
  generalize setCell (setCell (setCell h4 _ _) _ _) _ _ = h5 at *
  have O4 : Own h5 r4 #[.bool neg, .slice p n c, .int .i64 e] := oc
  clear oa ob oc fa fb fc
  have E35 : Ext h3 h5 := Fr.trans f4 fac fun x hx e => by omega
  have F5 := Ext.trans (Ext.trans F2 f3) E35
  have O1 := ((o1.ext f2).ext f3).ext E35
  have O2 := (o2.ext f3).ext E35
  have l1 := o1.lt
  have s1 := f1.size
  have s2 := f2.size
  have s3 := f3.size
  refine ⟨fun m l g => match l with
    | [.int _ x1, .int _ x2, .pointer p1, .pointer p2, .pointer p3, .int _ x4, .int _ lo, .int _ hi, .int _ i] => x1 = u ∧ x2 = w ∧ p1 = some (⟨r1, 0, none⟩ : Addr) ∧ p2 = some (⟨r2, 0, none⟩ : Addr) ∧ p3 = some (⟨r4, 0, none⟩ : Addr) ∧ x4 = err ∧ hi = b ∧ g = h5 ∧
        ∃ j : Nat, i = (j : Int) ∧ j ≤ (bitsI .and .i64 u (7 : Int)).toNat ∧ m = (bitsI .and .i64 u (7 : Int)).toNat - j ∧ Dn b lo j
    | _ => False, (bitsI .and .i64 u (7 : Int)).toNat, ⟨rfl, rfl, rfl, rfl, rfl, rfl, rfl, rfl, 0, rfl, by omega, rfl, ib, fun nb => ⟨nb, by have := rk_bd ib nb; omega⟩⟩, ?_⟩
  rintro m g u' w' _ _ _ err' lo b' _ ⟨rfl, rfl, rfl, rfl, rfl, rfl, rfl, rfl, j, rfl, hj, rfl, hD⟩ _
  refine ⟨fun e => ?_, fun e => ?_⟩
  · have := of_decide_eq_true e
    refine K1043d ib hD fun p hp => ⟨_, rfl, (bitsI .and .i64 u' (7 : Int)).toNat - (j + 1), by omega, rfl, rfl, rfl, rfl, rfl, rfl, rfl, rfl, j + 1, by rw [i64_in (by omega) (by omega)]; rfl, by omega, rfl, hp⟩
  have hj2 : j = (bitsI .and .i64 u' (7 : Int)).toNat := by have := of_decide_eq_false e; omega
  rw [hj2] at hD
  refine ⟨fun m l g' => match l with
    | [.int _ x2, .pointer p1, .pointer p2, .pointer p3, .int _ x4, .int _ lo', .int _ hi, .int _ i] => x2 = w' ∧ p1 = some (⟨r1, 0, none⟩ : Addr) ∧ p2 = some (⟨r2, 0, none⟩ : Addr) ∧ p3 = some (⟨r4, 0, none⟩ : Addr) ∧ x4 = err' ∧ lo' = lo ∧ g' = g ∧
        ∃ j : Nat, i = (j : Int) ∧ j ≤ (bitsI .and .i64 w' (7 : Int)).toNat ∧ m = (bitsI .and .i64 w' (7 : Int)).toNat - j ∧ Up b' hi j
    | _ => False, (bitsI .and .i64 w' (7 : Int)).toNat, ⟨rfl, rfl, rfl, rfl, rfl, rfl, rfl, 0, rfl, by omega, rfl, ib, fun nb => ⟨nb, by have := rk_bd ib nb; omega⟩⟩, ?_⟩
  rintro m2 g2 w2 _ _ _ err2 lo2 hi _ ⟨rfl, rfl, rfl, rfl, rfl, rfl, rfl, k, rfl, hk, rfl, hU⟩ _
  refine ⟨fun e => ?_, fun e => ?_⟩
  · have := of_decide_eq_true e
    refine K1044d ib hU fun p hp => ⟨_, rfl, (bitsI .and .i64 w2 (7 : Int)).toNat - (k + 1), by omega, rfl, rfl, rfl, rfl, rfl, rfl, rfl, k + 1, by rw [i64_in (by omega) (by omega)]; rfl, by omega, rfl, hp⟩
  have hk2 : k = (bitsI .and .i64 w2 (7 : Int)).toNat := by have := of_decide_eq_false e; omega
  rw [hk2] at hU
  refine ⟨r4, 0, rfl, _, O4.cell _, _, _, _, O4.cell _, _, O4.cell _, r1, 0, rfl, O1.stC (by simp) rfl fun oa fa => oa.stC (by simp) rfl fun ob fb => ?_⟩
  have fab := Fr.trans (S := fun x => x = r1) fa fb fun _ _ e => e
  generalize setCell (setCell g2 _ _) _ _ = g3 at *
  have ob : Own g3 r1 #[.int .i64 lo2, .int .i64 hi] := ob
  have O2' := O2.fr fab (by omega)
  refine ⟨same3 O4 fab (by omega), r2, 0, rfl, O2'.stC (by simp) rfl fun oc fc => oc.stC (by simp) rfl fun od fd => od.stC (by simp) rfl fun oe fe => ?_⟩
  have fce := Fr.trans (S := fun x => x = r2) (Fr.trans (S := fun x => x = r2) fc fd fun _ _ e => e) fe fun _ _ e => e
  have ob' := ob.fr fce (by omega)
  refine ⟨r1, 0, rfl, _, ob'.cell _, _, ob'.cell _, r2, 0, rfl, _, oe.cell _, _, _, _, oe.cell _, _, oe.cell _, ?_⟩
  exact H lo2 hi neg p n c _ err2 _ (Fr.trans (Fr.trans F5 fab fun x hx e => by omega) fce fun x hx e => by omega) hD hU (fun e => ⟨(hfin e).1, (((hfin e).2.ext E35).fr fab fun x o hp => by have := hfr x o hp; omega).fr fce fun x o hp => by have := hfr x o hp; omega⟩) hinf
end Go.Proofs
set_option linter.unusedVariables false
/-! Rounding is monotone. -/
namespace Go.Eng
open Go
theorem cut_bd {m : Nat} (e : Int) (hm : m ≠ 0) : cutX m e < 2 ^ (53 + cutD m e) ∧ (lastP m e ≠ -1074 → 2 ^ (52 + cutD m e) ≤ cutX m e) := by
  have h := (Nat.log2_eq_iff hm).1 rfl
  unfold cutX cutD
  have hL : lastP m e = max (e + m.log2 - 52) (-1074) := rfl
  generalize lastP m e = L at *
  by_cases hc : L ≤ e
  · rw [show (L - e).toNat = 0 by omega]
    obtain ⟨j, hj⟩ : ∃ j : Nat, (e - L).toNat = j ∧ m.log2 + j ≤ 52 := ⟨_, rfl, by omega⟩
    rw [hj.1]
    refine ⟨?_, fun hne => ?_⟩
    · have a1 : m * 2 ^ j < 2 ^ (m.log2 + 1) * 2 ^ j := Nat.mul_lt_mul_of_pos_right h.2 (Nat.pow_pos (by decide))
      rw [← Nat.pow_add] at a1
      exact Nat.lt_of_lt_of_le a1 (Nat.pow_le_pow_right (by decide) (by omega))
    · have a2 : 2 ^ m.log2 * 2 ^ j ≤ m * 2 ^ j := Nat.mul_le_mul_right _ h.1
      rw [← Nat.pow_add, show m.log2 + j = 52 + 0 by omega] at a2
      exact a2
  · rw [show (e - L).toNat = 0 by omega, Nat.pow_zero, Nat.mul_one]
    refine ⟨Nat.lt_of_lt_of_le h.2 (Nat.pow_le_pow_right (by decide) (by omega)), fun hne => ?_⟩
    exact Nat.le_trans (Nat.pow_le_pow_right (by decide) (by omega)) h.1
theorem lastP_mono {m n : Nat} (e : Int) (h : m ≤ n) (hm : m ≠ 0) : lastP m e ≤ lastP n e := by
  have h1 : m.log2 ≤ n.log2 := by
    have := (Nat.log2_eq_iff hm).1 rfl
    exact (Nat.le_log2 (by omega)).2 (Nat.le_trans this.1 h)
  unfold lastP; omega
/-- The rung below, and the rung above. -/
theorem flo_mono {m n : Nat} (e : Int) (h : m ≤ n) (hm : m ≠ 0) : flo m e ≤ flo n e ∧ flo m e + (odd m e).toNat ≤ flo n e + (odd n e).toNat := by
  have hn : n ≠ 0 := by omega
  have hl := lastP_mono e h hm
  obtain ⟨b1, _⟩ := cut_bd e hm
  obtain ⟨c1, c2⟩ := cut_bd e hn
  have p1 : 0 < 2 ^ cutD m e := Nat.pow_pos (by decide)
  have p2 : 0 < 2 ^ cutD n e := Nat.pow_pos (by decide)
  have odd1 : ∀ k : Nat, (odd k e).toNat ≤ 1 := fun k => by cases odd k e <;> decide
  by_cases heq : lastP m e = lastP n e
  · have hX : cutX m e ≤ cutX n e := by unfold cutX; rw [heq]; exact Nat.mul_le_mul_right _ h
    have hD : cutD m e = cutD n e := by unfold cutD; rw [heq]
    have hq : cutX m e / 2 ^ cutD m e ≤ cutX n e / 2 ^ cutD n e := by rw [hD]; exact Nat.div_le_div_right hX
    refine ⟨by unfold flo; rw [heq]; omega, ?_⟩
    by_cases hqe : cutX m e / 2 ^ cutD m e = cutX n e / 2 ^ cutD n e
    · have ho : (odd m e).toNat ≤ (odd n e).toNat := by
        unfold odd
        by_cases h0 : cutX n e % 2 ^ cutD n e = 0
        · have d1 := Nat.div_add_mod (cutX m e) (2 ^ cutD m e)
          have d2 := Nat.div_add_mod (cutX n e) (2 ^ cutD n e)
          rw [hD] at d1 hqe
          rw [hqe] at d1
          have : cutX m e % 2 ^ cutD m e = 0 := by rw [hD]; omega
          rw [this, h0]; decide
        · rw [decide_eq_true h0]
          cases decide (cutX m e % 2 ^ cutD m e ≠ 0) <;> decide
      unfold flo; rw [heq, hqe]; omega
    · have := odd1 m
      unfold flo; rw [heq]; omega
  · have hn2 : lastP n e ≠ -1074 := by
      have := lastP_ge m e; omega
    have q1 : cutX m e / 2 ^ cutD m e < 9007199254740992 := by
      rw [Nat.div_lt_iff_lt_mul p1, show (9007199254740992 : Nat) = 2 ^ 53 by decide, ← Nat.pow_add]; exact b1
    have q2 : 4503599627370496 ≤ cutX n e / 2 ^ cutD n e := by
      rw [Nat.le_div_iff_mul_le p2, show (4503599627370496 : Nat) = 2 ^ 52 by decide, ← Nat.pow_add]; exact c2 hn2
    have g1 := lastP_ge m e
    have hz : (lastP m e + 1074).toNat + 1 ≤ (lastP n e + 1074).toNat := by omega
    have o1 := odd1 m
    unfold flo
    generalize (lastP m e + 1074).toNat = x at *
    generalize (lastP n e + 1074).toNat = y at *
    generalize cutX m e / 2 ^ cutD m e = q at *
    generalize cutX n e / 2 ^ cutD n e = r at *
    constructor <;> omega
end Go.Eng
set_option linter.unusedVariables false
namespace Go.Eng
open Go
theorem dirP_mono {w m n : Nat} (neg : Bool) (e : Int) (hw : w = 1 ∨ w = 2) (h : m ≤ n) (hm : m ≠ 0) : dirP w neg m e ≤ dirP w neg n e := by
  obtain ⟨h1, h2⟩ := flo_mono e h hm
  have hi : idxW w neg m e ≤ idxW w neg n e := by
    unfold idxW awayW
    rcases hw with rfl | rfl
    · cases neg
      · simpa using h1
      · simpa using h2
    · cases neg
      · simpa using h2
      · simpa using h1
  unfold dirP
  have hI : 0 < INF := by decide
  generalize INF = J at *
  generalize idxW w neg m e = x at *
  generalize idxW w neg n e = y at *
  cases topW w neg
  · simp only [Bool.false_eq_true, if_false]
    split <;> split <;> omega
  · simp only [if_true]
    split <;> split <;> omega
theorem inf_lt63 : INF < 9223372036854775808 := by decide
theorem rk_dirV (w : Nat) (v e : Int) : rk (dirV w v e) = if v = 0 then 0 else if v < 0 then -(dirP w true v.natAbs e : Int) else (dirP w false v.natAbs e : Int) := by
  unfold dirV
  by_cases h0 : v = 0
  · rw [if_pos h0, if_pos h0]; decide
  · rw [if_neg h0, if_neg h0]
    have hb : ∀ b, dirP w b v.natAbs e < 9223372036854775808 := fun b => Nat.lt_of_le_of_lt (dirP_le w b _ e) inf_lt63
    by_cases h1 : v < 0
    · rw [decide_eq_true h1, rk_pat (hb true), if_pos h1, if_pos rfl]
    · rw [decide_eq_false h1, rk_pat (hb false), if_neg h1, if_neg Bool.false_ne_true]
/-- Rounding down, and up, keeps the order. -/
theorem dirV_mono {w : Nat} {v v' : Int} (e : Int) (hw : w = 1 ∨ w = 2) (h : v ≤ v') : rk (dirV w v e) ≤ rk (dirV w v' e) := by
  rw [rk_dirV, rk_dirV]
  by_cases h0 : v = 0
  · rw [if_pos h0]
    by_cases h1 : v' = 0
    · rw [if_pos h1]; omega
    · rw [if_neg h1, if_neg (by omega)]; omega
  · rw [if_neg h0]
    by_cases h1 : v < 0
    · rw [if_pos h1]
      by_cases h2 : v' = 0
      · rw [if_pos h2]; omega
      · rw [if_neg h2]
        by_cases h3 : v' < 0
        · rw [if_pos h3]
          have := dirP_mono true e hw (show v'.natAbs ≤ v.natAbs by omega) (by omega)
          omega
        · rw [if_neg h3]; omega
    · rw [if_neg h1, if_neg (by omega), if_neg (by omega)]
      have := dirP_mono false e hw (show v.natAbs ≤ v'.natAbs by omega) (by omega)
      omega
end Go.Eng
set_option linter.unusedVariables false
namespace Go.Eng
open Go
theorem addP_zero {a c : Int} (fa : isFin a = true) (fc : isFin c = true) (h : fV a + fV c = 0) : rk (addP a c) = 0 := by
  obtain ⟨a1, a2⟩ := fin_not fa
  obtain ⟨b1, b2⟩ := fin_not fc
  have e : addP a c = pat (decide (a < 0) && decide (c < 0)) (rung 0 (-1074)) := by
    unfold addP plusP fW
    rw [a1, a2, b1, b2, fa, fc, if_pos rfl, if_pos rfl, h]; rfl
  rw [e, rung_zero, rk_pat (by omega)]
  cases (decide (a < 0) && decide (c < 0)) <;> rfl
theorem rung_pos {m : Nat} (hm : m ≠ 0) : 0 < rung m (-1074) := by
  have h1 := (kpt_bd (m := m) (-1074) hm).2
  have hk : 0 < (lastP m (-1074) + 1074).toNat * 4503599627370496 + kpt m (-1074) := by
    rcases h1 with h | h
    · have : kpt m (-1074) = m := by
        unfold kpt
        rw [h]
        show rn (m * 2 ^ 0) 0 = m
        rw [Nat.pow_zero, Nat.mul_one, rn_zero]
      omega
    · omega
  unfold rung
  omega
theorem addP_cls {a c : Int} (fa : isFin a = true) (fc : isFin c = true) (h : cls (addP a c) = 0) : fV a + fV c = 0 := by
  obtain ⟨a1, a2⟩ := fin_not fa
  obtain ⟨b1, b2⟩ := fin_not fc
  by_cases h0 : fV a + fV c = 0
  · exact h0
  · exfalso
    have e : addP a c = pat (decide (fV a + fV c < 0)) (rung (fV a + fV c).natAbs (-1074)) := by
      unfold addP plusP fW
      rw [a1, a2, b1, b2, fa, fc, if_pos rfl, if_pos rfl]
      simp only [Bool.or_self, Bool.and_false, Bool.false_and, Bool.false_eq_true, if_false]
      rw [if_neg h0]
    rw [e, cls_zero (show rung _ _ ≤ _ from Nat.min_le_right _ _)] at h
    have := rung_pos (m := (fV a + fV c).natAbs) (by omega)
    omega
end Go.Eng
namespace Go.Proofs
open Go Go.Eng
/-- The rank of a sum of finite ones, rounded down or up. -/
theorem addW_fin {w a c : Int} (hw : w = 1 ∨ w = 2) (fa : isFin a = true) (fc : isFin c = true) : rk (addW w a c) = rk (dirV w.toNat (fV a + fV c) (-1074)) := by
  unfold addW
  split
  · rename_i h
    rw [addP_cls fa fc h.2.2.1, dirV_zero]; decide
  · split
    · rename_i h
      rcases h with h | h | h
      · omega
      · rw [fa, fc] at h; cases h
      · rw [h, dirV_zero, addP_zero fa fc h]; rfl
    · rfl
end Go.Proofs
