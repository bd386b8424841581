import Derived.Test.YtkfafikejdhccaaGreatDoorA40
import Derived.Test.YtkfafikejdhccaaGreatDoorA41
import Derived.Test.YtkfafikejdhccaaGreatDoorA42
/- Here stand lemmas: the walk of ExpansionCompresses. -/
set_option linter.unusedVariables false
set_option linter.unusedVariables false
namespace Go.Proofs
open Go Go.Eng
variable {B : World} {R : Ending → Heap → Prop} {h : Heap}
theorem numL1 {K b n c : Nat} {neg : Bool} {p : Option Addr} {e v : Int} (O : Own h b #[.bool neg, .slice p n c, .int .i64 e]) (N1 : NumS K h neg p n e v) : NumL K h (some ⟨b, 0, none⟩) [v] := by
  refine .inr ⟨b, 0, _, rfl, O, fun i hi => ?_⟩
  match i, hi with
  | 0, _ => exact ⟨_, _, _, _, _, rfl, rfl, rfl, N1⟩
/-- dyadic.Sign. -/
theorem K48 {K n c : Nat} {neg : Bool} {p : Option Addr} {e v : Int} (N : NumS K h neg p n e v) (H : ∀ h', Ext h h' → R (.returned (.tuple #[.int .i64 v.sign, .int .i64 (0 : Int)])) h') :
    Ent Tryz.prog B 48 #[.agg #[.bool neg, .slice p n c, .int .i64 e]] R h := by
  refine F48_ok _ _ _ _ _ (alK fun r7 h8 e7 f7 o7 z7 => alK fun r9 h10 e9 f9 o9 z9 => ?_)
  have O7 := o7.ext f9
  refine ⟨r7, 0, rfl, _, O7.cell _, _, _, _, O7.cell _, _, O7.cell _, alK fun r23 h24 e23 f23 o23 z23 => ?_⟩
  have F := Ext.trans f7 (Ext.trans f9 f23)
  refine K67 (numL1 o23 (N.ext F)) rfl (by decide) fun xs h26 f26 X => ⟨_, _, _, rfl, ?_⟩
  obtain ⟨x0, rfl⟩ := List.length_eq_one_iff.1 X.len
  obtain ⟨cs, Ob, hc⟩ := X.own
  obtain ⟨c10, c11⟩ := hc 0 (by simp)
  obtain ⟨⟨I0, y1, y2, y3, y5⟩, b0, b1⟩ := X.at_ 0 (by simp) (by simp)
  simp only [List.getElem_cons_zero] at c10 c11 I0 y1 y2 y3 y5 b0 b1
  refine ⟨h24.size, 0, rfl, by decide, by decide, h24.size, _, rfl, h24.size, _, rfl, _, by rw [Ob.cell]; exact c10, ?_⟩
  refine K75 I0 ⟨_, rfl, r9, 0, rfl, ?_⟩
  have O9 := (o9.ext f23).ext f26
  refine O9.stC (by simp) rfl fun a4 g4 => ⟨Ent62, K62r ?_⟩
  have A4 : Own _ r9 #[.int .i64 (0 : Int)] := a4
  refine ⟨r9, 0, rfl, _, A4.cell _, ?_⟩
  have hsg : x0.m.sign = v.sign := by
    rw [y3, Int.sign_mul, Int.sign_eq_one_of_pos (Int.pow_pos (by decide) : (0 : Int) < 2 ^ (x0.e + (K : Int)).toNat), Int.mul_one]
  rw [hsg]
  exact H _ (Fr.trans (Ext.trans F f26) g4 fun x hx e => by have := f7.size; omega)
/-- bits.Ulp, of what is finite. -/
theorem K49 {b : Int} (hf : isFin b = true) (H : R (.returned (.int .i64 (pwP (fX b)))) h) : Ent Tryz.prog B 49 #[.int .i64 b] R h := by
  have h1 := fX_ge b
  have h2 := fX_lt hf
  obtain ⟨w1, w2, w3⟩ := pwP_law (e := fX b) h1 (by omega)
  refine F49_ok _ (K63 hf ⟨_, _, _, _, rfl, nope rfl (K93p (k := 0) (by decide) h1 h2 ⟨_, rfl, K56 (i := pwP (fX b)) ?_ ⟨_, rfl, H⟩⟩)⟩)
  have e : ((0 : Nat) : Int) + fX b = fX b := by omega
  rw [e]
  have := wi_wd w1
  rw [fin_nrm w2] at this
  exact this
/-- A number without its sign. -/
theorem NumS.abs {K : Nat} {neg : Bool} {p : Option Addr} {n : Nat} {e v : Int} (N : NumS K h neg p n e v) : NumS K h false p n e (v.natAbs : Int) := by
  obtain ⟨M, I, h1, rfl⟩ := N
  refine ⟨M, ⟨I.d, I.le, fun k => ?_, I.pos⟩, h1, ?_⟩
  · exact ⟨rfl, (I.zero k).2⟩
  · rw [signed_abs, signed_nat]; rfl
theorem sign_dom {a s : Int} (h : s.natAbs < a.natAbs) : (s + a).sign = a.sign := by
  by_cases ha : a < 0
  · rw [Int.sign_eq_neg_one_of_neg ha, Int.sign_eq_neg_one_of_neg (by omega)]
  · rw [Int.sign_eq_one_of_pos (by omega), Int.sign_eq_one_of_pos (by omega)]
theorem fV_sign {x : Int} (h : fV x ≠ 0) : (fV x).sign = if x < 0 then -1 else 1 := by
  have hm : fM x ≠ 0 := fun k => h (fV_zero.2 k)
  have e : decide (fV x < 0) = decide (x < 0) := signed_neg hm
  by_cases hx : x < 0
  · rw [decide_eq_true hx] at e
    rw [if_pos hx, Int.sign_eq_neg_one_of_neg (of_decide_eq_true e)]
  · rw [decide_eq_false hx] at e
    have := of_decide_eq_false e
    rw [if_neg hx, Int.sign_eq_one_of_pos (by omega)]
theorem good_last {b : Nat} {x : Int} {l : List Int} (G : Good b (l ++ [x])) : fV x ≠ 0 ∧ ((l.map fV).sum).natAbs < (fV x).natAbs := by
  have hv := G.val
  have e : (l ++ [x]).map fV = ((l.map fV).reverse).reverse ++ [fV x] := by rw [List.reverse_reverse, List.map_append]; rfl
  rw [e] at hv
  obtain ⟨x0, hd⟩ := ds_of_vZ hv fun y hy => by
    obtain ⟨z, _, rfl⟩ := List.mem_map.1 (List.mem_reverse.1 hy); exact fl_fV z
  obtain ⟨k, k1, k2⟩ := ds_rest hd
  rw [List.sum_reverse] at k1
  exact ⟨x0, by have := k2.ge x0; omega⟩
theorem sum_snoc (l : List Int) (x : Int) : ((l ++ [x]).map fV).sum = (l.map fV).sum + fV x := by
  rw [List.map_append, List.sum_append]; simp
theorem signV_good {b : Nat} {xs : List Int} (G : Good b xs) : signV xs = ((xs.map fV).sum).sign := by
  by_cases h0 : xs = []
  · subst h0; rfl
  · obtain ⟨l, x, rfl⟩ : ∃ l x, xs = l ++ [x] := ⟨xs.dropLast, xs.getLast h0, (List.dropLast_concat_getLast h0).symm⟩
    obtain ⟨x0, hlt⟩ := good_last G
    rw [sum_snoc, sign_dom hlt, fV_sign x0]
    unfold signV
    rw [List.getLast?_concat]
end Go.Proofs
set_option linter.unusedVariables false
namespace Go.Proofs
open Go Go.Eng
variable {B : World} {R : Ending → Heap → Prop} {h : Heap}
theorem compAns_good {b : Nat} {xs : List Int} (G : Good b xs) (hl : xs.length ≤ 20) (hb : b + 8 < 2091) :
    ∃ cs, compAns xs = (cs, 0) ∧ Good (b + 8) cs ∧ (cs.map fV).sum = (xs.map fV).sum ∧ cs.length ≤ xs.length ∧ (cs = [] → xs = []) ∧ ∀ t, cs.getLast? = some t → isFin t = true ∧ fV t ≠ 0 ∧ ((xs.map fV).sum - fV t).natAbs < 2 ^ (fX t + 1074).toNat ∧ ((xs.map fV).sum).sign = (fV t).sign := by
  have hv : validP xs = true := G.valid (by omega)
  by_cases h0 : xs = []
  · subst h0
    refine ⟨[], ?_, Good.nil, rfl, Nat.le_refl _, fun _ => rfl, fun t ht => by cases ht⟩
    unfold compAns
    rw [hv]; rfl
  · obtain ⟨l, t, w, c1, c2, c3, c4, c5, c6, c7, c8⟩ := comp_good G h0 hl hb
    obtain ⟨t0, hlt⟩ := good_last c2
    refine ⟨l ++ [t], ?_, c2, c3, c4, fun e => by simp at e, fun t' ht => ?_⟩
    · unfold compAns
      rw [hv, c1, ansOf_ok (by omega)]; rfl
    · rw [List.getLast?_concat] at ht
      cases ht
      have ft := (c2.fin t (List.mem_append_right _ (List.mem_singleton.2 rfl))).1
      rw [← c3, sum_snoc]
      refine ⟨ft, t0, ?_, sign_dom hlt⟩
      rw [show (l.map fV).sum + fV t - fV t = (l.map fV).sum by omega]
      rcases c8 with e | e
      · rw [e]; exact Nat.pow_pos (by decide)
      · have ha : (fV t).natAbs = fM t * 2 ^ (fX t + 1074).toNat := by unfold fV; rw [signed_abs]
        have hM := fM_lt t
        rw [ha] at e
        have hw : w ≤ (fX t + 1074).toNat := by
          apply Nat.le_of_not_lt
          intro k
          have h5 : 2 ^ ((fX t + 1074).toNat + 1) ≤ 2 ^ w := Nat.pow_le_pow_right (by decide) k
          rw [Nat.pow_succ] at h5
          have h6 : fM t * 2 ^ (fX t + 1074).toNat < 9007199254740992 * 2 ^ (fX t + 1074).toNat := Nat.mul_lt_mul_of_pos_right hM (Nat.pow_pos (by decide))
          generalize fM t * 2 ^ (fX t + 1074).toNat = Z at *
          omega
        exact Nat.lt_of_lt_of_le c6 (Nat.pow_le_pow_right (by decide) hw)
/-- plumblaw7.ExpansionCompresses. -/
theorem K14 {p : Option Addr} {n c : Nat} (ht : TabH h) (S : SlH h p n c) (H : ∀ h', Ext h h' → R (.returned (.bool true)) h') : Ent Tryz.prog B 14 #[.slice p n c] R h := by
  obtain ⟨xs, I, hn, -, -⟩ := S
  refine F14_ok _ _ _ (K38 20 ht I hn (by decide) fun p1 n1 c1 es h1 f1 L1 G1 le1 => ⟨_, _, _, _, rfl, ?_⟩)
  refine K29 (ht.ext f1) fun h2 f2 => ⟨_, rfl, nope rfl (nope rfl ?_)⟩
  have F2 := Ext.trans f1 f2
  have M1 := L1.ext f2
  obtain ⟨cs, a1, a2, a3, a4, a5, a6⟩ := compAns_good G1 le1 (by omega)
  refine K46 (ht.ext F2) M1.ints M1.len ?_
  rw [a1]
  intro p3 n3 c3 h3 f3 L3
  have L3 : Lj h2 h3 p3 n3 c3 cs := L3
  refine ⟨_, _, _, _, rfl, ?_⟩
  have F3 := Ext.trans F2 f3
  have M1 := M1.ext f3
  have v1 : validP es = true := G1.valid (by omega)
  refine K39 (ht.ext F3) M1.ints M1.len v1 fun s1 q1 m1 d1 e1 h4 f4 fr4 N1 => ⟨_, _, _, _, _, _, rfl, lay3 fun r5 h5 f5 hr5 O5 => ?_⟩
  have f45 := Ext.trans f4 f5
  have F5 := Ext.trans F3 f45
  have M1 := M1.ext f45
  have M3 := L3.ext f45
  have N1 := N1.ext f5
  refine K39 (ht.ext F5) M3.ints M3.len (a2.valid (by omega)) fun s2 q2 m2 d2 e2 h6 f6 fr6 N2 => ⟨_, _, _, _, _, _, rfl, lay3 fun r7 h7 f7 hr7 O7 => ?_⟩
  have f67 := Ext.trans f6 f7
  have F7 := Ext.trans F5 f67
  have M1 := M1.ext f67
  have M3 := M3.ext f67
  have N1 := N1.ext f67
  have N2 := N2.ext f7
  have O5 := O5.ext f67
  refine K47 M1.ints M1.len fun h8 f8 => ?_
  rw [v1]
  refine ⟨_, _, rfl, ?_⟩
  have F8 := Ext.trans F7 f8
  have N1 := N1.ext f8
  have N2 := N2.ext f8
  have O5 := O5.ext f8
  have O7 := O7.ext f8
  have M3 := M3.ext f8
  refine ⟨r5, 0, rfl, _, O5.cell _, _, _, _, O5.cell _, _, O5.cell _, K48 N1 fun h9 f9 => ⟨_, _, rfl, nope rfl (nope rfl (nope rfl (nope rfl ?_)))⟩⟩
  have F9 := Ext.trans F8 f9
  have N1 := N1.ext f9
  have N2 := N2.ext f9
  have O5 := O5.ext f9
  have O7 := O7.ext f9
  have M3 := M3.ext f9
  have b1 := G1.bl
  have b2 := a2.bl
  have g1 := L1.len
  have g3 := L3.len
  refine ⟨r5, 0, rfl, _, O5.cell _, _, _, _, O5.cell _, _, O5.cell _, r7, 0, rfl, _, O7.cell _, _, _, _, O7.cell _, _, O7.cell _, ?_⟩
  refine K41 N1 N2 (by decide) (by omega) (by omega) a3.symm fun h10 f10 => ⟨_, rfl, nope rfl (nope (decide_eq_false (by omega)) (nope ?_ ?_))⟩
  · show (!decide (signV es = ((es.map fV).sum).sign)) = false
    rw [signV_good G1, decide_eq_true rfl]; rfl
  have F10 := Ext.trans F9 f10
  have N1 := N1.ext f10
  have O5 := O5.ext f10
  have M3 := M3.ext f10
  refine ⟨fun e => ?_, fun e => ?_⟩
  · have hcs : cs = [] := List.eq_nil_of_length_eq_zero (by have := of_decide_eq_true e; omega)
    have hes := a5 hcs
    subst hes
    exact H h10 F10
  · have hn0 : n3 ≠ 0 := by have := of_decide_eq_false e; omega
    refine M3.ints.last M3.len hn0 (by omega) fun t ht1 tI ht2 => ?_
    obtain ⟨ft, t0, hres, hsg⟩ := a6 t ht1
    refine K21 (ht.ext F10) ft fun s3 q3 m3 d3 e3 h11 f11 fr11 N3 => ⟨_, _, _, _, _, _, rfl, lay3 fun r12 h12 f12 hr12 O12 => ?_⟩
    have f1112 := Ext.trans f11 f12
    have F12 := Ext.trans F10 f1112
    have N1 := N1.ext f1112
    have N3 := N3.ext f12
    have O5 := O5.ext f1112
    refine ⟨r5, 0, rfl, _, O5.cell _, _, _, _, O5.cell _, _, O5.cell _, r12, 0, rfl, _, O12.cell _, _, _, _, O12.cell _, _, O12.cell _, ?_⟩
    have bt : bl (fV t).natAbs ≤ 3000 := by
      have hm : t ∈ cs := List.mem_of_getLast? ht1
      have hp := p2lt (a := 1130 + 30 * 20 + 8) (b := 1739) (by omega)
      exact bl_of_lt (a := 1739) (Nat.lt_of_le_of_lt (a2.fin t hm).2 hp) (by omega)
    refine K44 (ht.ext F12) N1 N3 (by decide) (by omega) (by omega) fun s4 q4 m4 d4 e4 h13 f13 fr13 N4 => ⟨_, _, _, _, _, _, rfl, lay3 fun r14 h14 f14 hr14 O14 => ?_⟩
    have f1314 := Ext.trans f13 f14
    have F14 := Ext.trans F12 f1314
    refine ⟨r14, 0, rfl, r14, 0, rfl, O14.stC (by simp) rfl fun O15 f15 => ?_⟩
    have F15 := Fr.trans (S := fun _ => False) F14 f15 fun x hx e => by have := F12.size; have := f13.size; omega
    have f135 : Ext h13 _ := Fr.trans (S := fun _ => False) f14 f15 fun x hx e => by omega
    have N4 := (N4.ext f135).abs
    refine K49 ft ⟨_, rfl, ?_⟩
    obtain ⟨w1, w2, w3⟩ := pwP_law (e := fX t) (fX_ge t) (by have := fX_lt ft; omega)
    refine K21 (ht.ext F15) w2 fun s5 q5 m5 d5 e5 h16 f16 fr16 N5 => ⟨_, _, _, _, _, _, rfl, lay3 fun r17 h17 f17 hr17 O17 => ?_⟩
    rw [w3] at N5
    have f1617 := Ext.trans f16 f17
    have F17 := Ext.trans F15 f1617
    have N4 := N4.ext f1617
    have N5 := N5.ext f17
    have O15 := O15.ext f1617
    refine ⟨r14, 0, rfl, _, O15.cell _, _, _, _, O15.cell _, _, O15.cell _, r17, 0, rfl, _, O17.cell _, _, _, _, O17.cell _, _, O17.cell _, ?_⟩
    have hu : (((2 ^ (fX t + 1074).toNat : Nat) : Int)).natAbs = 2 ^ (fX t + 1074).toNat := Int.natAbs_natCast _
    have hX := fX_lt ft
    have bu : bl (((2 ^ (fX t + 1074).toNat : Nat) : Int)).natAbs ≤ 3000 := by
      rw [hu]
      have hq := p2lt (a := (fX t + 1074).toNat) (b := 2046) (by omega)
      exact bl_of_lt (a := 2046) hq (by omega)
    have br : bl (((((es.map fV).sum - fV t).natAbs : Nat) : Int)).natAbs ≤ 3000 := by
      rw [Int.natAbs_natCast]
      have hq := p2le (a := (fX t + 1074).toNat) (b := 2045) (by omega)
      exact bl_of_lt (a := 2045) (Nat.lt_of_lt_of_le hres hq) (by omega)
    refine K28 N4 N5 (by decide) (by omega) (by omega) fun h18 f18 => ⟨_, _, rfl, yes ?_ ?_⟩
    · refine decide_eq_true ?_
      rw [Int.sign_eq_neg_one_of_neg (by omega)]; decide
    · have e1 : (decide (t < 0) == decide (((es.map fV).sum).sign < 0)) = true := by
        rw [hsg, fV_sign t0]
        by_cases h : t < 0
        · rw [if_pos h, decide_eq_true h]; rfl
        · rw [if_neg h, decide_eq_false h]; rfl
      show R (.returned (.bool (decide (t < 0) == decide (((es.map fV).sum).sign < 0)))) h18
      rw [e1]
      exact H h18 (Ext.trans F17 f18)
end Go.Proofs
