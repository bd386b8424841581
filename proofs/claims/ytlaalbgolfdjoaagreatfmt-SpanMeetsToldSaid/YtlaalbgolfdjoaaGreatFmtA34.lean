import Derived.Test.YtlaalbgolfdjoaaGreatFmtA33
import Derived.Test.YtlaalbgolfdjoaaGreatFmtA24
import Derived.Test.YtlaalbgolfdjoaaGreatFmtA27
/- Here stand lemmas: span: contracts, and the walk of the row. -/
set_option linter.unusedVariables false
set_option linter.unusedVariables false
namespace Go.Proofs
open Go Go.Eng
variable {B : World} {R : Ending → Heap → Prop} {h : Heap}
def okS (ps : List (Int × Int)) : Bool := ps.all fun p => vS p.1 p.2
/-- span.valid. -/
theorem K1040 {b n c : Nat} {cs : Array Value} {ps : List (Int × Int)} (O : Own h b cs) (hn : ps.length = n) (hl : n ≤ 1000) (hc : ∀ i (hi : i < ps.length), cs[i * 2]? = some (.int .i64 ps[i].1) ∧ cs[i * 2 + 1]? = some (.int .i64 ps[i].2) ∧ I64 ps[i].1 ∧ I64 ps[i].2)
    (H : ∀ h', Ext h h' → R (.returned (.int .i64 (if okS ps then 0 else 1))) h') : Ent Tryz.prog B 33 #[.slice (some ⟨b, 0, none⟩) n c] R h := by
  refine F1040_ok _ _ _ ⟨fun m vs h' => match vs with
    | [.slice p n' _, .int _ nn, .int _ i] => p = some (⟨b, 0, none⟩ : Addr) ∧ n = n' ∧ nn = (n : Int) ∧ Ext h h' ∧ ∃ j : Nat, i = (j : Int) ∧ j ≤ n ∧ m = n - j ∧ okS (ps.take j) = true
    | _ => False, n, ⟨rfl, rfl, rfl, Fr.rfl', 0, rfl, by omega, rfl, rfl⟩, ?_⟩
  rintro m h1 _ _ _ _ _ ⟨rfl, rfl, rfl, f, j, rfl, hj, rfl, hok⟩ _
  refine ⟨fun e => ?_, fun e => ?_⟩
  · have hjn : j < n := by simp at e; omega
    obtain ⟨c1, c2, i1, i2⟩ := hc j (by omega)
    have O1 := O.ext f
    refine ⟨b, 0, rfl, by omega, by omega, b, _, rfl, ps[j].1, by rw [Int.toNat_natCast, Nat.zero_add]; show cell? _ _ = _; rw [O1.cell]; exact c1, ps[j].2, by rw [Int.toNat_natCast, Nat.zero_add, O1.cell]; exact c2, ?_⟩
    refine alK fun r2 h2 e2 f2 o2 z2 => ⟨r2, 0, rfl, o2.stC (by simp) rfl fun oa fa => oa.stC (by simp) rfl fun ob fb => ⟨r2, 0, rfl, _, ob.cell _, _, ob.cell _, ?_⟩⟩
    have fab := Fr.trans (S := fun x => x = r2) fa fb fun _ _ e => e
    refine K1014 i1 i2 fun h3 f3 => ⟨_, rfl, ?_⟩
    have E3 : Ext h h3 := Ext.trans (Fr.trans (Ext.trans f f2) fab fun x hx e => by have := f.size; omega) f3
    cases hv : vS ps[j].1 ps[j].2
    · refine ⟨fun _ => ?_, fun e => (by cases e)⟩
      have : okS ps = false := by
        unfold okS
        rw [List.all_eq_false]
        exact ⟨_, List.getElem_mem (by omega : j < ps.length), by rw [hv]; decide⟩
      have HH := H h3 E3
      rw [this] at HH
      exact HH
    · refine ⟨fun e => (by cases e), fun _ => ⟨n - (j + 1), by omega, rfl, rfl, rfl, E3, j + 1, by rw [i64_in (by omega) (by omega)]; rfl, by omega, rfl, ?_⟩⟩
      unfold okS at hok ⊢
      rw [List.take_succ_eq_append_getElem (by omega), List.all_append, hok]
      simp [hv]
  · have hjn : j = n := by simp at e; omega
    rw [hjn, List.take_of_length_le (by omega)] at hok
    have HH := H h1 f
    rw [hok] at HH
    exact HH
theorem max_wd {a b : Int} (ha : I64 a) (hb : I64 b) (na : isNaN a = false) (nb : isNaN b = false) : ∃ o m, FloatKind.f64.format.order (wd a) (wd b) = some o ∧ maxF .f64 (wd a) (wd b) o = wd m ∧ I64 m ∧ isNaN m = false ∧ rk m = max (rk a) (rk b) := by
  have ho := order_rk ha hb na nb
  unfold compareOfLessAndEq at ho
  by_cases h : rk a < rk b
  · rw [if_pos h] at ho; exact ⟨_, b, ho, rfl, hb, nb, by omega⟩
  · rw [if_neg h] at ho
    by_cases h2 : rk a = rk b
    · rw [if_pos h2] at ho
      by_cases h3 : (FloatKind.f64.decode (wd a)).neg = true
      · exact ⟨_, b, ho, if_pos h3, hb, nb, by omega⟩
      · exact ⟨_, a, ho, if_neg h3, ha, na, by omega⟩
    · rw [if_neg h2] at ho; exact ⟨_, a, ho, rfl, ha, na, by omega⟩
theorem min_wd {a b : Int} (ha : I64 a) (hb : I64 b) (na : isNaN a = false) (nb : isNaN b = false) : ∃ o m, FloatKind.f64.format.order (wd a) (wd b) = some o ∧ minF .f64 (wd a) (wd b) o = wd m ∧ I64 m ∧ isNaN m = false ∧ rk m = min (rk a) (rk b) := by
  have ho := order_rk ha hb na nb
  unfold compareOfLessAndEq at ho
  by_cases h : rk a < rk b
  · rw [if_pos h] at ho; exact ⟨_, a, ho, rfl, ha, na, by omega⟩
  · rw [if_neg h] at ho
    by_cases h2 : rk a = rk b
    · rw [if_pos h2] at ho
      by_cases h3 : (FloatKind.f64.decode (wd a)).neg = true
      · exact ⟨_, a, ho, if_pos h3, ha, na, by omega⟩
      · exact ⟨_, b, ho, if_neg h3, hb, nb, by omega⟩
    · rw [if_neg h2] at ho; exact ⟨_, b, ho, rfl, hb, nb, by omega⟩
theorem wi_nn {m : Int} (hm : I64 m) (hn : isNaN m = false) : WI (wd m) m := by
  have := wi_wd hm
  unfold nrm at this
  rw [hn] at this
  exact this
theorem vS_parts {a b : Int} (h : vS a b = true) : isNaN a = false ∧ isNaN b = false ∧ rk a ≤ rk b ∧ rk a < 9218868437227405312 ∧ -9218868437227405312 < rk b := by
  unfold vS at h
  simp only [Bool.and_eq_true, Bool.not_eq_true', decide_eq_true_eq] at h
  exact ⟨h.1.1.1.1, h.1.1.1.2, h.1.1.2, h.1.2, h.2⟩
/-- The blank interval of package span. -/
def NoneH (h : Heap) : Prop := 0 < h.size ∧ cell? h ⟨0, 0, none⟩ = some (.int .i64 0) ∧ cell? h ⟨0, 1, none⟩ = some (.int .i64 0)
theorem NoneH.ext {h h' : Heap} (H : NoneH h) (f : Ext h h') : NoneH h' := by
  obtain ⟨a, b, c⟩ := H
  refine ⟨Nat.lt_of_lt_of_le a f.size, ?_, ?_⟩
  · unfold cell? at b ⊢; rw [f.same 0 a id]; exact b
  · unfold cell? at c ⊢; rw [f.same 0 a id]; exact c
theorem NoneH.c0 {h : Heap} (H : NoneH h) : cI h 0 0 .i64 0 := H.2.1
theorem NoneH.c1 {h : Heap} (H : NoneH h) : cell? h ⟨0, 0 + 1, none⟩ = some (.int .i64 0) := H.2.2
end Go.Proofs
set_option linter.unusedVariables false
namespace Go.Proofs
open Go Go.Eng
variable {B : World} {R : Ending → Heap → Prop} {h : Heap}
theorem K1040p {r cc : Nat} {a b c d : Int} (O : Own h r #[.int .i64 a, .int .i64 b, .int .i64 c, .int .i64 d]) (ia : I64 a) (ib : I64 b) (ic : I64 c) (id' : I64 d)
    (H : ∀ h', Ext h h' → R (.returned (.int .i64 (if okS [(a, b), (c, d)] then 0 else 1))) h') : Ent Tryz.prog B 33 #[.slice (some ⟨r, 0, none⟩) 2 cc] R h := by
  refine K1040 (ps := [(a, b), (c, d)]) O rfl (by omega) (fun i hi => ?_) H
  have : i = 0 ∨ i = 1 := by simp at hi; omega
  rcases this with rfl | rfl
  · exact ⟨rfl, rfl, ia, ib⟩
  · exact ⟨rfl, rfl, ic, id'⟩
theorem okS2 {a b c d : Int} : okS [(a, b), (c, d)] = (vS a b && vS c d) := by unfold okS; simp
/-- span.Meet. -/
theorem K1013 {a b c d : Int} (hN : NoneH h) (ia : I64 a) (ib : I64 b) (ic : I64 c) (id' : I64 d)
    (Hbad : (vS a b && vS c d) = false → ∀ h', Ext h h' → R (.returned (.tuple #[.agg #[.int .i64 0, .int .i64 0], .bool false, .int .i64 (1 : Int)])) h')
    (Hno : (vS a b && vS c d) = true → min (rk b) (rk d) < max (rk a) (rk c) → ∀ h', Ext h h' → R (.returned (.tuple #[.agg #[.int .i64 0, .int .i64 0], .bool false, .int .i64 (0 : Int)])) h')
    (Hyes : (vS a b && vS c d) = true → max (rk a) (rk c) ≤ min (rk b) (rk d) → ∀ lo hi h', Ext h h' → I64 lo → I64 hi → isNaN lo = false → isNaN hi = false → rk lo = max (rk a) (rk c) → rk hi = min (rk b) (rk d) →
      R (.returned (.tuple #[.agg #[.int .i64 (cnP lo), .int .i64 (cnP hi)], .bool true, .int .i64 (0 : Int)])) h') :
    Ent Tryz.prog B 9 #[.agg #[.int .i64 a, .int .i64 b], .agg #[.int .i64 c, .int .i64 d]] R h := by
  refine F1013_ok _ _ _ _ (alK fun r1 h1 e1 f1 o1 z1 => alK fun r2 h2 e2 f2 o2 z2 => alK fun r3 h3 e3 f3 o3 z3 => ?_)
  have O1 := (o1.ext f2).ext f3
  have O2 := o2.ext f3
  have F3 := Ext.trans (Ext.trans f1 f2) f3
  refine ⟨r1, 0, rfl, _, O1.cell _, _, O1.cell _, r2, 0, rfl, _, O2.cell _, _, O2.cell _, alK fun r4 h4 e4 f4 o4 z4 => K1040p o4 ia ib ic id' fun h5 f5 => ⟨_, rfl, ?_⟩⟩
  rw [okS2]
  have F5 := Ext.trans F3 (Ext.trans f4 f5)
  have O3 := (o3.ext f4).ext f5
  have O1 := (O1.ext f4).ext f5
  have O2 := (O2.ext f4).ext f5
  have N5 := hN.ext F5
  have n3 : h.size ≤ r3 := by have := f1.size; have := f2.size; omega
  cases hv : (vS a b && vS c d)
  · refine ⟨fun _ => ⟨_, 0, rfl, _, N5.c0, _, N5.c1, r3, 0, rfl, O3.stC (by simp) rfl fun oa fa => oa.stC (by simp) rfl fun ob fb => ⟨r3, 0, rfl, _, ob.cell _, _, ob.cell _, ?_⟩⟩, fun e => (by cases e)⟩
    have fab := Fr.trans (S := fun x => x = r3) fa fb fun _ _ e => e
    exact Hbad hv _ (Fr.trans F5 fab fun x hx e => by omega)
  · refine ⟨fun e => (by cases e), fun _ => ⟨r1, 0, rfl, r1, 0, rfl, _, O1.cell _, r2, 0, rfl, r2, 0, rfl, _, O2.cell _, K54 ⟨_, rfl, same1 (S := fun _ => False) O2 Fr.rfl' id, K54 ⟨_, rfl, ?_⟩⟩⟩⟩
    have hvv := hv
    rw [Bool.and_eq_true] at hvv
    obtain ⟨na, nb, _, _, _⟩ := vS_parts hvv.1
    obtain ⟨nc, nd, _, _, _⟩ := vS_parts hvv.2
    obtain ⟨o, lo, q1, q2, q3, q4, q5⟩ := max_wd ia ic na nc
    refine ⟨o, q1, ?_⟩
    rw [q2]
    refine ⟨r1, 0, rfl, r1, 0 + 1, rfl, _, O1.cell _, r2, 0, rfl, r2, 0 + 1, rfl, _, O2.cell _, K54 ⟨_, rfl, same1 (S := fun _ => False) O2 Fr.rfl' id, K54 ⟨_, rfl, ?_⟩⟩⟩
    obtain ⟨o', hi, p1, p2, p3, p4, p5⟩ := min_wd ib id' nb nd
    refine ⟨o', p1, ?_⟩
    rw [p2]
    unfold F1013_j6
    rw [order_rk q3 p3 q4 p4, gt_ord, q5, p5]
    refine ⟨fun e => ⟨_, 0, rfl, _, N5.c0, _, N5.c1, r3, 0, rfl, O3.stC (by simp) rfl fun oa fa => oa.stC (by simp) rfl fun ob fb => ⟨r3, 0, rfl, _, ob.cell _, _, ob.cell _, ?_⟩⟩, fun e => ?_⟩
    · have fab := Fr.trans (S := fun x => x = r3) fa fb fun _ _ e => e
      exact Hno hv (of_decide_eq_true e) _ (Fr.trans F5 fab fun x hx e => by omega)
    · refine K56 (wi_nn q3 q4) ⟨_, rfl, K56 (wi_nn p3 p4) ⟨_, rfl, K1041 q3 p3 fun h6 f6 => ⟨_, _, _, rfl, ?_⟩⟩⟩
      refine alK fun r7 h7 e7 f7 o7 z7 => ⟨r7, 0, rfl, o7.stC (by simp) rfl fun oa fa => oa.stC (by simp) rfl fun ob fb => ⟨r7, 0, rfl, _, ob.cell _, _, ob.cell _, ?_⟩⟩
      have fab := Fr.trans (S := fun x => x = r7) fa fb fun _ _ e => e
      generalize setCell (setCell h7 _ _) _ _ = h8 at *
      have E68 : Ext h6 h8 := Fr.trans f7 fab fun x hx e => by omega
      have O3' := (O3.ext f6).ext E68
      have E8 := Ext.trans (Ext.trans F5 f6) E68
      refine ⟨r3, 0, rfl, O3'.stC (by simp) rfl fun oc fc => oc.stC (by simp) rfl fun od fd => ⟨r3, 0, rfl, _, od.cell _, _, od.cell _, ?_⟩⟩
      have fcd := Fr.trans (S := fun x => x = r3) fc fd fun _ _ e => e
      exact Hyes hv (by have := of_decide_eq_false e; omega) lo hi _ (Fr.trans E8 fcd fun x hx e => by omega) q3 p3 q4 p4 q5 p5
/-- span.Join. -/
theorem K1016 {a b c d : Int} (hN : NoneH h) (ia : I64 a) (ib : I64 b) (ic : I64 c) (id' : I64 d)
    (Hbad : (vS a b && vS c d) = false → ∀ h', Ext h h' → R (.returned (.tuple #[.agg #[.int .i64 0, .int .i64 0], .int .i64 (1 : Int)])) h')
    (Hyes : (vS a b && vS c d) = true → ∀ lo hi h', Ext h h' → I64 lo → I64 hi → isNaN lo = false → isNaN hi = false → rk lo = min (rk a) (rk c) → rk hi = max (rk b) (rk d) →
      R (.returned (.tuple #[.agg #[.int .i64 (cnP lo), .int .i64 (cnP hi)], .int .i64 (0 : Int)])) h') :
    Ent Tryz.prog B 12 #[.agg #[.int .i64 a, .int .i64 b], .agg #[.int .i64 c, .int .i64 d]] R h := by
  refine F1016_ok _ _ _ _ (alK fun r1 h1 e1 f1 o1 z1 => alK fun r2 h2 e2 f2 o2 z2 => alK fun r3 h3 e3 f3 o3 z3 => ?_)
  have O1 := (o1.ext f2).ext f3
  have O2 := o2.ext f3
  have F3 := Ext.trans (Ext.trans f1 f2) f3
  refine ⟨r1, 0, rfl, _, O1.cell _, _, O1.cell _, r2, 0, rfl, _, O2.cell _, _, O2.cell _, alK fun r4 h4 e4 f4 o4 z4 => K1040p o4 ia ib ic id' fun h5 f5 => ⟨_, rfl, ?_⟩⟩
  rw [okS2]
  have F5 := Ext.trans F3 (Ext.trans f4 f5)
  have O3 := (o3.ext f4).ext f5
  have O1 := (O1.ext f4).ext f5
  have O2 := (O2.ext f4).ext f5
  have N5 := hN.ext F5
  have n3 : h.size ≤ r3 := by have := f1.size; have := f2.size; omega
  have S1 : ∀ o, sameCells h5 h5 r1 o 1 := fun o => same1 (S := fun _ => False) O1 Fr.rfl' id
  have S2 : ∀ o, sameCells h5 h5 r2 o 1 := fun o => same1 (S := fun _ => False) O2 Fr.rfl' id
  cases hv : (vS a b && vS c d)
  · refine ⟨fun _ => ⟨_, 0, rfl, _, N5.c0, _, N5.c1, r3, 0, rfl, O3.stC (by simp) rfl fun oa fa => oa.stC (by simp) rfl fun ob fb => ⟨r3, 0, rfl, _, ob.cell _, _, ob.cell _, ?_⟩⟩, fun e => (by cases e)⟩
    have fab := Fr.trans (S := fun x => x = r3) fa fb fun _ _ e => e
    exact Hbad hv _ (Fr.trans F5 fab fun x hx e => by omega)
  · have hvv := hv
    rw [Bool.and_eq_true] at hvv
    obtain ⟨na, nb, _, _, _⟩ := vS_parts hvv.1
    obtain ⟨nc, nd, _, _, _⟩ := vS_parts hvv.2
    obtain ⟨o, lo, q1, q2, q3, q4, q5⟩ := min_wd ia ic na nc
    obtain ⟨o', hi, p1, p2, p3, p4, p5⟩ := max_wd ib id' nb nd
    refine ⟨fun e => (by cases e), fun _ => ⟨r1, 0, rfl, r1, 0, rfl, _, O1.cell _, r2, 0, rfl, r2, 0, rfl, _, O2.cell _, r1, 0, rfl, r1, 0 + 1, rfl, _, O1.cell _, r2, 0, rfl, r2, 0 + 1, rfl, _, O2.cell _,
      K54 ⟨_, rfl, S2 _, S1 _, S2 _, K54 ⟨_, rfl, S2 _, S1 _, o, q1, ?_⟩⟩⟩⟩
    rw [q2]
    refine K56 (wi_nn q3 q4) ⟨_, rfl, S2 _, S1 _, K54 ⟨_, rfl, S2 _, K54 ⟨_, rfl, o', p1, ?_⟩⟩⟩
    rw [p2]
    refine K56 (wi_nn p3 p4) ⟨_, rfl, K1041 q3 p3 fun h6 f6 => ⟨_, _, _, rfl, ?_⟩⟩
    refine ⟨r3, 0, rfl, (O3.ext f6).stC (by simp) rfl fun oc fc => oc.stC (by simp) rfl fun od fd => ⟨r3, 0, rfl, _, od.cell _, _, od.cell _, ?_⟩⟩
    have fcd := Fr.trans (S := fun x => x = r3) fc fd fun _ _ e => e
    exact Hyes hv lo hi _ (Fr.trans (Ext.trans F5 f6) fcd fun x hx e => by omega) q3 p3 q4 p4 q5 p5
/-- Is a number not on the far side of an end? -/
def nlS (v x side : Int) : Bool := !isFin x || decide (0 ≤ (v - fV x).sign * side)
theorem sign_bd (v : Int) : -1 ≤ v.sign ∧ v.sign ≤ 1 := by
  rcases Int.lt_trichotomy v 0 with h | h | h
  · rw [Int.sign_eq_neg_one_of_neg h]; omega
  · subst h; decide
  · rw [Int.sign_eq_one_of_pos h]; omega
/-- span.notLess. -/
theorem K1042 {neg : Bool} {p : Option Addr} {n c : Nat} {e v x side : Int} (ht : TabH h) (N : NumS 1074 h neg p n e v) (hb : bl v.natAbs ≤ 50000) (hs : side = 1 ∨ side = -1)
    (H : ∀ h', Ext h h' → R (.returned (.bool (nlS v x side))) h') : Ent Tryz.prog B 39 #[.agg #[.bool neg, .slice p n c, .int .i64 e], .int .i64 x, .int .i64 side] R h := by
  refine F1042_ok _ _ _ _ _ _ _ (alK fun r1 h1 e1 f1 o1 z1 => K21g (ht.fr f1 id) fun neg2 p2 n2 c2 ee err h2 f2 hfin hinf => ⟨_, _, _, _, _, _, rfl, ?_⟩)
  refine alK fun r3 h3 e3 f3 o3 z3 => ⟨r3, 0, rfl, o3.stC (by simp) rfl fun oa fa => oa.stC (by simp) rfl fun ob fb => ob.stC (by simp) rfl fun oc fc => ?_⟩
  have fac := Fr.trans (S := fun x => x = r3) (Fr.trans (S := fun x => x = r3) fa fb fun _ _ e => e) fc fun _ _ e => e
  generalize setCell (setCell (setCell h3 _ _) _ _) _ _ = h4 at *
  have oc : Own h4 r3 #[.bool neg2, .slice p2 n2 c2, .int .i64 ee] := oc
  have F24 : Ext h2 h4 := Fr.trans f3 fac fun x hx e => by omega
  have O1 := (o1.ext f2).ext F24
  have E4 := Ext.trans (Ext.trans f1 f2) F24
  cases hf : isFin x
  · have he := hinf hf
    subst he
    have HH := H h4 E4
    unfold nlS at HH
    rw [hf] at HH
    exact ⟨fun _ => HH, fun e => (by cases e)⟩
  · obtain ⟨he, N2⟩ := hfin hf
    subst he
    refine ⟨fun e => (by cases e), fun _ => ⟨r1, 0, rfl, _, O1.cell _, _, _, _, O1.cell _, _, O1.cell _, r3, 0, rfl, _, oc.cell _, _, _, _, oc.cell _, _, oc.cell _, ?_⟩⟩
    refine K28 (N.ext E4) (N2.ext F24) (by omega) hb (by have := fV_bl hf; omega) fun h5 f5 => ⟨_, _, rfl, ?_⟩
    have HH := H h5 (Ext.trans E4 f5)
    unfold nlS at HH
    rw [hf] at HH
    have sb := sign_bd (v - fV x)
    rw [i64_in (by rcases hs with rfl | rfl <;> omega) (by rcases hs with rfl | rfl <;> omega)]
    exact HH
/-- span.Has, of a valid number. -/
theorem K1015 {a b : Int} {neg : Bool} {p : Option Addr} {n c : Nat} {e v : Int} (ht : TabH h) (N : NumS 1074 h neg p n e v) (hb : bl v.natAbs ≤ 50000) (ia : I64 a) (ib : I64 b)
    (H : ∀ h', Ext h h' → R (.returned (.tuple #[.bool (vS a b && (nlS v a 1 && nlS v b (-1))), .int .i64 (if vS a b then (0 : Int) else 1)])) h') :
    Ent Tryz.prog B 11 #[.agg #[.int .i64 a, .int .i64 b], .agg #[.bool neg, .slice p n c, .int .i64 e]] R h := by
  refine F1015_ok _ _ _ _ _ _ _ (alK fun r1 h1 e1 f1 o1 z1 => alK fun r2 h2 e2 f2 o2 z2 => ?_)
  have O1 := o1.ext f2
  refine ⟨r1, 0, rfl, _, O1.cell _, _, O1.cell _, alK fun r3 h3 e3 f3 o3 z3 => ?_⟩
  refine K1040 (ps := [(a, b)]) o3 rfl (by omega) (fun i hi => ?_) fun h4 f4 => ⟨_, rfl, ?_⟩
  · have : i = 0 := by simp at hi; omega
    subst this
    exact ⟨rfl, rfl, ia, ib⟩
  have ho : okS [(a, b)] = vS a b := by unfold okS; simp
  rw [ho]
  have F4 := Ext.trans (Ext.trans (Ext.trans f1 f2) f3) f4
  have O1 := (O1.ext f3).ext f4
  have O2 := (o2.ext f3).ext f4
  have N4 := N.ext F4
  cases hv : vS a b
  · have HH := H h4 F4
    rw [hv] at HH
    exact ⟨fun _ => HH, fun e => (by cases e)⟩
  rw [hv] at H
  obtain ⟨M, N1, N2, N3⟩ := N4
  refine ⟨fun e => (by cases e), fun _ => ⟨r2, 0, rfl, _, O2.cell _, _, _, _, O2.cell _, _, O2.cell _, K129 N1 fun h5 f5 => ⟨_, rfl, fun e => (by cases e), fun _ => ?_⟩⟩⟩
  have O1 := O1.ext f5
  have O2 := O2.ext f5
  have F5 := Ext.trans F4 f5
  refine ⟨r2, 0, rfl, _, O2.cell _, _, _, _, O2.cell _, _, O2.cell _, r1, 0, rfl, r1, 0, rfl, _, O1.cell _, K1042 (ht.fr F5 id) (N.ext F5) hb (.inl rfl) fun h6 f6 => ⟨_, rfl, ?_⟩⟩
  have O1 := O1.ext f6
  have O2 := O2.ext f6
  have F6 := Ext.trans F5 f6
  cases hl : nlS v a 1
  · have HH := H h6 F6
    rw [hl] at HH
    exact ⟨fun e => (by cases e), fun _ => HH⟩
  · refine ⟨fun _ => ⟨r2, 0, rfl, _, O2.cell _, _, _, _, O2.cell _, _, O2.cell _, r1, 0, rfl, r1, 0 + 1, rfl, _, O1.cell _, K1042 (ht.fr F6 id) (N.ext F6) hb (.inr rfl) fun h7 f7 => ⟨_, rfl, ?_⟩⟩, fun e => (by cases e)⟩
    have HH := H h7 (Ext.trans F6 f7)
    rw [hl] at HH
    exact HH
end Go.Proofs
set_option linter.unusedVariables false
namespace Go.Proofs
open Go Go.Eng
variable {B : World} {R : Ending → Heap → Prop} {h : Heap}
abbrev P1 : Int := 4607182418800017408
abbrev P2 : Int := 4611686018427387904
abbrev P3 : Int := 4613937818241073152
theorem pw1 : Pw P1 0 := ⟨by unfold I64 P1; omega, by decide +kernel, by decide +kernel, by omega⟩
theorem pw2 : Pw P2 1 := ⟨by unfold I64 P2; omega, by decide +kernel, by decide +kernel, by omega⟩
theorem c11 : cls (addP P1 P1) ≠ 0 := by decide +kernel
theorem c12 : cls (addP P1 P2) ≠ 0 := by decide +kernel
theorem d11 : dirV (1 : Int).toNat (fV P1 + fV P1) (-1074) = P2 := by decide +kernel
theorem d12 : dirV (2 : Int).toNat (fV P1 + fV P2) (-1074) = P3 := by decide +kernel
theorem v11 : (vS P1 P1 && vS P1 P2) = true := by decide +kernel
theorem v23 : vS P2 P3 = true := by decide +kernel
theorem cn2 : cnP P2 = P2 := by decide +kernel
theorem cn3 : cnP P3 = P3 := by decide +kernel
theorem i1 : I64 P1 := pw1.1
theorem i2 : I64 P2 := pw2.1
theorem i3 : I64 P3 := by unfold I64 P3; omega
theorem gt2 : (FloatKind.f64.format.order (wd P2) 0 == some .gt) = true := by decide +kernel
/-- span.Add of [1, 1] and [1, 2]. -/
theorem K1019c (ht : TabH h) (H : ∀ h', Ext h h' → R (.returned (.tuple #[.agg #[.int .i64 P2, .int .i64 P3], .int .i64 (0 : Int)])) h') :
    Ent Tryz.prog B 16 #[.agg #[.int .i64 P1, .int .i64 P1], .agg #[.int .i64 P1, .int .i64 P2]] R h := by
  refine F1019_ok _ _ _ _ (alK fun r1 h1 e1 f1 o1 z1 => alK fun r2 h2 e2 f2 o2 z2 => alK fun r3 h3 e3 f3 o3 z3 => ?_)
  have O1 := (o1.ext f2).ext f3
  have O2 := o2.ext f3
  have F3 := Ext.trans (Ext.trans f1 f2) f3
  refine ⟨r1, 0, rfl, _, O1.cell _, _, O1.cell _, r2, 0, rfl, _, O2.cell _, _, O2.cell _, alK fun r4 h4 e4 f4 o4 z4 => K1040p o4 i1 i1 i1 i2 fun h5 f5 => ⟨_, rfl, ?_⟩⟩
  rw [okS2, v11]
  have F5 := Ext.trans F3 (Ext.trans f4 f5)
  have O3 := (o3.ext f4).ext f5
  have O1 := (O1.ext f4).ext f5
  have O2 := (O2.ext f4).ext f5
  have n3 : h.size ≤ r3 := by have := f1.size; have := f2.size; omega
  refine ⟨fun e => (by cases e), fun _ => ⟨r1, 0, rfl, r1, 0, rfl, _, O1.cell _, r2, 0, rfl, r2, 0, rfl, _, O2.cell _, ?_⟩⟩
  refine K1045s (ht.fr F5 id) pw1 pw1 (.inl rfl) c11 fun h6 f6 => ⟨_, _, rfl, ?_⟩
  rw [d11]
  have O1 := O1.ext f6
  have O2 := O2.ext f6
  refine ⟨r1, 0, rfl, r1, 0 + 1, rfl, _, O1.cell _, r2, 0, rfl, r2, 0 + 1, rfl, _, O2.cell _, ?_⟩
  refine K1045s ((ht.fr F5 id).fr f6 id) pw1 pw2 (.inr rfl) c12 fun h7 f7 => ⟨_, _, rfl, ?_⟩
  rw [d12]
  refine K1041 i2 i3 fun h8 f8 => ⟨_, _, _, rfl, ?_⟩
  rw [cn2, cn3]
  have F8 := Ext.trans (Ext.trans (Ext.trans F5 f6) f7) f8
  refine ⟨r3, 0, rfl, (((O3.ext f6).ext f7).ext f8).stC (by simp) rfl fun oc fc => oc.stC (by simp) rfl fun od fd => ⟨r3, 0, rfl, _, od.cell _, _, od.cell _, ?_⟩⟩
  have fcd := Fr.trans (S := fun x => x = r3) fc fd fun _ _ e => e
  exact H _ (Fr.trans F8 fcd fun x hx e => by omega)
/-- span.Sign of [2, 3]. -/
theorem K1029c (H : ∀ h', Ext h h' → R (.returned (.tuple #[.int .i64 (1 : Int), .bool true, .int .i64 (0 : Int)])) h') :
    Ent Tryz.prog B 21 #[.agg #[.int .i64 P2, .int .i64 P3]] R h := by
  refine F1029_ok _ _ (alK fun r1 h1 e1 f1 o1 z1 => ⟨r1, 0, rfl, _, o1.cell _, _, o1.cell _, alK fun r2 h2 e2 f2 o2 z2 => ?_⟩)
  refine K1040 (ps := [(P2, P3)]) o2 rfl (by omega) (fun i hi => ?_) fun h3 f3 => ⟨_, rfl, ?_⟩
  · have : i = 0 := by simp at hi; omega
    subst this
    exact ⟨rfl, rfl, i2, i3⟩
  have ho : okS [(P2, P3)] = true := by unfold okS; simp [v23]
  rw [ho]
  have O1 := (o1.ext f2).ext f3
  refine ⟨fun e => (by cases e), fun _ => ⟨r1, 0, rfl, r1, 0, rfl, _, O1.cell _, r1, 0, rfl, r1, 0 + 1, rfl, _, O1.cell _, K1041 i2 i3 fun h4 f4 => ⟨_, _, _, rfl, ?_⟩⟩⟩
  rw [cn2, cn3]
  refine alK fun r5 h5 e5 f5 o5 z5 => ⟨r5, 0, rfl, o5.stC (by simp) rfl fun oa fa => oa.stC (by simp) rfl fun ob fb => ⟨r5, 0, rfl, r5, 0, rfl, _, ob.cell _, K54 ⟨_, rfl, ?_⟩⟩⟩
  have fab := Fr.trans (S := fun x => x = r5) fa fb fun _ _ e => e
  have F := Fr.trans (Ext.trans (Ext.trans (Ext.trans (Ext.trans f1 f2) f3) f4) f5) fab fun x hx e => by
    have := f1.size; have := f2.size; have := f3.size; have := f4.size; omega
  refine ⟨fun _ => H _ F, fun e => ?_⟩
  have := gt2
  rw [show wd P2 = wd 4611686018427387904 from rfl] at this
  exact absurd (this.symm.trans e) (by decide)
/-- plumblaw8.alive. -/
theorem K1011 (ht : TabH h) (H : ∀ h', Ext h h' → R (.returned (.bool true)) h') : Ent Tryz.prog B 6 #[] R h := by
  refine F1011_ok (K1019c ht fun h1 f1 => ⟨_, _, _, rfl, ?_⟩)
  refine alK fun r2 h2 e2 f2 o2 z2 => ⟨r2, 0, rfl, o2.stC (by simp) rfl fun oa fa => oa.stC (by simp) rfl fun ob fb => ⟨r2, 0, rfl, _, ob.cell _, _, ob.cell _, K1029c fun h3 f3 => ⟨_, _, _, rfl, ?_⟩⟩⟩
  have fab := Fr.trans (S := fun x => x = r2) fa fb fun _ _ e => e
  have F := Fr.trans (Ext.trans f1 f2) fab fun x hx e => by have := f1.size; omega
  have ob3 := ob.ext f3
  refine ⟨fun _ => ⟨r2, 0, rfl, _, ob3.cell _, _, ob3.cell _, ?_⟩, fun e => absurd e (by decide)⟩
  have HH := H h3 (Ext.trans F f3)
  exact ⟨fun _ => ⟨fun _ => ⟨fun _ => HH, fun e => absurd e (by decide)⟩, fun e => absurd e (by decide)⟩, fun e => absurd e (by decide)⟩
/-- bits.Less of what are no NaNs. -/
theorem K32n {a b : Int} (ha : I64 a) (hb : I64 b) (na : isNaN a = false) (nb : isNaN b = false) (H : R (.returned (.bool (decide (rk a < rk b)))) h) : Ent Tryz.prog B 13 #[.int .i64 a, .int .i64 b] R h := by
  refine F32_ok _ _ (K54 ⟨_, rfl, K54 ⟨_, rfl, ?_⟩⟩)
  rw [order_rk ha hb na nb, lt_ord]; exact H
end Go.Proofs
set_option linter.unusedVariables false
namespace Go.Eng
open Go
theorem rk_inf {p : Int} (ip : I64 p) (hn : isNaN p = false) (hf : isFin p = false) : rk p = 9218868437227405312 ∨ rk p = -9218868437227405312 := by
  obtain ⟨s, k, hk, rfl⟩ := as_pat ip hn
  by_cases h : k = 9218868437227405312
  · subst h
    rw [rk_pat (by omega)]
    cases s
    · exact .inl rfl
    · exact .inr rfl
  · rw [pat_fin (by omega)] at hf; cases hf
end Go.Eng
namespace Go.Proofs
open Go Go.Eng
variable {B : World} {R : Ending → Heap → Prop} {h : Heap}
theorem sg_le {v w : Int} : (0 ≤ (v - w).sign * 1) ↔ w ≤ v := by
  rcases Int.lt_trichotomy (v - w) 0 with h | h | h
  · rw [Int.sign_eq_neg_one_of_neg h]; omega
  · rw [h]; simp; omega
  · rw [Int.sign_eq_one_of_pos h]; omega
theorem sg_ge {v w : Int} : (0 ≤ (v - w).sign * -1) ↔ v ≤ w := by
  rcases Int.lt_trichotomy (v - w) 0 with h | h | h
  · rw [Int.sign_eq_neg_one_of_neg h]; omega
  · rw [h]; simp; omega
  · rw [Int.sign_eq_one_of_pos h]; omega
theorem has_rk {p q x : Int} (ip : I64 p) (iq : I64 q) (ix : I64 x) (fx : isFin x = true) (hv : vS p q = true) :
    (vS p q && (nlS (fV x) p 1 && nlS (fV x) q (-1))) = (decide (rk p ≤ rk x) && decide (rk x ≤ rk q)) := by
  obtain ⟨np, nq, h1, h2, h3⟩ := vS_parts hv
  have hx := rk_bd ix (fin_not fx).1
  rw [hv, Bool.true_and]
  congr 1
  · unfold nlS
    cases hf : isFin p
    · rcases rk_inf ip np hf with h | h
      · omega
      · rw [decide_eq_true (show rk p ≤ rk x by omega)]; rfl
    · obtain ⟨a, b⟩ := fV_rk ix ip fx hf
      rw [Bool.not_true, Bool.false_or, decide_eq_decide, sg_le]
      omega
  · unfold nlS
    cases hf : isFin q
    · rcases rk_inf iq nq hf with h | h
      · rw [decide_eq_true (show rk x ≤ rk q by omega)]; rfl
      · omega
    · obtain ⟨a, b⟩ := fV_rk ix iq fx hf
      rw [Bool.not_true, Bool.false_or, decide_eq_decide, sg_ge]
      omega
/-- What Meet told. -/
def MeetR (a b c d : Int) (mq mr : Int) (ok : Bool) (f : Int) : Prop :=
  ((vS a b && vS c d) = false ∧ ok = false ∧ f = 1) ∨
  ((vS a b && vS c d) = true ∧ f = 0 ∧ ok = false ∧ min (rk b) (rk d) < max (rk a) (rk c)) ∨
  ((vS a b && vS c d) = true ∧ f = 0 ∧ ok = true ∧ max (rk a) (rk c) ≤ min (rk b) (rk d) ∧ I64 mq ∧ I64 mr ∧ isNaN mq = false ∧ isNaN mr = false ∧ rk mq = max (rk a) (rk c) ∧ rk mr = min (rk b) (rk d))
theorem meets_end {r5 r7 : Nat} {a b c d x mq mr : Int} {ok one two bad : Bool} {neg : Bool} {p : Option Addr} {n cc : Nat} {e : Int} (ht : TabH h) (ia : I64 a) (ib : I64 b) (ic : I64 c) (id' : I64 d) (ix : I64 x) (fx : isFin x = true) (hvv : (vS a b && vS c d) = true)
    (O5 : Own h r5 #[.bool neg, .slice p n cc, .int .i64 e]) (O7 : Own h r7 #[.int .i64 mq, .int .i64 mr]) (N : NumS 1074 h neg p n e (fV x))
    (hb : bad = false) (h1 : one = (decide (rk a ≤ rk x) && decide (rk x ≤ rk b))) (h2 : two = (decide (rk c ≤ rk x) && decide (rk x ≤ rk d)))
    (M : (ok = false ∧ min (rk b) (rk d) < max (rk a) (rk c)) ∨ (ok = true ∧ max (rk a) (rk c) ≤ min (rk b) (rk d) ∧ I64 mq ∧ I64 mr ∧ isNaN mq = false ∧ isNaN mr = false ∧ rk mq = max (rk a) (rk c) ∧ rk mr = min (rk b) (rk d)))
    (H : ∀ h', Ext h h' → R (.returned (.bool true)) h') : F1004_j14 B R a b c d (some ⟨r5, 0, none⟩) (some ⟨r7, 0, none⟩) ok one two bad h := by
  rw [Bool.and_eq_true] at hvv
  obtain ⟨na, nb, ab, a2, b2⟩ := vS_parts hvv.1
  obtain ⟨nc, nd, cd, c2, d2⟩ := vS_parts hvv.2
  refine ⟨fun e => (by rw [hb] at e; cases e), fun _ => ⟨fun e => ?_, fun e => ?_⟩⟩
  · have hok : ok = false := by cases ok <;> simp at e ⊢
    obtain ⟨_, hlt⟩ : ok = false ∧ min (rk b) (rk d) < max (rk a) (rk c) := by
      rcases M with M | M
      · exact M
      · rw [hok] at M; exact absurd M.1 (by decide)
    have nb2 : (one && two) = false := by
      rw [h1, h2]
      simp only [Bool.and_eq_false_iff, decide_eq_false_iff_not]
      omega
    have hlt2 : (decide (rk b < rk c) || decide (rk d < rk a)) = true := by
      rw [Bool.or_eq_true, decide_eq_true_eq, decide_eq_true_eq]; omega
    have key : ∀ m0 : Bool, m0 = false → F1004_j176 B R a b c d m0 h := fun m0 hm => by
      subst hm
      refine ⟨fun _ => K32n ib ic nb nc ⟨_, rfl, fun e2 => H h Fr.rfl', fun e2 => K32n id' ia nd na ⟨_, rfl, ?_⟩⟩, fun e => (by cases e)⟩
      rw [e2, Bool.false_or] at hlt2
      rw [hlt2]
      exact H h Fr.rfl'
    refine ⟨fun e1 => key two ?_, fun e1 => key false rfl⟩
    rw [e1] at nb2; simpa using nb2
  · have hok : ok = true := by cases ok <;> simp at e ⊢
    obtain ⟨_, hle, i1, i2, n1, n2, r1, r2⟩ : ok = true ∧ max (rk a) (rk c) ≤ min (rk b) (rk d) ∧ I64 mq ∧ I64 mr ∧ isNaN mq = false ∧ isNaN mr = false ∧ rk mq = max (rk a) (rk c) ∧ rk mr = min (rk b) (rk d) := by
      rcases M with M | M
      · rw [hok] at M; exact absurd M.1 (by decide)
      · exact M
    have hv : vS mq mr = true := by
      unfold vS
      rw [n1, n2, r1, r2, decide_eq_true (by omega), decide_eq_true (by omega), decide_eq_true (by omega)]; rfl
    refine ⟨r7, 0, rfl, _, O7.cell _, _, O7.cell _, r5, 0, rfl, _, O5.cell _, _, _, _, O5.cell _, _, O5.cell _, ?_⟩
    refine K1015 ht N (by have := fV_bl fx; omega) i1 i2 fun h2' f2 => ⟨_, _, rfl, ?_⟩
    rw [has_rk i1 i2 ix fx hv, r1, r2]
    have key : (decide (max (rk a) (rk c) ≤ rk x) && decide (rk x ≤ min (rk b) (rk d))) = (one && two) := by
      rw [h1, h2]
      rw [Bool.eq_iff_iff]
      simp only [Bool.and_eq_true, decide_eq_true_eq]
      omega
    rw [key]
    have HH := H h2' f2
    refine ⟨fun e1 => ?_, fun e1 => ?_⟩
    · rw [e1, Bool.true_and]
      unfold F1004_j211
      rw [beq_self]; exact HH
    · rw [e1, Bool.false_and]
      unfold F1004_j211
      rw [beq_self]; exact HH
theorem meets_tail {r1 r3 r5 r7 : Nat} {a b c d x err mq mr f : Int} {ok : Bool} {neg : Bool} {p : Option Addr} {n cc : Nat} {e : Int} (ht : TabH h) (hN : NoneH h) (ia : I64 a) (ib : I64 b) (ic : I64 c) (id' : I64 d) (ix : I64 x)
    (O1 : Own h r1 #[.int .i64 a, .int .i64 b]) (O3 : Own h r3 #[.int .i64 c, .int .i64 d]) (O5 : Own h r5 #[.bool neg, .slice p n cc, .int .i64 e]) (O7 : Own h r7 #[.int .i64 mq, .int .i64 mr])
    (hfin : isFin x = true → err = 0 ∧ NumS 1074 h neg p n e (fV x)) (hinf : isFin x = false → err = 10) (M : MeetR a b c d mq mr ok f) (H : ∀ h', Ext h h' → R (.returned (.bool true)) h') :
    F1004_j6 B R a b c d (some ⟨r1, 0, none⟩) (some ⟨r3, 0, none⟩) (some ⟨r5, 0, none⟩) err (some ⟨r7, 0, none⟩) ok f (!(vS a b && vS c d)) h := by
  refine ⟨fun e => ?_, fun e => ⟨fun e2 => ?_, fun e2 => ?_⟩⟩
  · have hv : (vS a b && vS c d) = false := by
      cases hq : (vS a b && vS c d)
      · rfl
      · rw [hq] at e; cases e
    obtain ⟨_, ho, hf⟩ : (vS a b && vS c d) = false ∧ ok = false ∧ f = 1 := by
      rcases M with M | M | M
      · exact M
      · rw [hv] at M; exact absurd M.1 (by decide)
      · rw [hv] at M; exact absurd M.1 (by decide)
    subst ho hf
    exact K1011 ht fun h1 f1 => ⟨_, rfl, fun _ => ⟨fun _ => H h1 f1, fun e => absurd e (by decide)⟩, fun e => (by cases e)⟩
  · have hv : (vS a b && vS c d) = true := by
      cases hq : (vS a b && vS c d)
      · rw [hq] at e; cases e
      · rfl
    have hf : f = 0 := by
      rcases M with M | M | M
      · rw [hv] at M; exact absurd M.1 (by decide)
      · exact M.2.1
      · exact M.2.1
    subst hf
    exact H h Fr.rfl'
  · have hv : (vS a b && vS c d) = true := by
      cases hq : (vS a b && vS c d)
      · rw [hq] at e; cases e
      · rfl
    obtain ⟨hf, M2⟩ : f = 0 ∧ ((ok = false ∧ min (rk b) (rk d) < max (rk a) (rk c)) ∨ (ok = true ∧ max (rk a) (rk c) ≤ min (rk b) (rk d) ∧ I64 mq ∧ I64 mr ∧ isNaN mq = false ∧ isNaN mr = false ∧ rk mq = max (rk a) (rk c) ∧ rk mr = min (rk b) (rk d))) := by
      rcases M with M | M | M
      · rw [hv] at M; exact absurd M.1 (by decide)
      · exact ⟨M.2.1, .inl M.2.2⟩
      · exact ⟨M.2.1, .inr M.2.2⟩
    subst hf
    have hvv := hv
    rw [Bool.and_eq_true] at hvv
    obtain ⟨na, nb, ab, a2, b2⟩ := vS_parts hvv.1
    obtain ⟨nc, nd, cd, c2, d2⟩ := vS_parts hvv.2
    have he : err = 0 := by simpa using e2
    have fx : isFin x = true := by
      cases hfx : isFin x
      · have := hinf hfx; omega
      · rfl
    obtain ⟨_, N⟩ := hfin fx
    have hbl : bl (fV x).natAbs ≤ 50000 := by have := fV_bl fx; omega
    refine ⟨r1, 0, rfl, _, O1.cell _, _, O1.cell _, r5, 0, rfl, _, O5.cell _, _, _, _, O5.cell _, _, O5.cell _, ?_⟩
    refine K1015 ht N hbl ia ib fun h1 f1 => ⟨_, _, rfl, ?_⟩
    rw [has_rk ia ib ix fx hvv.1]
    refine ⟨r3, 0, rfl, _, (O3.ext f1).cell _, _, (O3.ext f1).cell _, r5, 0, rfl, _, (O5.ext f1).cell _, _, _, _, (O5.ext f1).cell _, _, (O5.ext f1).cell _, ?_⟩
    refine K1015 (ht.fr f1 id) (N.ext f1) hbl ic id' fun h2 f2 => ⟨_, _, rfl, ?_⟩
    rw [has_rk ic id' ix fx hvv.2]
    have F2 := Ext.trans f1 f2
    refine ⟨r1, 0, rfl, _, (O1.ext F2).cell _, _, (O1.ext F2).cell _, r3, 0, rfl, _, (O3.ext F2).cell _, _, (O3.ext F2).cell _, ?_⟩
    refine K1016 (hN.ext F2) ia ib ic id' (fun hbad => by rw [hv] at hbad; cases hbad) fun _ lo hi h3 f3 il ih nl nh rl rh => ⟨_, _, _, rfl, ?_⟩
    obtain ⟨l1, l2, l3⟩ := cn_rk il nl
    obtain ⟨g1, g2, g3⟩ := cn_rk ih nh
    have hvj : vS (cnP lo) (cnP hi) = true := by
      unfold vS
      rw [l2, g2, l1, g1, rl, rh, decide_eq_true (by omega), decide_eq_true (by omega), decide_eq_true (by omega)]; rfl
    have F3 := Ext.trans F2 f3
    refine alK fun r9 h4 e4 f4 o4 z4 => ⟨r9, 0, rfl, o4.stC (by simp) rfl fun oa fa => oa.stC (by simp) rfl fun ob fb => ?_⟩
    have fab := Fr.trans (S := fun x => x = r9) fa fb fun _ _ e => e
    generalize setCell (setCell h4 _ _) _ _ = h5 at *
    have ob : Own h5 r9 #[.int .i64 (cnP lo), .int .i64 (cnP hi)] := ob
    have F5 : Ext h h5 := Fr.trans (Ext.trans F3 f4) fab fun x hx e => by have := F3.size; omega
    refine ⟨r9, 0, rfl, _, ob.cell _, _, ob.cell _, r5, 0, rfl, _, (O5.ext F5).cell _, _, _, _, (O5.ext F5).cell _, _, (O5.ext F5).cell _, ?_⟩
    refine K1015 (ht.fr F5 id) (N.ext F5) hbl l3 g3 fun h6 f6 => ⟨_, _, rfl, ?_⟩
    rw [has_rk l3 g3 ix fx hvj, l1, g1, rl, rh]
    have F6 := Ext.trans F5 f6
    have fin : ∀ bad : Bool, bad = false → F1004_j14 B R a b c d (some ⟨r5, 0, none⟩) (some ⟨r7, 0, none⟩) ok (decide (rk a ≤ rk x) && decide (rk x ≤ rk b)) (decide (rk c ≤ rk x) && decide (rk x ≤ rk d)) bad h6 := fun bad hb =>
      meets_end (ht.fr F6 id) ia ib ic id' ix fx hv (O5.ext F6) (O7.ext F6) (N.ext F6) hb rfl rfl M2 fun h7 f7 => H h7 (Ext.trans F6 f7)
    refine ⟨fun e => absurd e (by decide), fun _ => ⟨fun e3 => ⟨fun _ => fin _ ?_, fun e => (by cases e)⟩, fun e3 => ⟨fun e4 => fin _ ?_, fun e4 => fin _ rfl⟩⟩⟩
    · rw [Bool.and_eq_true, decide_eq_true_eq, decide_eq_true_eq] at e3
      rw [decide_eq_true (by omega), decide_eq_true (by omega)]; rfl
    · rw [Bool.and_eq_true, decide_eq_true_eq, decide_eq_true_eq] at e4
      rw [decide_eq_true (by omega), decide_eq_true (by omega)]; rfl
theorem meets_mid (t : TypeId) {r1 r3 r5 : Nat} {a b c d x err mq mr f : Int} {ok : Bool} {neg : Bool} {p : Option Addr} {n cc : Nat} {e : Int} (ht : TabH h) (hN : NoneH h) (ia : I64 a) (ib : I64 b) (ic : I64 c) (id' : I64 d) (ix : I64 x)
    (O1 : Own h r1 #[.int .i64 a, .int .i64 b]) (O3 : Own h r3 #[.int .i64 c, .int .i64 d]) (O5 : Own h r5 #[.bool neg, .slice p n cc, .int .i64 e])
    (hfin : isFin x = true → err = 0 ∧ NumS 1074 h neg p n e (fV x)) (hinf : isFin x = false → err = 10) (M : MeetR a b c d mq mr ok f) (H : ∀ h', Ext h h' → R (.returned (.bool true)) h') :
    alW h (.cells #[.int .i64 0, .int .i64 0] t) fun u7 v7 => iP u7 0 fun w7 x7 => stC v7 w7 x7 (.int .i64 mq) fun y7 => stC y7 w7 (x7 + 1) (.int .i64 mr) fun z7 =>
      Ent Tryz.prog B 6 #[] (retE (fun a8 b8 => ∃ c8, a8 = .bool c8 ∧
        ((!c8) = true → F1004_j60 B R a b c d (some ⟨r1, 0, none⟩) (some ⟨r3, 0, none⟩) (some ⟨r5, 0, none⟩) err (some ⟨u7, 0, none⟩) ok f true b8) ∧
        ((!c8) = false → iP r1 0 fun d8 e8 => ∃ f8, cI b8 d8 e8 .i64 f8 ∧ ∃ g8, cell? b8 ⟨d8, e8 + 1, none⟩ = some (.int .i64 g8) ∧
          Ent Tryz.prog B 10 #[.agg #[.int .i64 f8, .int .i64 g8]] (retE (fun i8 j8 => ∃ k8, i8 = .bool k8 ∧
            F1004_j60 B R a b c d (some ⟨r1, 0, none⟩) (some ⟨r3, 0, none⟩) (some ⟨r5, 0, none⟩) err (some ⟨u7, 0, none⟩) ok f (!k8) j8) (pk R)) b8)) (pk R)) z7 := by
  refine alK fun r7 h1 e1 f1 o1 z1 => ⟨r7, 0, rfl, o1.stC (by simp) rfl fun oa fa => oa.stC (by simp) rfl fun ob fb => ?_⟩
  have fab := Fr.trans (S := fun x => x = r7) fa fb fun _ _ e => e
  generalize setCell (setCell h1 _ _) _ _ = h2 at *
  have O7 : Own h2 r7 #[.int .i64 mq, .int .i64 mr] := ob
  have F2 : Ext h h2 := Fr.trans f1 fab fun x hx e => by omega
  refine K1011 (ht.fr F2 id) fun h3 f3 => ⟨_, rfl, fun e => (by cases e), fun _ => ?_⟩
  have F3 := Ext.trans F2 f3
  refine ⟨r1, 0, rfl, _, (O1.ext F3).cell _, _, (O1.ext F3).cell _, K1014 ia ib fun h4 f4 => ⟨_, rfl, ?_⟩⟩
  have F4 := Ext.trans F3 f4
  have tl : ∀ h5, Ext h4 h5 → F1004_j6 B R a b c d (some ⟨r1, 0, none⟩) (some ⟨r3, 0, none⟩) (some ⟨r5, 0, none⟩) err (some ⟨r7, 0, none⟩) ok f (!(vS a b && vS c d)) h5 := fun h5 f5 => by
    have F5 := Ext.trans F4 f5
    exact meets_tail (ht.fr F5 id) (hN.ext F5) ia ib ic id' ix (O1.ext F5) (O3.ext F5) (O5.ext F5) (((O7.ext f3).ext f4).ext f5) (fun e => ⟨(hfin e).1, (hfin e).2.ext F5⟩) hinf M fun h6 f6 => H h6 (Ext.trans F5 f6)
  cases hv : vS a b
  · have := tl h4 Fr.rfl'
    rw [hv, Bool.false_and] at this
    exact ⟨fun _ => this, fun e => (by cases e)⟩
  · refine ⟨fun e => (by cases e), fun _ => ⟨r3, 0, rfl, _, (O3.ext F4).cell _, _, (O3.ext F4).cell _, K1014 ic id' fun h5 f5 => ⟨_, rfl, ?_⟩⟩⟩
    have := tl h5 f5
    rw [hv, Bool.true_and] at this
    exact this
/-- plumblaw8.SpanMeets. -/
theorem K1004 {a b c d x : Int} (ht : TabH h) (hN : NoneH h) (ia : I64 a) (ib : I64 b) (ic : I64 c) (id' : I64 d) (ix : I64 x) (H : ∀ h', Ext h h' → R (.returned (.bool true)) h') :
    Ent Tryz.prog B 4 #[.int .i64 a, .int .i64 b, .int .i64 c, .int .i64 d, .int .i64 x] R h := by
  refine F1004_ok _ _ _ _ _ (alK fun r1 h1 e1 f1 o1 z1 => ⟨r1, 0, rfl, o1.stC (by simp) rfl fun oa fa => oa.stC (by simp) rfl fun ob fb => ?_⟩)
  have fab := Fr.trans (S := fun x => x = r1) fa fb fun _ _ e => e
  generalize setCell (setCell h1 _ _) _ _ = h2 at *
  have O1 : Own h2 r1 #[.int .i64 a, .int .i64 b] := ob
  have F2 : Ext h h2 := Fr.trans f1 fab fun x hx e => by omega
  clear fa fb oa ob
  refine alK fun r3 h3 e3 f3 o3 z3 => ⟨r3, 0, rfl, o3.stC (by simp) rfl fun oa fa => oa.stC (by simp) rfl fun ob fb => ?_⟩
  have fab3 := Fr.trans (S := fun x => x = r3) fa fb fun _ _ e => e
  generalize setCell (setCell h3 _ _) _ _ = h4 at *
  have O3 : Own h4 r3 #[.int .i64 c, .int .i64 d] := ob
  have F24 : Ext h2 h4 := Fr.trans f3 fab3 fun x hx e => by omega
  have F4 := Ext.trans F2 F24
  clear fa fb oa ob
  refine K21g (ht.fr F4 id) fun neg p n cc e err h5 f5 hfin hinf => ⟨_, _, _, _, _, _, rfl, ?_⟩
  refine alK fun r6 h6 e6 f6 o6 z6 => ⟨r6, 0, rfl, o6.stC (by simp) rfl fun oa fa => oa.stC (by simp) rfl fun ob fb => ob.stC (by simp) rfl fun oc fc => ?_⟩
  have fac := Fr.trans (S := fun x => x = r6) (Fr.trans (S := fun x => x = r6) fa fb fun _ _ e => e) fc fun _ _ e => e
  generalize setCell (setCell (setCell h6 _ _) _ _) _ _ = h7 at *
  have O6 : Own h7 r6 #[.bool neg, .slice p n cc, .int .i64 e] := oc
  have F57 : Ext h5 h7 := Fr.trans f6 fac fun x hx e => by omega
  have F7 := Ext.trans (Ext.trans F4 f5) F57
  have O1 := ((O1.ext F24).ext f5).ext F57
  have O3 := (O3.ext f5).ext F57
  clear fa fb fc oa ob oc
  refine ⟨r1, 0, rfl, _, O1.cell _, _, O1.cell _, r3, 0, rfl, _, O3.cell _, _, O3.cell _, ?_⟩
  have N7 := hN.ext F7
  have T7 := ht.fr F7 id
  have hfin7 : isFin x = true → err = 0 ∧ NumS 1074 h7 neg p n e (fV x) := fun e => ⟨(hfin e).1, (hfin e).2.ext F57⟩
  refine K1013 N7 ia ib ic id' (fun hv h8 f8 => ⟨_, _, _, _, rfl, ?_⟩) (fun hv hl h8 f8 => ⟨_, _, _, _, rfl, ?_⟩) (fun hv hl lo hi h8 f8 il ih nl nh rl rh => ⟨_, _, _, _, rfl, ?_⟩)
  · exact meets_mid _ (T7.fr f8 id) (N7.ext f8) ia ib ic id' ix (O1.ext f8) (O3.ext f8) (O6.ext f8) (fun e => ⟨(hfin7 e).1, (hfin7 e).2.ext f8⟩) hinf (.inl ⟨hv, rfl, rfl⟩) fun h9 f9 => H h9 (Ext.trans (Ext.trans F7 f8) f9)
  · exact meets_mid _ (T7.fr f8 id) (N7.ext f8) ia ib ic id' ix (O1.ext f8) (O3.ext f8) (O6.ext f8) (fun e => ⟨(hfin7 e).1, (hfin7 e).2.ext f8⟩) hinf (.inr (.inl ⟨hv, rfl, rfl, hl⟩)) fun h9 f9 => H h9 (Ext.trans (Ext.trans F7 f8) f9)
  · obtain ⟨l1, l2, l3⟩ := cn_rk il nl
    obtain ⟨g1, g2, g3⟩ := cn_rk ih nh
    exact meets_mid _ (T7.fr f8 id) (N7.ext f8) ia ib ic id' ix (O1.ext f8) (O3.ext f8) (O6.ext f8) (fun e => ⟨(hfin7 e).1, (hfin7 e).2.ext f8⟩) hinf (.inr (.inr ⟨hv, rfl, rfl, hl, l3, g3, l2, g2, l1.trans rl, g1.trans rh⟩)) fun h9 f9 => H h9 (Ext.trans (Ext.trans F7 f8) f9)
end Go.Proofs
