import Derived.Test.YtpkdpdpobddnpaaGreatFmtA33
import Derived.Test.YtpkdpdpobddnpaaGreatFmtA24
import Derived.Test.YtpkdpdpobddnpaaGreatFmtA25
import Derived.Test.YtpkdpdpobddnpaaGreatFmtA22
import Derived.WalkKit
import Derived.Test.YtpkdpdpobddnpaaGreatFmtA07
/- Here stand lemmas: span: contracts, and the walk of the row. -/
set_option linter.unusedVariables false
set_option linter.unusedVariables false
namespace Go.Proofs
open Go Go.Eng
variable {B : World} {R : Ending -> Heap -> Prop} {h : Heap}
def okS (ps : List (Int × Int)) : Bool := ps.all fun p => vS p.1 p.2
theorem K1040 {b n c : Nat} {cs : Array Value} {ps : List (Int × Int)} (O : Own h b cs) (hn : ps.length = n) (hl : n <= 1000) (hc : ∀ i (hi : i < ps.length), cs[i * 2]? = some (.int .i64 ps[i].1) /\ cs[i * 2 + 1]? = some (.int .i64 ps[i].2) /\ I64 ps[i].1 /\ I64 ps[i].2)
  (H : ∀ h', Ext h h' -> R (.returned (.int .i64 (if okS ps then 0 else 1))) h') : Ent Tryz.prog B 36 #[.slice (some ⟨b, 0, none⟩) n c] R h := by
 refine F1040_ok _ _ _ ⟨fun m vs h' => match vs with
  | [.slice p n' _, .int _ nn, .int _ i] => p = some (⟨b, 0, none⟩ : Addr) /\ n = n' /\ nn = (n : Int) /\ Ext h h' /\ ∃ j : Nat, i = (j : Int) /\ j <= n /\ m = n - j /\ okS (ps.take j) = true
  | _ => False, n, ⟨rfl, rfl, rfl, Fr.rfl', 0, rfl, by omega, rfl, rfl⟩, ?_⟩
 rintro m h1 _ _ _ _ _ ⟨rfl, rfl, rfl, f, j, rfl, hj, rfl, hok⟩ _
 refine ⟨fun e => ?_, fun e => ?_⟩
 ·have hjn : j < n := by simp at e; omega
  obtain ⟨c1, c2, i1, i2⟩ := hc j (by omega)
  have O1 := O.ext f
  refine ⟨b, 0, rfl, by omega, by omega, b, _, rfl, ps[j].1, by rw [Int.toNat_natCast, Nat.zero_add]; show cell? _ _ = _; rw [O1.cell]; exact c1, ps[j].2, by rw [Int.toNat_natCast, Nat.zero_add, O1.cell]; exact c2, ?_⟩
  refine alK fun r2 h2 e2 f2 o2 z2 => ⟨r2, 0, rfl, o2.stC (by simp) rfl fun oa fa => oa.stC (by simp) rfl fun ob fb => ⟨r2, 0, rfl, _, ob.cell _, _, ob.cell _, ?_⟩⟩
  have fab := Fr.trans (S := fun x => x = r2) fa fb fun _ _ e => e
  refine K1014 i1 i2 fun h3 f3 => ⟨_, rfl, ?_⟩
  have E3 : Ext h h3 := Ext.trans (Fr.trans (Ext.trans f f2) fab fun x hx e => by have := f.size; omega) f3
  cases hv : vS ps[j].1 ps[j].2
  ·refine ⟨fun _ => ?_, nofun⟩
   have : okS ps = false := by
    unfold okS
    rw [List.all_eq_false]
    exact ⟨_, List.getElem_mem (by omega : j < ps.length), by rw [hv]; decide⟩
   have HH := H h3 E3
   rw [this] at HH
   exact HH
  ·refine ⟨nofun, fun _ => ⟨n - (j + 1), by omega, rfl, rfl, rfl, E3, j + 1, by rw [i64_in (by omega) (by omega)]; rfl, by omega, rfl, ?_⟩⟩
   unfold okS at hok ⊢
   rw [List.take_succ_eq_append_getElem (by omega), List.all_append, hok]
   simp [hv]
 ·have hjn : j = n := by simp at e; omega
  rw [hjn, List.take_of_length_le (by omega)] at hok
  have HH := H h1 f
  rw [hok] at HH
  exact HH
theorem max_wd {a b : Int} (ha : I64 a) (hb : I64 b) (na : isNaN a = false) (nb : isNaN b = false) : ∃ o m, FloatKind.f64.format.order (wd a) (wd b) = some o /\ maxF .f64 (wd a) (wd b) o = wd m /\ I64 m /\ isNaN m = false /\ rk m = max (rk a) (rk b) := by
 have ho := order_rk ha hb na nb
 unfold compareOfLessAndEq at ho
 by_cases h : rk a < rk b
 ·rw [if_pos h] at ho; exact ⟨_, b, ho, rfl, hb, nb, by omega⟩
 ·rw [if_neg h] at ho
  by_cases h2 : rk a = rk b
  ·rw [if_pos h2] at ho
   by_cases h3 : (FloatKind.f64.decode (wd a)).neg = true
   ·exact ⟨_, b, ho, if_pos h3, hb, nb, by omega⟩
   ·exact ⟨_, a, ho, if_neg h3, ha, na, by omega⟩
  ·rw [if_neg h2] at ho; exact ⟨_, a, ho, rfl, ha, na, by omega⟩
theorem min_wd {a b : Int} (ha : I64 a) (hb : I64 b) (na : isNaN a = false) (nb : isNaN b = false) : ∃ o m, FloatKind.f64.format.order (wd a) (wd b) = some o /\ minF .f64 (wd a) (wd b) o = wd m /\ I64 m /\ isNaN m = false /\ rk m = min (rk a) (rk b) := by
 have ho := order_rk ha hb na nb
 unfold compareOfLessAndEq at ho
 by_cases h : rk a < rk b
 ·rw [if_pos h] at ho; exact ⟨_, a, ho, rfl, ha, na, by omega⟩
 ·rw [if_neg h] at ho
  by_cases h2 : rk a = rk b
  ·rw [if_pos h2] at ho
   by_cases h3 : (FloatKind.f64.decode (wd a)).neg = true
   ·exact ⟨_, a, ho, if_pos h3, ha, na, by omega⟩
   ·exact ⟨_, b, ho, if_neg h3, hb, nb, by omega⟩
  ·rw [if_neg h2] at ho; exact ⟨_, b, ho, rfl, hb, nb, by omega⟩
theorem wi_nn {m : Int} (hm : I64 m) (hn : isNaN m = false) : WI (wd m) m := by
 have := wi_wd hm
 unfold nrm at this
 rw [hn] at this
 exact this
theorem vS_parts {a b : Int} (h : vS a b = true) : isNaN a = false /\ isNaN b = false /\ rk a <= rk b /\ rk a < 9218868437227405312 /\ -9218868437227405312 < rk b := by
 unfold vS at h
 simp only [Bool.and_eq_true, Bool.not_eq_true', decide_eq_true_eq] at h
 exact ⟨h.1.1.1.1, h.1.1.1.2, h.1.1.2, h.1.2, h.2⟩
def NoneH (h : Heap) : Prop := 0 < h.size /\ cell? h ⟨0, 0, none⟩ = some (.int .i64 0) /\ cell? h ⟨0, 1, none⟩ = some (.int .i64 0)
theorem NoneH.ext {h h' : Heap} (H : NoneH h) (f : Ext h h') : NoneH h' := by
 obtain ⟨a, b, c⟩ := H
 refine ⟨Nat.lt_of_lt_of_le a f.size, ?_, ?_⟩
 ·unfold cell? at b ⊢; rw [f.same 0 a id]; exact b
 ·unfold cell? at c ⊢; rw [f.same 0 a id]; exact c
theorem NoneH.c0 {h : Heap} (H : NoneH h) : cI h 0 0 .i64 0 := H.2.1
theorem NoneH.c1 {h : Heap} (H : NoneH h) : cell? h ⟨0, 0 + 1, none⟩ = some (.int .i64 0) := H.2.2
end Go.Proofs
set_option linter.unusedVariables false
namespace Go.Proofs
open Go Go.Eng
variable {B : World} {R : Ending -> Heap -> Prop} {h : Heap}
theorem K1040p {r cc : Nat} {a b c d : Int} (O : Own h r #[.int .i64 a, .int .i64 b, .int .i64 c, .int .i64 d]) (ia : I64 a) (ib : I64 b) (ic : I64 c) (id' : I64 d)
  (H : ∀ h', Ext h h' -> R (.returned (.int .i64 (if okS [(a, b), (c, d)] then 0 else 1))) h') : Ent Tryz.prog B 36 #[.slice (some ⟨r, 0, none⟩) 2 cc] R h := by
 refine K1040 (ps := [(a, b), (c, d)]) O rfl (by omega) (fun i hi => ?_) H
 have : i = 0 \/ i = 1 := by simp at hi; omega
 rcases this with rfl | rfl
 ·exact ⟨rfl, rfl, ia, ib⟩
 ·exact ⟨rfl, rfl, ic, id'⟩
theorem okS2 {a b c d : Int} : okS [(a, b), (c, d)] = (vS a b && vS c d) := by unfold okS; simp
theorem K1013 {a b c d : Int} (hN : NoneH h) (ia : I64 a) (ib : I64 b) (ic : I64 c) (id' : I64 d)
  (Hbad : (vS a b && vS c d) = false -> ∀ h', Ext h h' -> R (.returned (.tuple #[.agg #[.int .i64 0, .int .i64 0], .bool false, .int .i64 (1 : Int)])) h')
  (Hno : (vS a b && vS c d) = true -> min (rk b) (rk d) < max (rk a) (rk c) -> ∀ h', Ext h h' -> R (.returned (.tuple #[.agg #[.int .i64 0, .int .i64 0], .bool false, .int .i64 (0 : Int)])) h')
  (Hyes : (vS a b && vS c d) = true -> max (rk a) (rk c) <= min (rk b) (rk d) -> ∀ lo hi h', Ext h h' -> I64 lo -> I64 hi -> isNaN lo = false -> isNaN hi = false -> rk lo = max (rk a) (rk c) -> rk hi = min (rk b) (rk d) ->
   R (.returned (.tuple #[.agg #[.int .i64 (cnP lo), .int .i64 (cnP hi)], .bool true, .int .i64 (0 : Int)])) h') :
  Ent Tryz.prog B 14 #[.agg #[.int .i64 a, .int .i64 b], .agg #[.int .i64 c, .int .i64 d]] R h := by
 refine F1013_ok _ _ _ _ (alK fun r1 h1 e1 f1 o1 z1 => alK fun r2 h2 e2 f2 o2 z2 => alK fun r3 h3 e3 f3 o3 z3 => ?_)
 have O1 := (o1.ext f2).ext f3
 have O2 := o2.ext f3
 have F3 := Ext.trans (Ext.trans f1 f2) f3
 refine ⟨r1, 0, rfl, _, O1.cell _, _, O1.cell _, r2, 0, rfl, _, O2.cell _, _, O2.cell _, alK fun r4 h4 e4 f4 o4 z4 => K1040p o4 ia ib ic id' fun h5 f5 => ⟨_, rfl, ?_⟩⟩
 rw [okS2]
 have F5 := Ext.trans F3 (Ext.trans f4 f5)
 have O3 := (o3.ext f4).ext f5
 have O1 := (O1.ext f4).ext f5
 have O2 := (O2.ext f4).ext f5
 have N5 := hN.ext F5
 have n3 : h.size <= r3 := by have := f1.size; have := f2.size; omega
 cases hv : (vS a b && vS c d)
 ·refine ⟨fun _ => ⟨_, 0, rfl, _, N5.c0, _, N5.c1, r3, 0, rfl, O3.stC (by simp) rfl fun oa fa => oa.stC (by simp) rfl fun ob fb => ⟨r3, 0, rfl, _, ob.cell _, _, ob.cell _, ?_⟩⟩, nofun⟩
  have fab := Fr.trans (S := fun x => x = r3) fa fb fun _ _ e => e
  exact Hbad hv _ (Fr.trans F5 fab fun x hx e => by omega)
 ·refine ⟨nofun, fun _ => ⟨r1, 0, rfl, r1, 0, rfl, _, O1.cell _, r2, 0, rfl, r2, 0, rfl, _, O2.cell _, K54 ⟨_, rfl, same1 (S := fun _ => False) O2 Fr.rfl' id, K54 ⟨_, rfl, ?_⟩⟩⟩⟩
  have hvv := hv
  rw [Bool.and_eq_true] at hvv
  obtain ⟨na, nb, _, _, _⟩ := vS_parts hvv.1
  obtain ⟨nc, nd, _, _, _⟩ := vS_parts hvv.2
  obtain ⟨o, lo, q1, q2, q3, q4, q5⟩ := max_wd ia ic na nc
  refine ⟨o, q1, ?_⟩
  rw [q2]
  refine ⟨r1, 0, rfl, r1, 0 + 1, rfl, _, O1.cell _, r2, 0, rfl, r2, 0 + 1, rfl, _, O2.cell _, K54 ⟨_, rfl, same1 (S := fun _ => False) O2 Fr.rfl' id, K54 ⟨_, rfl, ?_⟩⟩⟩
  obtain ⟨o', hi, p1, p2, p3, p4, p5⟩ := min_wd ib id' nb nd
  refine ⟨o', p1, ?_⟩
  rw [p2]
  unfold F1013_j6
  rw [order_rk q3 p3 q4 p4, gt_ord, q5, p5]
  refine ⟨fun e => ⟨_, 0, rfl, _, N5.c0, _, N5.c1, r3, 0, rfl, O3.stC (by simp) rfl fun oa fa => oa.stC (by simp) rfl fun ob fb => ⟨r3, 0, rfl, _, ob.cell _, _, ob.cell _, ?_⟩⟩, fun e => ?_⟩
  ·have fab := Fr.trans (S := fun x => x = r3) fa fb fun _ _ e => e
   exact Hno hv (of_decide_eq_true e) _ (Fr.trans F5 fab fun x hx e => by omega)
  ·refine K56 (wi_nn q3 q4) ⟨_, rfl, K56 (wi_nn p3 p4) ⟨_, rfl, K1041 q3 p3 fun h6 f6 => ⟨_, _, _, rfl, ?_⟩⟩⟩
   refine alK fun r7 h7 e7 f7 o7 z7 => ⟨r7, 0, rfl, o7.stC (by simp) rfl fun oa fa => oa.stC (by simp) rfl fun ob fb => ⟨r7, 0, rfl, _, ob.cell _, _, ob.cell _, ?_⟩⟩
   have fab := Fr.trans (S := fun x => x = r7) fa fb fun _ _ e => e
   generalize setCell (setCell h7 _ _) _ _ = h8 at *
   have E68 : Ext h6 h8 := Fr.trans f7 fab fun x hx e => by omega
   have O3' := (O3.ext f6).ext E68
   have E8 := Ext.trans (Ext.trans F5 f6) E68
   refine ⟨r3, 0, rfl, O3'.stC (by simp) rfl fun oc fc => oc.stC (by simp) rfl fun od fd => ⟨r3, 0, rfl, _, od.cell _, _, od.cell _, ?_⟩⟩
   have fcd := Fr.trans (S := fun x => x = r3) fc fd fun _ _ e => e
   exact Hyes hv (by have := of_decide_eq_false e; omega) lo hi _ (Fr.trans E8 fcd fun x hx e => by omega) q3 p3 q4 p4 q5 p5
theorem K1016 {a b c d : Int} (hN : NoneH h) (ia : I64 a) (ib : I64 b) (ic : I64 c) (id' : I64 d)
  (Hbad : (vS a b && vS c d) = false -> ∀ h', Ext h h' -> R (.returned (.tuple #[.agg #[.int .i64 0, .int .i64 0], .int .i64 (1 : Int)])) h')
  (Hyes : (vS a b && vS c d) = true -> ∀ lo hi h', Ext h h' -> I64 lo -> I64 hi -> isNaN lo = false -> isNaN hi = false -> rk lo = min (rk a) (rk c) -> rk hi = max (rk b) (rk d) ->
   R (.returned (.tuple #[.agg #[.int .i64 (cnP lo), .int .i64 (cnP hi)], .int .i64 (0 : Int)])) h') :
  Ent Tryz.prog B 15 #[.agg #[.int .i64 a, .int .i64 b], .agg #[.int .i64 c, .int .i64 d]] R h := by
 refine F1016_ok _ _ _ _ (alK fun r1 h1 e1 f1 o1 z1 => alK fun r2 h2 e2 f2 o2 z2 => alK fun r3 h3 e3 f3 o3 z3 => ?_)
 have O1 := (o1.ext f2).ext f3
 have O2 := o2.ext f3
 have F3 := Ext.trans (Ext.trans f1 f2) f3
 refine ⟨r1, 0, rfl, _, O1.cell _, _, O1.cell _, r2, 0, rfl, _, O2.cell _, _, O2.cell _, alK fun r4 h4 e4 f4 o4 z4 => K1040p o4 ia ib ic id' fun h5 f5 => ⟨_, rfl, ?_⟩⟩
 rw [okS2]
 have F5 := Ext.trans F3 (Ext.trans f4 f5)
 have O3 := (o3.ext f4).ext f5
 have O1 := (O1.ext f4).ext f5
 have O2 := (O2.ext f4).ext f5
 have N5 := hN.ext F5
 have n3 : h.size <= r3 := by have := f1.size; have := f2.size; omega
 have S1 : ∀ o, sameCells h5 h5 r1 o 1 := fun o => same1 (S := fun _ => False) O1 Fr.rfl' id
 have S2 : ∀ o, sameCells h5 h5 r2 o 1 := fun o => same1 (S := fun _ => False) O2 Fr.rfl' id
 cases hv : (vS a b && vS c d)
 ·refine ⟨fun _ => ⟨_, 0, rfl, _, N5.c0, _, N5.c1, r3, 0, rfl, O3.stC (by simp) rfl fun oa fa => oa.stC (by simp) rfl fun ob fb => ⟨r3, 0, rfl, _, ob.cell _, _, ob.cell _, ?_⟩⟩, nofun⟩
  have fab := Fr.trans (S := fun x => x = r3) fa fb fun _ _ e => e
  exact Hbad hv _ (Fr.trans F5 fab fun x hx e => by omega)
 ·have hvv := hv
  rw [Bool.and_eq_true] at hvv
  obtain ⟨na, nb, _, _, _⟩ := vS_parts hvv.1
  obtain ⟨nc, nd, _, _, _⟩ := vS_parts hvv.2
  obtain ⟨o, lo, q1, q2, q3, q4, q5⟩ := min_wd ia ic na nc
  obtain ⟨o', hi, p1, p2, p3, p4, p5⟩ := max_wd ib id' nb nd
  refine ⟨nofun, fun _ => ⟨r1, 0, rfl, r1, 0, rfl, _, O1.cell _, r2, 0, rfl, r2, 0, rfl, _, O2.cell _, r1, 0, rfl, r1, 0 + 1, rfl, _, O1.cell _, r2, 0, rfl, r2, 0 + 1, rfl, _, O2.cell _,
   K54 ⟨_, rfl, S2 _, S1 _, S2 _, K54 ⟨_, rfl, S2 _, S1 _, o, q1, ?_⟩⟩⟩⟩
  rw [q2]
  refine K56 (wi_nn q3 q4) ⟨_, rfl, S2 _, S1 _, K54 ⟨_, rfl, S2 _, K54 ⟨_, rfl, o', p1, ?_⟩⟩⟩
  rw [p2]
  refine K56 (wi_nn p3 p4) ⟨_, rfl, K1041 q3 p3 fun h6 f6 => ⟨_, _, _, rfl, ?_⟩⟩
  refine ⟨r3, 0, rfl, (O3.ext f6).stC (by simp) rfl fun oc fc => oc.stC (by simp) rfl fun od fd => ⟨r3, 0, rfl, _, od.cell _, _, od.cell _, ?_⟩⟩
  have fcd := Fr.trans (S := fun x => x = r3) fc fd fun _ _ e => e
  exact Hyes hv lo hi _ (Fr.trans (Ext.trans F5 f6) fcd fun x hx e => by omega) q3 p3 q4 p4 q5 p5
theorem sign_bd (v : Int) : -1 <= v.sign /\ v.sign <= 1 := by
 rcases Int.lt_trichotomy v 0 with h | h | h
 ·rw [Int.sign_eq_neg_one_of_neg h]; omega
 ·subst h; decide
 ·rw [Int.sign_eq_one_of_pos h]; omega
end Go.Proofs
set_option linter.unusedVariables false
namespace Go.Proofs
open Go Go.Eng
variable {B : World} {R : Ending -> Heap -> Prop} {h : Heap}
abbrev P1 : Int := 4607182418800017408
abbrev P2 : Int := 4611686018427387904
abbrev P3 : Int := 4613937818241073152
theorem pwOne : Pw P1 0 := ⟨by unfold I64 P1; omega, by decide +kernel, by decide +kernel, by omega⟩
theorem pwTwo : Pw P2 1 := ⟨by unfold I64 P2; omega, by decide +kernel, by decide +kernel, by omega⟩
theorem c11 : cls (addP P1 P1) ≠ 0 := by decide +kernel
theorem c12 : cls (addP P1 P2) ≠ 0 := by decide +kernel
theorem d11 : dirV (1 : Int).toNat (fV P1 + fV P1) (-1074) = P2 := by decide +kernel
theorem d12 : dirV (2 : Int).toNat (fV P1 + fV P2) (-1074) = P3 := by decide +kernel
theorem v11 : (vS P1 P1 && vS P1 P2) = true := by decide +kernel
theorem v23 : vS P2 P3 = true := by decide +kernel
theorem cn2 : cnP P2 = P2 := by decide +kernel
theorem cn3 : cnP P3 = P3 := by decide +kernel
theorem i1 : I64 P1 := pwOne.1
theorem i2 : I64 P2 := pwTwo.1
theorem i3 : I64 P3 := by unfold I64 P3; omega
theorem gt2 : (FloatKind.f64.format.order (wd P2) 0 == some .gt) = true := by decide +kernel
theorem K1019c (ht : TabH h) (H : ∀ h', Ext h h' -> R (.returned (.tuple #[.agg #[.int .i64 P2, .int .i64 P3], .int .i64 (0 : Int)])) h') :
  Ent Tryz.prog B 9 #[.agg #[.int .i64 P1, .int .i64 P1], .agg #[.int .i64 P1, .int .i64 P2]] R h := by
 refine F1019_ok _ _ _ _ (alK fun r1 h1 e1 f1 o1 z1 => alK fun r2 h2 e2 f2 o2 z2 => alK fun r3 h3 e3 f3 o3 z3 => ?_)
 have O1 := (o1.ext f2).ext f3
 have O2 := o2.ext f3
 have F3 := Ext.trans (Ext.trans f1 f2) f3
 refine ⟨r1, 0, rfl, _, O1.cell _, _, O1.cell _, r2, 0, rfl, _, O2.cell _, _, O2.cell _, alK fun r4 h4 e4 f4 o4 z4 => K1040p o4 i1 i1 i1 i2 fun h5 f5 => ⟨_, rfl, ?_⟩⟩
 rw [okS2, v11]
 have F5 := Ext.trans F3 (Ext.trans f4 f5)
 have O3 := (o3.ext f4).ext f5
 have O1 := (O1.ext f4).ext f5
 have O2 := (O2.ext f4).ext f5
 have n3 : h.size <= r3 := by have := f1.size; have := f2.size; omega
 refine ⟨nofun, fun _ => ⟨r1, 0, rfl, r1, 0, rfl, _, O1.cell _, r2, 0, rfl, r2, 0, rfl, _, O2.cell _, ?_⟩⟩
 refine K1045s (ht.fr F5 id) pwOne pwOne (.inl rfl) c11 fun h6 f6 => ⟨_, _, rfl, ?_⟩
 rw [d11]
 have O1 := O1.ext f6
 have O2 := O2.ext f6
 refine ⟨r1, 0, rfl, r1, 0 + 1, rfl, _, O1.cell _, r2, 0, rfl, r2, 0 + 1, rfl, _, O2.cell _, ?_⟩
 refine K1045s ((ht.fr F5 id).fr f6 id) pwOne pwTwo (.inr rfl) c12 fun h7 f7 => ⟨_, _, rfl, ?_⟩
 rw [d12]
 refine K1041 i2 i3 fun h8 f8 => ⟨_, _, _, rfl, ?_⟩
 rw [cn2, cn3]
 have F8 := Ext.trans (Ext.trans (Ext.trans F5 f6) f7) f8
 refine ⟨r3, 0, rfl, (((O3.ext f6).ext f7).ext f8).stC (by simp) rfl fun oc fc => oc.stC (by simp) rfl fun od fd => ⟨r3, 0, rfl, _, od.cell _, _, od.cell _, ?_⟩⟩
 have fcd := Fr.trans (S := fun x => x = r3) fc fd fun _ _ e => e
 exact H _ (Fr.trans F8 fcd fun x hx e => by omega)
theorem K1029c (H : ∀ h', Ext h h' -> R (.returned (.tuple #[.int .i64 (1 : Int), .bool true, .int .i64 (0 : Int)])) h') :
  Ent Tryz.prog B 10 #[.agg #[.int .i64 P2, .int .i64 P3]] R h := by
 refine F1029_ok _ _ (alK fun r1 h1 e1 f1 o1 z1 => ⟨r1, 0, rfl, _, o1.cell _, _, o1.cell _, alK fun r2 h2 e2 f2 o2 z2 => ?_⟩)
 refine K1040 (ps := [(P2, P3)]) o2 rfl (by omega) (fun i hi => ?_) fun h3 f3 => ⟨_, rfl, ?_⟩
 ·have : i = 0 := by simp at hi; omega
  subst this
  exact ⟨rfl, rfl, i2, i3⟩
 have ho : okS [(P2, P3)] = true := by unfold okS; simp [v23]
 rw [ho]
 have O1 := (o1.ext f2).ext f3
 refine ⟨nofun, fun _ => ⟨r1, 0, rfl, r1, 0, rfl, _, O1.cell _, r1, 0, rfl, r1, 0 + 1, rfl, _, O1.cell _, K1041 i2 i3 fun h4 f4 => ⟨_, _, _, rfl, ?_⟩⟩⟩
 rw [cn2, cn3]
 refine alK fun r5 h5 e5 f5 o5 z5 => ⟨r5, 0, rfl, o5.stC (by simp) rfl fun oa fa => oa.stC (by simp) rfl fun ob fb => ⟨r5, 0, rfl, r5, 0, rfl, _, ob.cell _, K54 ⟨_, rfl, ?_⟩⟩⟩
 have fab := Fr.trans (S := fun x => x = r5) fa fb fun _ _ e => e
 have F := Fr.trans (Ext.trans (Ext.trans (Ext.trans (Ext.trans f1 f2) f3) f4) f5) fab fun x hx e => by
  have := f1.size; have := f2.size; have := f3.size; have := f4.size; omega
 refine ⟨fun _ => H _ F, fun e => ?_⟩
 have := gt2
 rw [show wd P2 = wd 4611686018427387904 from rfl] at this
 exact absurd (this.symm.trans e) (by decide)
theorem K1011 (ht : TabH h) (H : ∀ h', Ext h h' -> R (.returned (.bool true)) h') : Ent Tryz.prog B 6 #[] R h := by
 refine F1011_ok (K1019c ht fun h1 f1 => ⟨_, _, _, rfl, ?_⟩)
 refine alK fun r2 h2 e2 f2 o2 z2 => ⟨r2, 0, rfl, o2.stC (by simp) rfl fun oa fa => oa.stC (by simp) rfl fun ob fb => ⟨r2, 0, rfl, _, ob.cell _, _, ob.cell _, K1029c fun h3 f3 => ⟨_, _, _, rfl, ?_⟩⟩⟩
 have fab := Fr.trans (S := fun x => x = r2) fa fb fun _ _ e => e
 have F := Fr.trans (Ext.trans f1 f2) fab fun x hx e => by have := f1.size; omega
 have ob3 := ob.ext f3
 refine ⟨fun _ => ⟨r2, 0, rfl, _, ob3.cell _, _, ob3.cell _, ?_⟩, fun e => absurd e (by decide)⟩
 have HH := H h3 (Ext.trans F f3)
 exact ⟨fun _ => ⟨fun _ => ⟨fun _ => HH, fun e => absurd e (by decide)⟩, fun e => absurd e (by decide)⟩, fun e => absurd e (by decide)⟩
end Go.Proofs
set_option linter.unusedVariables false
namespace Go.Eng
open Go
theorem rk_inf {p : Int} (ip : I64 p) (hn : isNaN p = false) (hf : isFin p = false) : rk p = 9218868437227405312 \/ rk p = -9218868437227405312 := by
 obtain ⟨s, k, hk, rfl⟩ := as_pat ip hn
 by_cases h : k = 9218868437227405312
 ·subst h
  rw [rk_pat (by omega)]
  cases s
  ·exact .inl rfl
  ·exact .inr rfl
 ·rw [pat_fin (by omega)] at hf; cases hf
end Go.Eng
namespace Go.Proofs
open Go Go.Eng
variable {B : World} {R : Ending -> Heap -> Prop} {h : Heap}
end Go.Proofs
