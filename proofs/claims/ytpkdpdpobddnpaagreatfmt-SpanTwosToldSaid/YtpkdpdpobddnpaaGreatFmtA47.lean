import Derived.Test.YtpkdpdpobddnpaaGreatFmtA41
import Derived.Test.YtpkdpdpobddnpaaGreatFmtA24
import Derived.Test.YtpkdpdpobddnpaaGreatFmtA22
import Derived.Test.YtpkdpdpobddnpaaGreatFmtA03
import Derived.Test.YtpkdpdpobddnpaaGreatFmtA35
import Derived.Test.YtpkdpdpobddnpaaGreatFmtA36
/- Here stand lemmas: the walk of SpanHolds. -/
set_option linter.unusedVariables false
set_option linter.unusedVariables false
namespace Go.Proofs
open Go Go.Eng
variable {B : World} {R : Ending -> Heap -> Prop} {h : Heap}
theorem bl_scale {v : Int} {L d : Nat} (h : bl v.natAbs <= L) : bl (v * ((2 ^ d : Nat) : Int)).natAbs <= L + d := by
 rw [bl_le_iff] at *
 rw [Int.natAbs_mul, Int.natAbs_natCast, Nat.pow_add]
 exact Nat.mul_lt_mul_of_pos_right h (Nat.pow_pos (by decide))
theorem K1027 {a b : Int} (hN : NoneH h) (ia : I64 a) (ib : I64 b) (hv : vS a b = true)
  (H : ∀ h', Ext h h' -> R (.returned (.tuple #[.agg #[.int .i64 (cnP (negP b)), .int .i64 (cnP (negP a))], .int .i64 (0 : Int)])) h') :
  Ent Tryz.prog B 22 #[.agg #[.int .i64 a, .int .i64 b]] R h := by
 obtain ⟨na, nb, _, _, _⟩ := vS_parts hv
 refine F1027_ok _ _ (alK fun r1 h1 e1 f1 o1 z1 => alK fun r2 h2 e2 f2 o2 z2 => ?_)
 have O1 := o1.ext f2
 have F2 := Ext.trans f1 f2
 refine ⟨r1, 0, rfl, _, O1.cell _, _, O1.cell _, alK fun r3 h3 e3 f3 o3 z3 => ?_⟩
 refine K1040 (ps := [(a, b)]) o3 rfl (by omega) (fun i hi => ?_) fun h4 f4 => ⟨_, rfl, ?_⟩
 ·have : i = 0 := by simp at hi; omega
  subst this
  exact ⟨rfl, rfl, ia, ib⟩
 have ho : okS [(a, b)] = true := by unfold okS; simp [hv]
 rw [ho]
 have F4 := Ext.trans (Ext.trans F2 f3) f4
 have O1 := (O1.ext f3).ext f4
 have O2 := (o2.ext f3).ext f4
 have n2 : h.size <= r2 := by have := f1.size; omega
 refine ⟨nofun, fun _ => ⟨r1, 0, rfl, r1, 0 + 1, rfl, _, O1.cell _, r1, 0, rfl, r1, 0, rfl, _, O1.cell _, K99 ib ⟨_, rfl, same1 (S := fun _ => False) O1 Fr.rfl' id, K99 ia ⟨_, rfl, ?_⟩⟩⟩⟩
 refine K1041 (rk_neg ib nb).2.1 (rk_neg ia na).2.1 fun h9 f9 => ⟨_, _, _, rfl, ?_⟩
 refine ⟨r2, 0, rfl, (O2.ext f9).stC (by simp) rfl fun oc fc => oc.stC (by simp) rfl fun od fd => ⟨r2, 0, rfl, _, od.cell _, _, od.cell _, ?_⟩⟩
 have fcd := Fr.trans (S := fun x => x = r2) fc fd fun _ _ e => e
 exact H _ (Fr.trans (Ext.trans F4 f9) fcd fun x hx e => by omega)
theorem K1026 {a b c d : Int} (ht : TabH h) (hN : NoneH h) (ia : I64 a) (ib : I64 b) (ic : I64 c) (id' : I64 d) (hv : vS a b = true) (hv2 : vS c d = true) (hv3 : vS (cnP (negP d)) (cnP (negP c)) = true) (i1 : I64 (cnP (negP d))) (i2 : I64 (cnP (negP c)))
  (H : ∀ h', Ext h h' -> R (.returned (.tuple #[.agg #[.int .i64 (cnP (addW 1 a (cnP (negP d)))), .int .i64 (cnP (addW 2 b (cnP (negP c))))], .int .i64 (0 : Int)])) h') :
  Ent Tryz.prog B 12 #[.agg #[.int .i64 a, .int .i64 b], .agg #[.int .i64 c, .int .i64 d]] R h := by
 refine F1026_ok _ _ _ _ (alK fun r1 h1 e1 f1 o1 z1 => alK fun r2 h2 e2 f2 o2 z2 => alK fun r3 h3 e3 f3 o3 z3 => ?_)
 have O1 := (o1.ext f2).ext f3
 have O2 := o2.ext f3
 have F3 := Ext.trans (Ext.trans f1 f2) f3
 refine ⟨r1, 0, rfl, _, O1.cell _, _, O1.cell _, r2, 0, rfl, _, O2.cell _, _, O2.cell _, alK fun r4 h4 e4 f4 o4 z4 => K1040p o4 ia ib ic id' fun h5 f5 => ⟨_, rfl, ?_⟩⟩
 rw [okS2, hv, hv2]
 have F5 := Ext.trans F3 (Ext.trans f4 f5)
 have O3 := (o3.ext f4).ext f5
 have O1 := (O1.ext f4).ext f5
 have O2 := (O2.ext f4).ext f5
 have n3 : h.size <= r3 := by have := f1.size; have := f2.size; omega
 refine ⟨nofun, fun _ => ⟨r2, 0, rfl, _, O2.cell _, _, O2.cell _, K1027 (hN.ext F5) ic id' hv2 fun h6 f6 => ⟨_, _, _, rfl, spK fun r7 h7 l7 f7 O7 => ?_⟩⟩⟩
 have g7 := Ext.trans f6 f7
 have O1 := O1.ext g7
 have O3 := O3.ext g7
 have E7 := Ext.trans F5 g7
 have hvv : (vS a b && vS (cnP (negP d)) (cnP (negP c))) = true := by rw [hv, hv3]; rfl
 refine ⟨r1, 0, rfl, _, O1.cell _, _, O1.cell _, r7, 0, rfl, _, O7.cell _, _, O7.cell _, K1019 (ht.ext E7) (hN.ext E7) ia ib i1 i2 (fun e => by rw [hvv] at e; cases e) fun _ h8 f8 => ⟨_, _, _, rfl, ?_⟩⟩
 refine ⟨r3, 0, rfl, (O3.ext f8).stC (by simp) rfl fun oc fc => oc.stC (by simp) rfl fun od fd => ⟨r3, 0, rfl, _, od.cell _, _, od.cell _, ?_⟩⟩
 have fcd := Fr.trans (S := fun x => x = r3) fc fd fun _ _ e => e
 exact H _ (Fr.trans (Ext.trans E7 f8) fcd fun x hx e => by omega)
end Go.Proofs
set_option linter.unusedVariables false
namespace Go.Proofs
open Go Go.Eng
variable {B : World} {R : Ending -> Heap -> Prop} {h : Heap}
theorem fin_negP {a : Int} (ia : I64 a) (fa : isFin a = true) : isFin (negP a) = true /\ fV (negP a) = -fV a /\ I64 (negP a) /\ isNaN (negP a) = false /\ rk (negP a) = -rk a := by
 obtain ⟨r, i, n⟩ := rk_neg ia (fin_not fa).1
 have fr := fin_rk ia fa
 have f := fin_of_rk i n (by omega) (by omega)
 refine ⟨f, ?_, i, n, r⟩
 obtain ⟨s, k, hk, rfl⟩ := as_pat ia (fin_not fa).1
 have hk := fin_pat hk fa
 rw [negP_pat (by omega), fV_mag hk, fV_mag hk]
 cases s <;> simp
end Go.Proofs
