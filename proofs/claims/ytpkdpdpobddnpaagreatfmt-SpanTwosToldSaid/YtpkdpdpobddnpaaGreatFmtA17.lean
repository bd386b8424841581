import Derived.Test.YtpkdpdpobddnpaaGreatFmtA16
/- Here stand lemmas: plumbref4: contracts. -/
set_option linter.unusedVariables false
namespace Go.Proofs
open Go Go.Eng
variable {B : World} {R : Ending -> Heap -> Prop} {h : Heap}
abbrev K64V : Value := .agg #[.int .i64 (53 : Int), .int .i64 (-1074 : Int), .int .i64 (1024 : Int), .int .i64 (9218868437227405312 : Int), .int .i64 (-9223372036854775808 : Int)]
theorem K186 (H : ∀ h', Ext h h' -> R (.returned K64V) h') : Ent Tryz.prog B 96 #[] R h := by
 refine F186_ok (alK fun r h2 e f o z => ⟨r, 0, rfl, o.stC (by simp) rfl fun oa fa => oa.stC (by simp) rfl fun ob fb => ob.stC (by simp) rfl fun oc fc => oc.stC (by simp) rfl fun od fd => od.stC (by simp) rfl fun oe fe => ⟨r, 0, rfl, _, oe.cell _, _, oe.cell _, _, oe.cell _, _, oe.cell _, _, oe.cell _, ?_⟩⟩)
 have f1 := Fr.trans (S := fun x => x = r) (Fr.trans (S := fun x => x = r) fa fb fun _ _ e => e) fc fun _ _ e => e
 have f2 := Fr.trans (S := fun x => x = r) (Fr.trans (S := fun x => x = r) f1 fd fun _ _ e => e) fe fun _ _ e => e
 exact H _ (Fr.trans f f2 fun x hx e => by omega)
theorem K255 {m : Nat} (hm : m < 9223372036854775808) (H : R (.returned (.int .i64 (bl m : Int))) h) : Ent Tryz.prog B 170 #[.int .i64 (m : Int)] R h := by
 have hbm : bl m <= 63 := bl_le_iff.2 hm
 refine F255_ok _ ⟨fun w vs h' => match vs with
  | [.int _ x, .int _ k] => x = (w : Int) /\ w <= m /\ k + (bl w : Int) = (bl m : Int) /\ h' = h
  | _ => False, m, ⟨rfl, Nat.le_refl _, by simp, rfl⟩, ?_⟩
 rintro w h' _ k ⟨rfl, hw, hk, rfl⟩ _
 refine ⟨fun e => ⟨by decide, ?_⟩, fun e => ?_⟩
 ·have hw0 : w ≠ 0 := by have := of_decide_eq_true e; omega
  have hh := bl_half hw0
  have hb := bl_mono hw
  refine ⟨w / 2, by omega, by rw [td2, i64_nat (by omega)], by omega, ?_, rfl⟩
  rw [i64_in (by omega) (by omega)]; omega
 ·have hw0 : w = 0 := by have := of_decide_eq_false e; omega
  subst hw0
  have h0 : bl 0 = 0 := rfl
  rw [show k = (bl m : Int) by omega]; exact H
theorem odd_le {m : Nat} (hm : m <= 9007199254740992) : ∀ s o, m = 2 ^ s * o -> o % 2 = 1 -> o < 9007199254740992 := by
 intro s o h ho
 have h1 : o <= m := by rw [h]; exact Nat.le_mul_of_pos_left _ (Nat.pow_pos (by decide))
 omega
theorem K256 {m : Nat} {e : Int} (hm : m <= 9007199254740992) (he : -1074 <= e) (hn : e = -1074 \/ 4503599627370496 <= m) (hr : (e + 1074).toNat * 4503599627370496 + m < INF)
  (H : ∀ h', Ext h h' -> R (.returned (.int .i64 (((e + 1074).toNat * 4503599627370496 + m : Nat) : Int))) h') : Ent Tryz.prog B 171 #[K64V, .int .i64 (m : Int), .int .i64 e] R h := by
 have hINF : INF = 9218868437227405312 := rfl
 refine F256_ok _ _ _ _ _ _ _ (alK fun r h2 e2 f o z => ⟨r, 0, rfl, r, 0, rfl, _, o.cell _, fun _ => ?_, fun e => by cases e⟩)
 have hrn : m ≠ 0 -> rung m e = (e + 1074).toNat * 4503599627370496 + m := fun h0 => by
  have := rung_norm h0 hm he hn
  omega
 refine K115 (by omega) he (by rcases hn with h | h <;> omega) (odd_le hm) ?_ ⟨_, _, rfl, ?_⟩
 ·by_cases h0 : m = 0
  ·exact .inl h0
  ·exact .inr (by rw [hrn h0]; exact hr)
 ·have H' := H _ f
  by_cases h0 : m = 0
  ·rw [if_pos h0]
   have : e = -1074 := by rcases hn with h | h <;> omega
   subst this h0
   exact H'
  ·rw [if_neg h0, hrn h0]; exact H'
end Go.Proofs
