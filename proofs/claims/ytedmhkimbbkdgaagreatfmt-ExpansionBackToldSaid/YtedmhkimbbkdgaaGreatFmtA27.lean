import Derived.Test.YtedmhkimbbkdgaaGreatFmtA25
import Derived.Test.YtedmhkimbbkdgaaGreatFmtA26
/- Here stand lemmas: further walks of dyadic. -/
set_option linter.unusedVariables false
namespace Go.Proofs
open Go Go.Eng
variable {B : World} {R : Ending → Heap → Prop} {h : Heap}
/-- bits.Parts, of what is not finite. -/
theorem K63n {b : Int} (hf : isFin b = false) (H : R (.returned (.tuple #[.bool false, .int .i64 (0 : Int), .int .i64 (0 : Int), .bool false])) h) : Ent Tryz.prog B 26 #[.int .i64 b] R h := by
  refine F63_ok _ ?_
  unfold F63
  rw [and_fE]
  have hE : fE b = 2047 := by unfold isFin at hf; have := of_decide_eq_false hf; have := fE_lt b; omega
  rw [hE]
  exact ⟨by decide, fun _ => H, fun e => absurd e (by decide)⟩
/-- dyadic.Of, of what is not finite. -/
theorem K21n {b : Int} (hf : isFin b = false) (H : ∀ h', Ext h h' → R (.returned (.tuple #[.agg #[.bool false, .slice none 0 0, .int .i64 (0 : Int)], .int .i64 (10 : Int)])) h') :
    Ent Tryz.prog B 18 #[.int .i64 b] R h := by
  refine F21_ok _ (alK fun r2 h3 e2 f2 o2 z2 => alK fun r4 h5 e4 f4 o4 z4 => K63n hf ⟨_, _, _, _, rfl, F64_ok _ _ _ _ (alK fun r5 h6 e5 f5 o5 z5 => ⟨fun _ => ⟨Ent62, ?_⟩, fun e => (by cases e)⟩)⟩)
  refine K62p (o4.ext f5) fun h7 f7 O4 => ?_
  have O2 : Own h7 r2 #[.bool false, .slice none 0 0, .int .i64 (0 : Int)] := ((o2.ext f4).ext f5).fr f7 (by omega)
  refine ⟨r2, 0, rfl, _, O2.cell _, _, _, _, O2.cell _, _, O2.cell _, r4, 0, rfl, _, O4.cell _, H h7 ?_⟩
  exact Fr.trans (Ext.trans f2 (Ext.trans f4 f5)) f7 fun x hx e => by omega
/-- dyadic.Of. -/
theorem K21g {b : Int} (ht : TabH h) (H : ∀ neg p n c e err h', Ext h h' → (isFin b = true → err = 0 ∧ NumS 1074 h' neg p n e (fV b)) → (isFin b = false → err = 10) → R (.returned (.tuple #[.agg #[.bool neg, .slice p n c, .int .i64 e], .int .i64 err])) h') :
    Ent Tryz.prog B 18 #[.int .i64 b] R h := by
  cases hf : isFin b
  · exact K21n hf fun h' f => H _ _ _ _ _ _ h' f (fun e => by rw [hf] at e; cases e) fun _ => rfl
  · exact K21 ht hf fun neg p n c e h' f _ N => H neg p n c e 0 h' f (fun _ => ⟨rfl, N⟩) fun e => by rw [hf] at e; cases e
end Go.Proofs
