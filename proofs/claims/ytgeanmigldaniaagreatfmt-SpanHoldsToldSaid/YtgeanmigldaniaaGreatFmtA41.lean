import Derived.Test.YtgeanmigldaniaaGreatFmtA40
/- Here stand lemmas: the walk of SpanLess, and words for it. -/
set_option linter.unusedVariables false
set_option linter.unusedVariables false
namespace Go.Eng
open Go
/-- An interval around a finite float. -/
structure EncS (lo hi a : Int) : Prop where
  il : I64 lo
  ih : I64 hi
  nl : isNaN lo = false
  nh : isNaN hi = false
  l : rk lo ≤ rk a
  h : rk a ≤ rk hi
theorem EncS.v {lo hi a : Int} (E : EncS lo hi a) (ia : I64 a) (fa : isFin a = true) : vS lo hi = true := by
  have := fin_rk ia fa
  have := E.l
  have := E.h
  unfold vS
  rw [E.nl, E.nh, decide_eq_true (by omega), decide_eq_true (by omega), decide_eq_true (by omega)]; rfl
theorem PtS.enc {A a : Int} (P : PtS A a) : EncS A A a := ⟨P.i, P.i, P.n, P.n, by rw [P.r]; omega, by rw [P.r]; omega⟩
end Go.Eng
namespace Go.Proofs
open Go Go.Eng
variable {B : World} {R : Ending → Heap → Prop} {h : Heap}
/-- A new pair, written. -/
theorem spK {h : Heap} {x y : Int} {e : TypeId} {K : Nat → Heap → Prop} (k : ∀ r h', h.size ≤ r → Ext h h' → Own h' r #[.int .i64 x, .int .i64 y] → K r h') :
    alW h (.cells #[.int .i64 0, .int .i64 0] e) fun r h1 => iP r 0 fun b o => stC h1 b o (.int .i64 x) fun h2 => stC h2 b (o + 1) (.int .i64 y) fun h3 => K r h3 := by
  refine alK fun r1 h1 e1 f1 o1 z1 => ⟨r1, 0, rfl, o1.stC (by simp) rfl fun oa fa => oa.stC (by simp) rfl fun ob fb => ?_⟩
  have fab := Fr.trans (S := fun x => x = r1) fa fb fun _ _ e => e
  exact k r1 _ (by omega) (Fr.trans f1 fab fun x hx e => by omega) ob
theorem EncS.of {a lo hi : Int} {j k : Nat} (ia : I64 a) (fa : isFin a = true) (D : Dn a lo j) (U : Up a hi k) : EncS lo hi a := by
  have na := (fin_not fa).1
  obtain ⟨d1, d2⟩ := D.2 na
  obtain ⟨u1, u2⟩ := U.2 na
  have := fin_rk ia fa
  exact ⟨D.1, U.1, d1, u1, by omega, by omega⟩
end Go.Proofs
set_option linter.unusedVariables false
namespace Go.Proofs
open Go Go.Eng
variable {B : World} {R : Ending → Heap → Prop} {h : Heap}
/-- A new pair and a new number, written. -/
theorem spnmK {h : Heap} {x y ex : Int} {ng : Bool} {p : Option Addr} {n c : Nat} {e1 e2 : TypeId} {K : Nat → Nat → Heap → Prop} (k : ∀ r rx h', Ext h h' → Own h' r #[.int .i64 x, .int .i64 y] → Own h' rx #[.bool ng, .slice p n c, .int .i64 ex] → K r rx h') :
    alW h (.cells #[.int .i64 0, .int .i64 0] e1) fun r h1 => alW h1 (.cells #[.bool false, .slice none 0 0, .int .i64 0] e2) fun rx h2 => iP r 0 fun b o => stC h2 b o (.int .i64 x) fun h3 => stC h3 b (o + 1) (.int .i64 y) fun h4 =>
      iP rx 0 fun b' o' => stC h4 b' o' (.bool ng) fun h5 => stC h5 b' (o' + 1) (.slice p n c) fun h6 => stC h6 b' (o' + 1 + 1) (.int .i64 ex) fun h7 => K r rx h7 := by
  refine alK fun r1 h1 e1 f1 o1 z1 => alK fun r2 h2 e2 f2 o2 z2 => ⟨r1, 0, rfl, (o1.ext f2).stC (by simp) rfl fun oa fa => oa.stC (by simp) rfl fun ob fb => ?_⟩
  have fab := Fr.trans (S := fun x => x = r1) fa fb fun _ _ e => e
  have o2' := o2.fr fab (by omega)
  refine ⟨r2, 0, rfl, o2'.stC (by simp) rfl fun oc fc => oc.stC (by simp) rfl fun od fd => od.stC (by simp) rfl fun oe fe => ?_⟩
  have fce := Fr.trans (S := fun x => x = r2) (Fr.trans (S := fun x => x = r2) fc fd fun _ _ e => e) fe fun _ _ e => e
  exact k r1 r2 _ (Fr.trans (Fr.trans (Ext.trans f1 f2) fab fun x hx e => by omega) fce fun x hx e => by omega) (ob.fr fce (by omega)) oe
end Go.Proofs
