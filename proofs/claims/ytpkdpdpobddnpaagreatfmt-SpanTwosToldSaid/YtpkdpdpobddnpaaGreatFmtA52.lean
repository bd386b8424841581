import Derived.Test.YtpkdpdpobddnpaaGreatFmtA51
/- Here stand lemmas: plumbref8.Meet and Join: their walks. -/
set_option linter.unusedVariables false
set_option linter.unusedVariables false
namespace Go.Proofs
open Go Go.Eng
variable {B : World} {R : Ending -> Heap -> Prop} {h : Heap}
def LH (a c : Int) (x y : EV) : Prop :=
 ((x.i = ofI a /\ x.v = fW a) \/ (x.i = ofI c /\ x.v = fW c)) /\ ((y.i = ofI a /\ y.v = fW a) \/ (y.i = ofI c /\ y.v = fW c)) /\ leE x.i x.v (ofI a) (fW a) /\ leE x.i x.v (ofI c) (fW c) /\ leE (ofI a) (fW a) y.i y.v /\ leE (ofI c) (fW c) y.i y.v
theorem outer2 {q cc : Nat} {a c e1 e2 : Int} {ng1 ng2 : Bool} {p1 p2 : Option Addr} {n1 n2 c1 c2 : Nat} (O : Own h q #[.int .i64 (ofI a), .bool ng1, .slice p1 n1 c1, .int .i64 e1, .int .i64 (ofI c), .bool ng2, .slice p2 n2 c2, .int .i64 e2])
  (N1 : NumS 1074 h ng1 p1 n1 e1 (fW a)) (N2 : NumS 1074 h ng2 p2 n2 e2 (fW c))
  (H : ∀ x y h', Ext h h' -> NumS 1074 h' x.ng x.p x.n x.e x.v -> NumS 1074 h' y.ng y.p y.n y.e y.v -> LH a c x y -> R (.returned (.tuple #[x.agg, y.agg])) h') :
  Ent Tryz.prog B 46 #[.slice (some ⟨q, 0, none⟩) 2 cc] R h := by
 have ba := fWbl a
 have bc := fWbl c
 have hN : ∀ x ∈ ([⟨ofI a, ng1, p1, n1, c1, e1, fW a⟩, ⟨ofI c, ng2, p2, n2, c2, e2, fW c⟩] : List EV), NumS 1074 h x.ng x.p x.n x.e x.v /\ bl x.v.natAbs <= 50000 := by
  intro x hx
  simp only [List.mem_cons, List.not_mem_nil, or_false] at hx
  rcases hx with rfl | rfl
  ·exact ⟨N1, by show bl (fW a).natAbs <= _; omega⟩
  ·exact ⟨N2, by show bl (fW c).natAbs <= _; omega⟩
 refine K1062 (xs := [⟨ofI a, ng1, p1, n1, c1, e1, fW a⟩, ⟨ofI c, ng2, p2, n2, c2, e2, fW c⟩]) O rfl (by decide) (by decide) (fun k hk => ?_) hN (by decide) fun x y h' hx hy f hlo hhi => ?_
 ·have hk' : k < 2 := hk
  rcases (by omega : k = 0 \/ k = 1) with rfl | rfl <;> exact ⟨rfl, rfl, rfl, rfl⟩
 ·refine H x y h' f ((hN x hx).1.ext f) ((hN y hy).1.ext f) ⟨?_, ?_, hlo _ (List.mem_cons_self ..), hlo ⟨ofI c, ng2, p2, n2, c2, e2, fW c⟩ (by simp), hhi _ (List.mem_cons_self ..), hhi ⟨ofI c, ng2, p2, n2, c2, e2, fW c⟩ (by simp)⟩
  ·simp only [List.mem_cons, List.not_mem_nil, or_false] at hx
   rcases hx with rfl | rfl
   ·exact .inl ⟨rfl, rfl⟩
   ·exact .inr ⟨rfl, rfl⟩
  ·simp only [List.mem_cons, List.not_mem_nil, or_false] at hy
   rcases hy with rfl | rfl
   ·exact .inl ⟨rfl, rfl⟩
   ·exact .inr ⟨rfl, rfl⟩
theorem meet_lo {r1 r2 r3 r4 r5 b1 o1 b2 o2 : Nat} {a c : Int} {xs1 xs2 : Array Value} (O1 : Own h b1 xs1) (O2 : Own h b2 xs2) (ia : I64 a) (ic : I64 c) (na : isNaN a = false) (nc : isNaN c = false)
  (fin : ∀ g, Ext h g -> ∀ rA, h.size <= rA -> Own g rA Z4 -> ∀ rB, h.size <= rB -> Own g rB Z4 -> rA ≠ rB -> ∀ x y : EV, NumS 1074 g x.ng x.p x.n x.e x.v -> NumS 1074 g y.ng y.p y.n y.e y.v -> LH a c x y -> F1035_o142 B R (some ⟨r1, 0, none⟩) (some ⟨r2, 0, none⟩) (some ⟨r3, 0, none⟩) (some ⟨rA, 0, none⟩) (some ⟨rB, 0, none⟩) x.i x.ng x.p x.n x.c x.e y.i y.ng y.p y.n y.c y.e g) :
  F1035_o21 B R (some ⟨r1, 0, none⟩) (some ⟨r2, 0, none⟩) (some ⟨r3, 0, none⟩) a c b2 o2 b1 o1 h := by
 have w1 {g g' : Heap} {o : Nat} (x : Ext h g) (y : Ext g g') := sameN (o := o) (O1.ext x) y id 1
 have w2 {g g' : Heap} {o : Nat} (x : Ext h g) (y : Ext g g') := sameN (o := o) (O2.ext x) y id 1
 have s1 : ∀ g, Ext h g -> ∀ rA, h.size <= rA -> Own g rA Z4 -> ∀ x y : EV, NumS 1074 g x.ng x.p x.n x.e x.v -> NumS 1074 g y.ng y.p y.n y.e y.v -> LH a c x y -> F1035_o122 B R (some ⟨r1, 0, none⟩) (some ⟨r2, 0, none⟩) (some ⟨r3, 0, none⟩) (some ⟨rA, 0, none⟩) x.i x.ng x.p x.n x.c x.e y.i y.ng y.p y.n y.c y.e b2 o2 b1 o1 g := by
  intro g fg rA lA oA x y Nx Ny hQ
  have tA := oA.lt
  have sg := fg.size
  exact alK fun rB g' eq f' oB' z => ⟨(by first | exact w1 fg f' | exact w2 fg f'), (by first | exact w1 fg f' | exact w2 fg f'), fin g' (Ext.trans fg f') rA lA (oA.ext f') rB (by omega) oB' (by omega) x y (Nx.ext f') (Ny.ext f') hQ⟩
 have s2 : ∀ g, Ext h g -> ∀ rB, h.size <= rB -> Own g rB Z4 -> ∀ x y : EV, NumS 1074 g x.ng x.p x.n x.e x.v -> NumS 1074 g y.ng y.p y.n y.e y.v -> LH a c x y -> F1035_o691 B R (some ⟨r1, 0, none⟩) (some ⟨r2, 0, none⟩) (some ⟨r3, 0, none⟩) (some ⟨rB, 0, none⟩) x.i x.ng x.p x.n x.c x.e y.i y.ng y.p y.n y.c y.e b2 o2 b1 o1 g := by
  intro g fg rB lB oB x y Nx Ny hQ
  have tB := oB.lt
  have sg := fg.size
  exact alK fun rA g' eq f' oA' z => ⟨(by first | exact w1 fg f' | exact w2 fg f'), (by first | exact w1 fg f' | exact w2 fg f'), fin g' (Ext.trans fg f') rA (by omega) oA' rB lB (oB.ext f') (by omega) x y (Nx.ext f') (Ny.ext f') hQ⟩
 have s3 : ∀ g, Ext h g -> ∀ x y : EV, NumS 1074 g x.ng x.p x.n x.e x.v -> NumS 1074 g y.ng y.p y.n y.e y.v -> LH a c x y -> F1035_o103 B R (some ⟨r1, 0, none⟩) (some ⟨r2, 0, none⟩) (some ⟨r3, 0, none⟩) x.i x.ng x.p x.n x.c x.e y.i y.ng y.p y.n y.c y.e b2 o2 b1 o1 g := by
  intro g fg x y Nx Ny hQ
  have sg := fg.size
  refine ⟨?_, ?_⟩
  ·exact alK fun rA g' eq f' oA' z => ⟨(by first | exact w1 fg f' | exact w2 fg f'), (by first | exact w1 fg f' | exact w2 fg f'), s1 g' (Ext.trans fg f') rA (by omega) oA' x y (Nx.ext f') (Ny.ext f') hQ⟩
  ·exact alK fun rB g' eq f' oB' z => ⟨(by first | exact w1 fg f' | exact w2 fg f'), (by first | exact w1 fg f' | exact w2 fg f'), s2 g' (Ext.trans fg f') rB (by omega) oB' x y (Nx.ext f') (Ny.ext f') hQ⟩
 have s4 : ∀ g, Ext h g -> ∀ rA, h.size <= rA -> Own g rA Z4 -> ∀ rB, h.size <= rB -> Own g rB Z4 -> rA ≠ rB -> ∀ ng1 p1 n1 c1 e1, NumS 1074 g ng1 p1 n1 e1 (fW a) -> ∀ ng2 p2 n2 c2 e2, NumS 1074 g ng2 p2 n2 e2 (fW c) -> ∀ ql, Own g ql #[.int .i64 (ofI a), .bool ng1, .slice p1 n1 c1, .int .i64 e1, .int .i64 (ofI c), .bool ng2, .slice p2 n2 c2, .int .i64 e2] -> F1035_o738 B R (some ⟨r1, 0, none⟩) (some ⟨r2, 0, none⟩) (some ⟨r3, 0, none⟩) (some ⟨rA, 0, none⟩) (some ⟨rB, 0, none⟩) (some ⟨ql, 0, none⟩) 2 2 g := by
  intro g fg rA lA oA rB lB oB dAB ng1 p1 n1 c1 e1 N1 ng2 p2 n2 c2 e2 N2 ql oL
  have tA := oA.lt
  have tB := oB.lt
  have sg := fg.size
  exact outer2 oL N1 N2 fun x y g' f' Nx' Ny' hQ' => ⟨_, _, _, _, _, _, _, _, _, _, _, _, rfl, fin g' (Ext.trans fg f') rA lA (oA.ext f') rB lB (oB.ext f') dAB x y Nx' Ny' hQ'⟩
 have s5 : ∀ g, Ext h g -> ∀ rA, h.size <= rA -> Own g rA Z4 -> ∀ ng1 p1 n1 c1 e1, NumS 1074 g ng1 p1 n1 e1 (fW a) -> ∀ ng2 p2 n2 c2 e2, NumS 1074 g ng2 p2 n2 e2 (fW c) -> ∀ ql, Own g ql #[.int .i64 (ofI a), .bool ng1, .slice p1 n1 c1, .int .i64 e1, .int .i64 (ofI c), .bool ng2, .slice p2 n2 c2, .int .i64 e2] -> F1035_o713 B R (some ⟨r1, 0, none⟩) (some ⟨r2, 0, none⟩) (some ⟨r3, 0, none⟩) (some ⟨rA, 0, none⟩) (some ⟨ql, 0, none⟩) 2 2 b2 o2 b1 o1 g := by
  intro g fg rA lA oA ng1 p1 n1 c1 e1 N1 ng2 p2 n2 c2 e2 N2 ql oL
  have tA := oA.lt
  have sg := fg.size
  refine ⟨?_, ?_⟩
  ·exact outer2 oL N1 N2 fun x y g' f' Nx' Ny' hQ' => ⟨_, _, _, _, _, _, _, _, _, _, _, _, rfl, s1 g' (Ext.trans fg f') rA lA (oA.ext f') x y Nx' Ny' hQ'⟩
  ·exact alK fun rB g' eq f' oB' z => ⟨(by first | exact w1 fg f' | exact w2 fg f'), (by first | exact w1 fg f' | exact w2 fg f'), s4 g' (Ext.trans fg f') rA lA (oA.ext f') rB (by omega) oB' (by omega) ng1 p1 n1 c1 e1 (N1.ext f') ng2 p2 n2 c2 e2 (N2.ext f') ql (oL.ext f')⟩
 have s6 : ∀ g, Ext h g -> ∀ rB, h.size <= rB -> Own g rB Z4 -> ∀ ng1 p1 n1 c1 e1, NumS 1074 g ng1 p1 n1 e1 (fW a) -> ∀ ng2 p2 n2 c2 e2, NumS 1074 g ng2 p2 n2 e2 (fW c) -> ∀ ql, Own g ql #[.int .i64 (ofI a), .bool ng1, .slice p1 n1 c1, .int .i64 e1, .int .i64 (ofI c), .bool ng2, .slice p2 n2 c2, .int .i64 e2] -> F1035_o760 B R (some ⟨r1, 0, none⟩) (some ⟨r2, 0, none⟩) (some ⟨r3, 0, none⟩) (some ⟨rB, 0, none⟩) (some ⟨ql, 0, none⟩) 2 2 b2 o2 b1 o1 g := by
  intro g fg rB lB oB ng1 p1 n1 c1 e1 N1 ng2 p2 n2 c2 e2 N2 ql oL
  have tB := oB.lt
  have sg := fg.size
  refine ⟨?_, ?_⟩
  ·exact outer2 oL N1 N2 fun x y g' f' Nx' Ny' hQ' => ⟨_, _, _, _, _, _, _, _, _, _, _, _, rfl, s2 g' (Ext.trans fg f') rB lB (oB.ext f') x y Nx' Ny' hQ'⟩
  ·exact alK fun rA g' eq f' oA' z => ⟨(by first | exact w1 fg f' | exact w2 fg f'), (by first | exact w1 fg f' | exact w2 fg f'), s4 g' (Ext.trans fg f') rA (by omega) oA' rB lB (oB.ext f') (by omega) ng1 p1 n1 c1 e1 (N1.ext f') ng2 p2 n2 c2 e2 (N2.ext f') ql (oL.ext f')⟩
 have s7 : ∀ g, Ext h g -> ∀ ng1 p1 n1 c1 e1, NumS 1074 g ng1 p1 n1 e1 (fW a) -> ∀ ng2 p2 n2 c2 e2, NumS 1074 g ng2 p2 n2 e2 (fW c) -> ∀ ql, Own g ql #[.int .i64 (ofI a), .bool ng1, .slice p1 n1 c1, .int .i64 e1, .int .i64 (ofI c), .bool ng2, .slice p2 n2 c2, .int .i64 e2] -> F1035_o81 B R (some ⟨r1, 0, none⟩) (some ⟨r2, 0, none⟩) (some ⟨r3, 0, none⟩) (some ⟨ql, 0, none⟩) 2 2 b2 o2 b1 o1 g := by
  intro g fg ng1 p1 n1 c1 e1 N1 ng2 p2 n2 c2 e2 N2 ql oL
  have sg := fg.size
  refine ⟨?_, ?_, ?_⟩
  ·exact outer2 oL N1 N2 fun x y g' f' Nx' Ny' hQ' => ⟨_, _, _, _, _, _, _, _, _, _, _, _, rfl, s3 g' (Ext.trans fg f') x y Nx' Ny' hQ'⟩
  ·exact alK fun rA g' eq f' oA' z => ⟨(by first | exact w1 fg f' | exact w2 fg f'), (by first | exact w1 fg f' | exact w2 fg f'), s5 g' (Ext.trans fg f') rA (by omega) oA' ng1 p1 n1 c1 e1 (N1.ext f') ng2 p2 n2 c2 e2 (N2.ext f') ql (oL.ext f')⟩
  ·exact alK fun rB g' eq f' oB' z => ⟨(by first | exact w1 fg f' | exact w2 fg f'), (by first | exact w1 fg f' | exact w2 fg f'), s6 g' (Ext.trans fg f') rB (by omega) oB' ng1 p1 n1 c1 e1 (N1.ext f') ng2 p2 n2 c2 e2 (N2.ext f') ql (oL.ext f')⟩
 have s8 : ∀ g, Ext h g -> ∀ rA, h.size <= rA -> Own g rA Z4 -> ∀ rB, h.size <= rB -> Own g rB Z4 -> rA ≠ rB -> ∀ ng1 p1 n1 c1 e1, NumS 1074 g ng1 p1 n1 e1 (fW a) -> ∀ ng2 p2 n2 c2 e2, NumS 1074 g ng2 p2 n2 e2 (fW c) -> F1035_o809 B R (some ⟨r1, 0, none⟩) (some ⟨r2, 0, none⟩) (some ⟨r3, 0, none⟩) (some ⟨rA, 0, none⟩) (some ⟨rB, 0, none⟩) (ofI a) ng1 p1 n1 c1 e1 (ofI c) ng2 p2 n2 c2 e2 g := by
  intro g fg rA lA oA rB lB oB dAB ng1 p1 n1 c1 e1 N1 ng2 p2 n2 c2 e2 N2
  have tA := oA.lt
  have tB := oB.lt
  have sg := fg.size
  exact alK fun ql g' eq f' oL' z => s4 g' (Ext.trans fg f') rA lA (oA.ext f') rB lB (oB.ext f') dAB ng1 p1 n1 c1 e1 (N1.ext f') ng2 p2 n2 c2 e2 (N2.ext f') ql oL'
 have s9 : ∀ g, Ext h g -> ∀ rA, h.size <= rA -> Own g rA Z4 -> ∀ ng1 p1 n1 c1 e1, NumS 1074 g ng1 p1 n1 e1 (fW a) -> ∀ ng2 p2 n2 c2 e2, NumS 1074 g ng2 p2 n2 e2 (fW c) -> F1035_o787 B R (some ⟨r1, 0, none⟩) (some ⟨r2, 0, none⟩) (some ⟨r3, 0, none⟩) (some ⟨rA, 0, none⟩) (ofI a) ng1 p1 n1 c1 e1 (ofI c) ng2 p2 n2 c2 e2 b2 o2 b1 o1 g := by
  intro g fg rA lA oA ng1 p1 n1 c1 e1 N1 ng2 p2 n2 c2 e2 N2
  have tA := oA.lt
  have sg := fg.size
  refine ⟨?_, ?_⟩
  ·exact alK fun ql g' eq f' oL' z => s5 g' (Ext.trans fg f') rA lA (oA.ext f') ng1 p1 n1 c1 e1 (N1.ext f') ng2 p2 n2 c2 e2 (N2.ext f') ql oL'
  ·exact alK fun rB g' eq f' oB' z => ⟨(by first | exact w1 fg f' | exact w2 fg f'), (by first | exact w1 fg f' | exact w2 fg f'), s8 g' (Ext.trans fg f') rA lA (oA.ext f') rB (by omega) oB' (by omega) ng1 p1 n1 c1 e1 (N1.ext f') ng2 p2 n2 c2 e2 (N2.ext f')⟩
 have s10 : ∀ g, Ext h g -> ∀ rB, h.size <= rB -> Own g rB Z4 -> ∀ ng1 p1 n1 c1 e1, NumS 1074 g ng1 p1 n1 e1 (fW a) -> ∀ ng2 p2 n2 c2 e2, NumS 1074 g ng2 p2 n2 e2 (fW c) -> F1035_o828 B R (some ⟨r1, 0, none⟩) (some ⟨r2, 0, none⟩) (some ⟨r3, 0, none⟩) (some ⟨rB, 0, none⟩) (ofI a) ng1 p1 n1 c1 e1 (ofI c) ng2 p2 n2 c2 e2 b2 o2 b1 o1 g := by
  intro g fg rB lB oB ng1 p1 n1 c1 e1 N1 ng2 p2 n2 c2 e2 N2
  have tB := oB.lt
  have sg := fg.size
  refine ⟨?_, ?_⟩
  ·exact alK fun ql g' eq f' oL' z => s6 g' (Ext.trans fg f') rB lB (oB.ext f') ng1 p1 n1 c1 e1 (N1.ext f') ng2 p2 n2 c2 e2 (N2.ext f') ql oL'
  ·exact alK fun rA g' eq f' oA' z => ⟨(by first | exact w1 fg f' | exact w2 fg f'), (by first | exact w1 fg f' | exact w2 fg f'), s8 g' (Ext.trans fg f') rA (by omega) oA' rB lB (oB.ext f') (by omega) ng1 p1 n1 c1 e1 (N1.ext f') ng2 p2 n2 c2 e2 (N2.ext f')⟩
 have s11 : ∀ g, Ext h g -> ∀ ng1 p1 n1 c1 e1, NumS 1074 g ng1 p1 n1 e1 (fW a) -> ∀ ng2 p2 n2 c2 e2, NumS 1074 g ng2 p2 n2 e2 (fW c) -> F1035_o62 B R (some ⟨r1, 0, none⟩) (some ⟨r2, 0, none⟩) (some ⟨r3, 0, none⟩) (ofI a) ng1 p1 n1 c1 e1 (ofI c) ng2 p2 n2 c2 e2 b2 o2 b1 o1 g := by
  intro g fg ng1 p1 n1 c1 e1 N1 ng2 p2 n2 c2 e2 N2
  have sg := fg.size
  refine ⟨?_, ?_, ?_⟩
  ·exact alK fun ql g' eq f' oL' z => s7 g' (Ext.trans fg f') ng1 p1 n1 c1 e1 (N1.ext f') ng2 p2 n2 c2 e2 (N2.ext f') ql oL'
  ·exact alK fun rA g' eq f' oA' z => ⟨(by first | exact w1 fg f' | exact w2 fg f'), (by first | exact w1 fg f' | exact w2 fg f'), s9 g' (Ext.trans fg f') rA (by omega) oA' ng1 p1 n1 c1 e1 (N1.ext f') ng2 p2 n2 c2 e2 (N2.ext f')⟩
  ·exact alK fun rB g' eq f' oB' z => ⟨(by first | exact w1 fg f' | exact w2 fg f'), (by first | exact w1 fg f' | exact w2 fg f'), s10 g' (Ext.trans fg f') rB (by omega) oB' ng1 p1 n1 c1 e1 (N1.ext f') ng2 p2 n2 c2 e2 (N2.ext f')⟩
 have s12 : ∀ g, Ext h g -> ∀ rA, h.size <= rA -> Own g rA Z4 -> ∀ rB, h.size <= rB -> Own g rB Z4 -> rA ≠ rB -> ∀ ng1 p1 n1 c1 e1, NumS 1074 g ng1 p1 n1 e1 (fW a) -> F1035_o877 B R (some ⟨r1, 0, none⟩) (some ⟨r2, 0, none⟩) (some ⟨r3, 0, none⟩) (some ⟨rA, 0, none⟩) (some ⟨rB, 0, none⟩) (ofI a) ng1 p1 n1 c1 e1 c g := by
  intro g fg rA lA oA rB lB oB dAB ng1 p1 n1 c1 e1 N1
  have tA := oA.lt
  have tB := oB.lt
  have sg := fg.size
  exact K1060 ic nc fun ng2 p2 n2 c2 e2 g' f' N2' => ⟨_, _, _, _, _, _, rfl, s8 g' (Ext.trans fg f') rA lA (oA.ext f') rB lB (oB.ext f') dAB ng1 p1 n1 c1 e1 (N1.ext f') ng2 p2 n2 c2 e2 N2'⟩
 have s13 : ∀ g, Ext h g -> ∀ rA, h.size <= rA -> Own g rA Z4 -> ∀ ng1 p1 n1 c1 e1, NumS 1074 g ng1 p1 n1 e1 (fW a) -> F1035_o852 B R (some ⟨r1, 0, none⟩) (some ⟨r2, 0, none⟩) (some ⟨r3, 0, none⟩) (some ⟨rA, 0, none⟩) (ofI a) ng1 p1 n1 c1 e1 c b2 o2 b1 o1 g := by
  intro g fg rA lA oA ng1 p1 n1 c1 e1 N1
  have tA := oA.lt
  have sg := fg.size
  refine ⟨?_, ?_⟩
  ·exact K1060 ic nc fun ng2 p2 n2 c2 e2 g' f' N2' => ⟨_, _, _, _, _, _, rfl, s9 g' (Ext.trans fg f') rA lA (oA.ext f') ng1 p1 n1 c1 e1 (N1.ext f') ng2 p2 n2 c2 e2 N2'⟩
  ·exact alK fun rB g' eq f' oB' z => ⟨(by first | exact w1 fg f' | exact w2 fg f'), (by first | exact w1 fg f' | exact w2 fg f'), s12 g' (Ext.trans fg f') rA lA (oA.ext f') rB (by omega) oB' (by omega) ng1 p1 n1 c1 e1 (N1.ext f')⟩
 have s14 : ∀ g, Ext h g -> ∀ rB, h.size <= rB -> Own g rB Z4 -> ∀ ng1 p1 n1 c1 e1, NumS 1074 g ng1 p1 n1 e1 (fW a) -> F1035_o899 B R (some ⟨r1, 0, none⟩) (some ⟨r2, 0, none⟩) (some ⟨r3, 0, none⟩) (some ⟨rB, 0, none⟩) (ofI a) ng1 p1 n1 c1 e1 c b2 o2 b1 o1 g := by
  intro g fg rB lB oB ng1 p1 n1 c1 e1 N1
  have tB := oB.lt
  have sg := fg.size
  refine ⟨?_, ?_⟩
  ·exact K1060 ic nc fun ng2 p2 n2 c2 e2 g' f' N2' => ⟨_, _, _, _, _, _, rfl, s10 g' (Ext.trans fg f') rB lB (oB.ext f') ng1 p1 n1 c1 e1 (N1.ext f') ng2 p2 n2 c2 e2 N2'⟩
  ·exact alK fun rA g' eq f' oA' z => ⟨(by first | exact w1 fg f' | exact w2 fg f'), (by first | exact w1 fg f' | exact w2 fg f'), s12 g' (Ext.trans fg f') rA (by omega) oA' rB lB (oB.ext f') (by omega) ng1 p1 n1 c1 e1 (N1.ext f')⟩
 have s15 : ∀ g, Ext h g -> ∀ ng1 p1 n1 c1 e1, NumS 1074 g ng1 p1 n1 e1 (fW a) -> F1035_o40 B R (some ⟨r1, 0, none⟩) (some ⟨r2, 0, none⟩) (some ⟨r3, 0, none⟩) (ofI a) ng1 p1 n1 c1 e1 c b2 o2 b1 o1 g := by
  intro g fg ng1 p1 n1 c1 e1 N1
  have sg := fg.size
  refine ⟨?_, ?_, ?_⟩
  ·exact K1060 ic nc fun ng2 p2 n2 c2 e2 g' f' N2' => ⟨_, _, _, _, _, _, rfl, s11 g' (Ext.trans fg f') ng1 p1 n1 c1 e1 (N1.ext f') ng2 p2 n2 c2 e2 N2'⟩
  ·exact alK fun rA g' eq f' oA' z => ⟨(by first | exact w1 fg f' | exact w2 fg f'), (by first | exact w1 fg f' | exact w2 fg f'), s13 g' (Ext.trans fg f') rA (by omega) oA' ng1 p1 n1 c1 e1 (N1.ext f')⟩
  ·exact alK fun rB g' eq f' oB' z => ⟨(by first | exact w1 fg f' | exact w2 fg f'), (by first | exact w1 fg f' | exact w2 fg f'), s14 g' (Ext.trans fg f') rB (by omega) oB' ng1 p1 n1 c1 e1 (N1.ext f')⟩
 have s16 : ∀ g, Ext h g -> ∀ rA, h.size <= rA -> Own g rA Z4 -> ∀ rB, h.size <= rB -> Own g rB Z4 -> rA ≠ rB -> F1035_o948 B R (some ⟨r1, 0, none⟩) (some ⟨r2, 0, none⟩) (some ⟨r3, 0, none⟩) (some ⟨rA, 0, none⟩) (some ⟨rB, 0, none⟩) a c b2 o2 g := by
  intro g fg rA lA oA rB lB oB dAB
  have tA := oA.lt
  have tB := oB.lt
  have sg := fg.size
  exact K1060 ia na fun ng1 p1 n1 c1 e1 g' f' N1' => ⟨_, _, _, _, _, _, rfl, (by first | exact w1 fg f' | exact w2 fg f'), s12 g' (Ext.trans fg f') rA lA (oA.ext f') rB lB (oB.ext f') dAB ng1 p1 n1 c1 e1 N1'⟩
 have s17 : ∀ g, Ext h g -> ∀ rA, h.size <= rA -> Own g rA Z4 -> F1035_o926 B R (some ⟨r1, 0, none⟩) (some ⟨r2, 0, none⟩) (some ⟨r3, 0, none⟩) (some ⟨rA, 0, none⟩) a c b2 o2 b1 o1 g := by
  intro g fg rA lA oA
  have tA := oA.lt
  have sg := fg.size
  refine ⟨?_, ?_⟩
  ·exact K1060 ia na fun ng1 p1 n1 c1 e1 g' f' N1' => ⟨_, _, _, _, _, _, rfl, (by first | exact w1 fg f' | exact w2 fg f'), s13 g' (Ext.trans fg f') rA lA (oA.ext f') ng1 p1 n1 c1 e1 N1'⟩
  ·exact alK fun rB g' eq f' oB' z => ⟨(by first | exact w1 fg f' | exact w2 fg f'), (by first | exact w1 fg f' | exact w2 fg f'), s16 g' (Ext.trans fg f') rA lA (oA.ext f') rB (by omega) oB' (by omega)⟩
 have s18 : ∀ g, Ext h g -> ∀ rB, h.size <= rB -> Own g rB Z4 -> F1035_o969 B R (some ⟨r1, 0, none⟩) (some ⟨r2, 0, none⟩) (some ⟨r3, 0, none⟩) (some ⟨rB, 0, none⟩) a c b2 o2 b1 o1 g := by
  intro g fg rB lB oB
  have tB := oB.lt
  have sg := fg.size
  refine ⟨?_, ?_⟩
  ·exact K1060 ia na fun ng1 p1 n1 c1 e1 g' f' N1' => ⟨_, _, _, _, _, _, rfl, (by first | exact w1 fg f' | exact w2 fg f'), s14 g' (Ext.trans fg f') rB lB (oB.ext f') ng1 p1 n1 c1 e1 N1'⟩
  ·exact alK fun rA g' eq f' oA' z => ⟨(by first | exact w1 fg f' | exact w2 fg f'), (by first | exact w1 fg f' | exact w2 fg f'), s16 g' (Ext.trans fg f') rA (by omega) oA' rB lB (oB.ext f') (by omega)⟩
 have s19 : ∀ g, Ext h g -> F1035_o21 B R (some ⟨r1, 0, none⟩) (some ⟨r2, 0, none⟩) (some ⟨r3, 0, none⟩) a c b2 o2 b1 o1 g := by
  intro g fg
  have sg := fg.size
  refine ⟨?_, ?_, ?_⟩
  ·exact K1060 ia na fun ng1 p1 n1 c1 e1 g' f' N1' => ⟨_, _, _, _, _, _, rfl, (by first | exact w1 fg f' | exact w2 fg f'), s15 g' (Ext.trans fg f') ng1 p1 n1 c1 e1 N1'⟩
  ·exact alK fun rA g' eq f' oA' z => ⟨(by first | exact w1 fg f' | exact w2 fg f'), (by first | exact w1 fg f' | exact w2 fg f'), s17 g' (Ext.trans fg f') rA (by omega) oA'⟩
  ·exact alK fun rB g' eq f' oB' z => ⟨(by first | exact w1 fg f' | exact w2 fg f'), (by first | exact w1 fg f' | exact w2 fg f'), s18 g' (Ext.trans fg f') rB (by omega) oB'⟩
 exact s19 h Fr.rfl'
theorem meet_hi {r1 r2 r3 r4 r5 b1 o1 b2 o2 : Nat} {a c : Int} {xs1 xs2 : Array Value} (O1 : Own h b1 xs1) (O2 : Own h b2 xs2) (ia : I64 a) (ic : I64 c) (na : isNaN a = false) (nc : isNaN c = false)
  (fin : ∀ g, Ext h g -> ∀ rA, h.size <= rA -> Own g rA Z4 -> ∀ rB, h.size <= rB -> Own g rB Z4 -> rA ≠ rB -> ∀ x y : EV, NumS 1074 g x.ng x.p x.n x.e x.v -> NumS 1074 g y.ng y.p y.n y.e y.v -> LH a c x y -> F1035_o309 B R (some ⟨r1, 0, none⟩) (some ⟨r2, 0, none⟩) (some ⟨rA, 0, none⟩) (some ⟨rB, 0, none⟩) x.i x.ng x.p x.n x.c x.e y.i y.ng y.p y.n y.c y.e g) :
  F1035_o194 B R (some ⟨r1, 0, none⟩) (some ⟨r2, 0, none⟩) a c b2 o2 b1 o1 h := by
 have w1 {g g' : Heap} {o : Nat} (x : Ext h g) (y : Ext g g') := sameN (o := o) (O1.ext x) y id 1
 have w2 {g g' : Heap} {o : Nat} (x : Ext h g) (y : Ext g g') := sameN (o := o) (O2.ext x) y id 1
 have s1 : ∀ g, Ext h g -> ∀ rA, h.size <= rA -> Own g rA Z4 -> ∀ x y : EV, NumS 1074 g x.ng x.p x.n x.e x.v -> NumS 1074 g y.ng y.p y.n y.e y.v -> LH a c x y -> F1035_o290 B R (some ⟨r1, 0, none⟩) (some ⟨r2, 0, none⟩) (some ⟨rA, 0, none⟩) x.i x.ng x.p x.n x.c x.e y.i y.ng y.p y.n y.c y.e b2 o2 b1 o1 g := by
  intro g fg rA lA oA x y Nx Ny hQ
  have tA := oA.lt
  have sg := fg.size
  exact alK fun rB g' eq f' oB' z => ⟨(by first | exact w1 fg f' | exact w2 fg f'), (by first | exact w1 fg f' | exact w2 fg f'), fin g' (Ext.trans fg f') rA lA (oA.ext f') rB (by omega) oB' (by omega) x y (Nx.ext f') (Ny.ext f') hQ⟩
 have s2 : ∀ g, Ext h g -> ∀ rB, h.size <= rB -> Own g rB Z4 -> ∀ x y : EV, NumS 1074 g x.ng x.p x.n x.e x.v -> NumS 1074 g y.ng y.p y.n y.e y.v -> LH a c x y -> F1035_o402 B R (some ⟨r1, 0, none⟩) (some ⟨r2, 0, none⟩) (some ⟨rB, 0, none⟩) x.i x.ng x.p x.n x.c x.e y.i y.ng y.p y.n y.c y.e b2 o2 b1 o1 g := by
  intro g fg rB lB oB x y Nx Ny hQ
  have tB := oB.lt
  have sg := fg.size
  exact alK fun rA g' eq f' oA' z => ⟨(by first | exact w1 fg f' | exact w2 fg f'), (by first | exact w1 fg f' | exact w2 fg f'), fin g' (Ext.trans fg f') rA (by omega) oA' rB lB (oB.ext f') (by omega) x y (Nx.ext f') (Ny.ext f') hQ⟩
 have s3 : ∀ g, Ext h g -> ∀ x y : EV, NumS 1074 g x.ng x.p x.n x.e x.v -> NumS 1074 g y.ng y.p y.n y.e y.v -> LH a c x y -> F1035_o272 B R (some ⟨r1, 0, none⟩) (some ⟨r2, 0, none⟩) x.i x.ng x.p x.n x.c x.e y.i y.ng y.p y.n y.c y.e b2 o2 b1 o1 g := by
  intro g fg x y Nx Ny hQ
  have sg := fg.size
  refine ⟨?_, ?_⟩
  ·exact alK fun rA g' eq f' oA' z => ⟨(by first | exact w1 fg f' | exact w2 fg f'), (by first | exact w1 fg f' | exact w2 fg f'), s1 g' (Ext.trans fg f') rA (by omega) oA' x y (Nx.ext f') (Ny.ext f') hQ⟩
  ·exact alK fun rB g' eq f' oB' z => ⟨(by first | exact w1 fg f' | exact w2 fg f'), (by first | exact w1 fg f' | exact w2 fg f'), s2 g' (Ext.trans fg f') rB (by omega) oB' x y (Nx.ext f') (Ny.ext f') hQ⟩
 have s4 : ∀ g, Ext h g -> ∀ rA, h.size <= rA -> Own g rA Z4 -> ∀ rB, h.size <= rB -> Own g rB Z4 -> rA ≠ rB -> ∀ ng1 p1 n1 c1 e1, NumS 1074 g ng1 p1 n1 e1 (fW a) -> ∀ ng2 p2 n2 c2 e2, NumS 1074 g ng2 p2 n2 e2 (fW c) -> ∀ ql, Own g ql #[.int .i64 (ofI a), .bool ng1, .slice p1 n1 c1, .int .i64 e1, .int .i64 (ofI c), .bool ng2, .slice p2 n2 c2, .int .i64 e2] -> F1035_o447 B R (some ⟨r1, 0, none⟩) (some ⟨r2, 0, none⟩) (some ⟨rA, 0, none⟩) (some ⟨rB, 0, none⟩) (some ⟨ql, 0, none⟩) 2 2 g := by
  intro g fg rA lA oA rB lB oB dAB ng1 p1 n1 c1 e1 N1 ng2 p2 n2 c2 e2 N2 ql oL
  have tA := oA.lt
  have tB := oB.lt
  have sg := fg.size
  exact outer2 oL N1 N2 fun x y g' f' Nx' Ny' hQ' => ⟨_, _, _, _, _, _, _, _, _, _, _, _, rfl, fin g' (Ext.trans fg f') rA lA (oA.ext f') rB lB (oB.ext f') dAB x y Nx' Ny' hQ'⟩
 have s5 : ∀ g, Ext h g -> ∀ rA, h.size <= rA -> Own g rA Z4 -> ∀ ng1 p1 n1 c1 e1, NumS 1074 g ng1 p1 n1 e1 (fW a) -> ∀ ng2 p2 n2 c2 e2, NumS 1074 g ng2 p2 n2 e2 (fW c) -> ∀ ql, Own g ql #[.int .i64 (ofI a), .bool ng1, .slice p1 n1 c1, .int .i64 e1, .int .i64 (ofI c), .bool ng2, .slice p2 n2 c2, .int .i64 e2] -> F1035_o423 B R (some ⟨r1, 0, none⟩) (some ⟨r2, 0, none⟩) (some ⟨rA, 0, none⟩) (some ⟨ql, 0, none⟩) 2 2 b2 o2 b1 o1 g := by
  intro g fg rA lA oA ng1 p1 n1 c1 e1 N1 ng2 p2 n2 c2 e2 N2 ql oL
  have tA := oA.lt
  have sg := fg.size
  refine ⟨?_, ?_⟩
  ·exact outer2 oL N1 N2 fun x y g' f' Nx' Ny' hQ' => ⟨_, _, _, _, _, _, _, _, _, _, _, _, rfl, s1 g' (Ext.trans fg f') rA lA (oA.ext f') x y Nx' Ny' hQ'⟩
  ·exact alK fun rB g' eq f' oB' z => ⟨(by first | exact w1 fg f' | exact w2 fg f'), (by first | exact w1 fg f' | exact w2 fg f'), s4 g' (Ext.trans fg f') rA lA (oA.ext f') rB (by omega) oB' (by omega) ng1 p1 n1 c1 e1 (N1.ext f') ng2 p2 n2 c2 e2 (N2.ext f') ql (oL.ext f')⟩
 have s6 : ∀ g, Ext h g -> ∀ rB, h.size <= rB -> Own g rB Z4 -> ∀ ng1 p1 n1 c1 e1, NumS 1074 g ng1 p1 n1 e1 (fW a) -> ∀ ng2 p2 n2 c2 e2, NumS 1074 g ng2 p2 n2 e2 (fW c) -> ∀ ql, Own g ql #[.int .i64 (ofI a), .bool ng1, .slice p1 n1 c1, .int .i64 e1, .int .i64 (ofI c), .bool ng2, .slice p2 n2 c2, .int .i64 e2] -> F1035_o468 B R (some ⟨r1, 0, none⟩) (some ⟨r2, 0, none⟩) (some ⟨rB, 0, none⟩) (some ⟨ql, 0, none⟩) 2 2 b2 o2 b1 o1 g := by
  intro g fg rB lB oB ng1 p1 n1 c1 e1 N1 ng2 p2 n2 c2 e2 N2 ql oL
  have tB := oB.lt
  have sg := fg.size
  refine ⟨?_, ?_⟩
  ·exact outer2 oL N1 N2 fun x y g' f' Nx' Ny' hQ' => ⟨_, _, _, _, _, _, _, _, _, _, _, _, rfl, s2 g' (Ext.trans fg f') rB lB (oB.ext f') x y Nx' Ny' hQ'⟩
  ·exact alK fun rA g' eq f' oA' z => ⟨(by first | exact w1 fg f' | exact w2 fg f'), (by first | exact w1 fg f' | exact w2 fg f'), s4 g' (Ext.trans fg f') rA (by omega) oA' rB lB (oB.ext f') (by omega) ng1 p1 n1 c1 e1 (N1.ext f') ng2 p2 n2 c2 e2 (N2.ext f') ql (oL.ext f')⟩
 have s7 : ∀ g, Ext h g -> ∀ ng1 p1 n1 c1 e1, NumS 1074 g ng1 p1 n1 e1 (fW a) -> ∀ ng2 p2 n2 c2 e2, NumS 1074 g ng2 p2 n2 e2 (fW c) -> ∀ ql, Own g ql #[.int .i64 (ofI a), .bool ng1, .slice p1 n1 c1, .int .i64 e1, .int .i64 (ofI c), .bool ng2, .slice p2 n2 c2, .int .i64 e2] -> F1035_o251 B R (some ⟨r1, 0, none⟩) (some ⟨r2, 0, none⟩) (some ⟨ql, 0, none⟩) 2 2 b2 o2 b1 o1 g := by
  intro g fg ng1 p1 n1 c1 e1 N1 ng2 p2 n2 c2 e2 N2 ql oL
  have sg := fg.size
  refine ⟨?_, ?_, ?_⟩
  ·exact outer2 oL N1 N2 fun x y g' f' Nx' Ny' hQ' => ⟨_, _, _, _, _, _, _, _, _, _, _, _, rfl, s3 g' (Ext.trans fg f') x y Nx' Ny' hQ'⟩
  ·exact alK fun rA g' eq f' oA' z => ⟨(by first | exact w1 fg f' | exact w2 fg f'), (by first | exact w1 fg f' | exact w2 fg f'), s5 g' (Ext.trans fg f') rA (by omega) oA' ng1 p1 n1 c1 e1 (N1.ext f') ng2 p2 n2 c2 e2 (N2.ext f') ql (oL.ext f')⟩
  ·exact alK fun rB g' eq f' oB' z => ⟨(by first | exact w1 fg f' | exact w2 fg f'), (by first | exact w1 fg f' | exact w2 fg f'), s6 g' (Ext.trans fg f') rB (by omega) oB' ng1 p1 n1 c1 e1 (N1.ext f') ng2 p2 n2 c2 e2 (N2.ext f') ql (oL.ext f')⟩
 have s8 : ∀ g, Ext h g -> ∀ rA, h.size <= rA -> Own g rA Z4 -> ∀ rB, h.size <= rB -> Own g rB Z4 -> rA ≠ rB -> ∀ ng1 p1 n1 c1 e1, NumS 1074 g ng1 p1 n1 e1 (fW a) -> ∀ ng2 p2 n2 c2 e2, NumS 1074 g ng2 p2 n2 e2 (fW c) -> F1035_o515 B R (some ⟨r1, 0, none⟩) (some ⟨r2, 0, none⟩) (some ⟨rA, 0, none⟩) (some ⟨rB, 0, none⟩) (ofI a) ng1 p1 n1 c1 e1 (ofI c) ng2 p2 n2 c2 e2 g := by
  intro g fg rA lA oA rB lB oB dAB ng1 p1 n1 c1 e1 N1 ng2 p2 n2 c2 e2 N2
  have tA := oA.lt
  have tB := oB.lt
  have sg := fg.size
  exact alK fun ql g' eq f' oL' z => s4 g' (Ext.trans fg f') rA lA (oA.ext f') rB lB (oB.ext f') dAB ng1 p1 n1 c1 e1 (N1.ext f') ng2 p2 n2 c2 e2 (N2.ext f') ql oL'
 have s9 : ∀ g, Ext h g -> ∀ rA, h.size <= rA -> Own g rA Z4 -> ∀ ng1 p1 n1 c1 e1, NumS 1074 g ng1 p1 n1 e1 (fW a) -> ∀ ng2 p2 n2 c2 e2, NumS 1074 g ng2 p2 n2 e2 (fW c) -> F1035_o494 B R (some ⟨r1, 0, none⟩) (some ⟨r2, 0, none⟩) (some ⟨rA, 0, none⟩) (ofI a) ng1 p1 n1 c1 e1 (ofI c) ng2 p2 n2 c2 e2 b2 o2 b1 o1 g := by
  intro g fg rA lA oA ng1 p1 n1 c1 e1 N1 ng2 p2 n2 c2 e2 N2
  have tA := oA.lt
  have sg := fg.size
  refine ⟨?_, ?_⟩
  ·exact alK fun ql g' eq f' oL' z => s5 g' (Ext.trans fg f') rA lA (oA.ext f') ng1 p1 n1 c1 e1 (N1.ext f') ng2 p2 n2 c2 e2 (N2.ext f') ql oL'
  ·exact alK fun rB g' eq f' oB' z => ⟨(by first | exact w1 fg f' | exact w2 fg f'), (by first | exact w1 fg f' | exact w2 fg f'), s8 g' (Ext.trans fg f') rA lA (oA.ext f') rB (by omega) oB' (by omega) ng1 p1 n1 c1 e1 (N1.ext f') ng2 p2 n2 c2 e2 (N2.ext f')⟩
 have s10 : ∀ g, Ext h g -> ∀ rB, h.size <= rB -> Own g rB Z4 -> ∀ ng1 p1 n1 c1 e1, NumS 1074 g ng1 p1 n1 e1 (fW a) -> ∀ ng2 p2 n2 c2 e2, NumS 1074 g ng2 p2 n2 e2 (fW c) -> F1035_o533 B R (some ⟨r1, 0, none⟩) (some ⟨r2, 0, none⟩) (some ⟨rB, 0, none⟩) (ofI a) ng1 p1 n1 c1 e1 (ofI c) ng2 p2 n2 c2 e2 b2 o2 b1 o1 g := by
  intro g fg rB lB oB ng1 p1 n1 c1 e1 N1 ng2 p2 n2 c2 e2 N2
  have tB := oB.lt
  have sg := fg.size
  refine ⟨?_, ?_⟩
  ·exact alK fun ql g' eq f' oL' z => s6 g' (Ext.trans fg f') rB lB (oB.ext f') ng1 p1 n1 c1 e1 (N1.ext f') ng2 p2 n2 c2 e2 (N2.ext f') ql oL'
  ·exact alK fun rA g' eq f' oA' z => ⟨(by first | exact w1 fg f' | exact w2 fg f'), (by first | exact w1 fg f' | exact w2 fg f'), s8 g' (Ext.trans fg f') rA (by omega) oA' rB lB (oB.ext f') (by omega) ng1 p1 n1 c1 e1 (N1.ext f') ng2 p2 n2 c2 e2 (N2.ext f')⟩
 have s11 : ∀ g, Ext h g -> ∀ ng1 p1 n1 c1 e1, NumS 1074 g ng1 p1 n1 e1 (fW a) -> ∀ ng2 p2 n2 c2 e2, NumS 1074 g ng2 p2 n2 e2 (fW c) -> F1035_o233 B R (some ⟨r1, 0, none⟩) (some ⟨r2, 0, none⟩) (ofI a) ng1 p1 n1 c1 e1 (ofI c) ng2 p2 n2 c2 e2 b2 o2 b1 o1 g := by
  intro g fg ng1 p1 n1 c1 e1 N1 ng2 p2 n2 c2 e2 N2
  have sg := fg.size
  refine ⟨?_, ?_, ?_⟩
  ·exact alK fun ql g' eq f' oL' z => s7 g' (Ext.trans fg f') ng1 p1 n1 c1 e1 (N1.ext f') ng2 p2 n2 c2 e2 (N2.ext f') ql oL'
  ·exact alK fun rA g' eq f' oA' z => ⟨(by first | exact w1 fg f' | exact w2 fg f'), (by first | exact w1 fg f' | exact w2 fg f'), s9 g' (Ext.trans fg f') rA (by omega) oA' ng1 p1 n1 c1 e1 (N1.ext f') ng2 p2 n2 c2 e2 (N2.ext f')⟩
  ·exact alK fun rB g' eq f' oB' z => ⟨(by first | exact w1 fg f' | exact w2 fg f'), (by first | exact w1 fg f' | exact w2 fg f'), s10 g' (Ext.trans fg f') rB (by omega) oB' ng1 p1 n1 c1 e1 (N1.ext f') ng2 p2 n2 c2 e2 (N2.ext f')⟩
 have s12 : ∀ g, Ext h g -> ∀ rA, h.size <= rA -> Own g rA Z4 -> ∀ rB, h.size <= rB -> Own g rB Z4 -> rA ≠ rB -> ∀ ng1 p1 n1 c1 e1, NumS 1074 g ng1 p1 n1 e1 (fW a) -> F1035_o580 B R (some ⟨r1, 0, none⟩) (some ⟨r2, 0, none⟩) (some ⟨rA, 0, none⟩) (some ⟨rB, 0, none⟩) (ofI a) ng1 p1 n1 c1 e1 c g := by
  intro g fg rA lA oA rB lB oB dAB ng1 p1 n1 c1 e1 N1
  have tA := oA.lt
  have tB := oB.lt
  have sg := fg.size
  exact K1060 ic nc fun ng2 p2 n2 c2 e2 g' f' N2' => ⟨_, _, _, _, _, _, rfl, s8 g' (Ext.trans fg f') rA lA (oA.ext f') rB lB (oB.ext f') dAB ng1 p1 n1 c1 e1 (N1.ext f') ng2 p2 n2 c2 e2 N2'⟩
 have s13 : ∀ g, Ext h g -> ∀ rA, h.size <= rA -> Own g rA Z4 -> ∀ ng1 p1 n1 c1 e1, NumS 1074 g ng1 p1 n1 e1 (fW a) -> F1035_o556 B R (some ⟨r1, 0, none⟩) (some ⟨r2, 0, none⟩) (some ⟨rA, 0, none⟩) (ofI a) ng1 p1 n1 c1 e1 c b2 o2 b1 o1 g := by
  intro g fg rA lA oA ng1 p1 n1 c1 e1 N1
  have tA := oA.lt
  have sg := fg.size
  refine ⟨?_, ?_⟩
  ·exact K1060 ic nc fun ng2 p2 n2 c2 e2 g' f' N2' => ⟨_, _, _, _, _, _, rfl, s9 g' (Ext.trans fg f') rA lA (oA.ext f') ng1 p1 n1 c1 e1 (N1.ext f') ng2 p2 n2 c2 e2 N2'⟩
  ·exact alK fun rB g' eq f' oB' z => ⟨(by first | exact w1 fg f' | exact w2 fg f'), (by first | exact w1 fg f' | exact w2 fg f'), s12 g' (Ext.trans fg f') rA lA (oA.ext f') rB (by omega) oB' (by omega) ng1 p1 n1 c1 e1 (N1.ext f')⟩
 have s14 : ∀ g, Ext h g -> ∀ rB, h.size <= rB -> Own g rB Z4 -> ∀ ng1 p1 n1 c1 e1, NumS 1074 g ng1 p1 n1 e1 (fW a) -> F1035_o601 B R (some ⟨r1, 0, none⟩) (some ⟨r2, 0, none⟩) (some ⟨rB, 0, none⟩) (ofI a) ng1 p1 n1 c1 e1 c b2 o2 b1 o1 g := by
  intro g fg rB lB oB ng1 p1 n1 c1 e1 N1
  have tB := oB.lt
  have sg := fg.size
  refine ⟨?_, ?_⟩
  ·exact K1060 ic nc fun ng2 p2 n2 c2 e2 g' f' N2' => ⟨_, _, _, _, _, _, rfl, s10 g' (Ext.trans fg f') rB lB (oB.ext f') ng1 p1 n1 c1 e1 (N1.ext f') ng2 p2 n2 c2 e2 N2'⟩
  ·exact alK fun rA g' eq f' oA' z => ⟨(by first | exact w1 fg f' | exact w2 fg f'), (by first | exact w1 fg f' | exact w2 fg f'), s12 g' (Ext.trans fg f') rA (by omega) oA' rB lB (oB.ext f') (by omega) ng1 p1 n1 c1 e1 (N1.ext f')⟩
 have s15 : ∀ g, Ext h g -> ∀ ng1 p1 n1 c1 e1, NumS 1074 g ng1 p1 n1 e1 (fW a) -> F1035_o212 B R (some ⟨r1, 0, none⟩) (some ⟨r2, 0, none⟩) (ofI a) ng1 p1 n1 c1 e1 c b2 o2 b1 o1 g := by
  intro g fg ng1 p1 n1 c1 e1 N1
  have sg := fg.size
  refine ⟨?_, ?_, ?_⟩
  ·exact K1060 ic nc fun ng2 p2 n2 c2 e2 g' f' N2' => ⟨_, _, _, _, _, _, rfl, s11 g' (Ext.trans fg f') ng1 p1 n1 c1 e1 (N1.ext f') ng2 p2 n2 c2 e2 N2'⟩
  ·exact alK fun rA g' eq f' oA' z => ⟨(by first | exact w1 fg f' | exact w2 fg f'), (by first | exact w1 fg f' | exact w2 fg f'), s13 g' (Ext.trans fg f') rA (by omega) oA' ng1 p1 n1 c1 e1 (N1.ext f')⟩
  ·exact alK fun rB g' eq f' oB' z => ⟨(by first | exact w1 fg f' | exact w2 fg f'), (by first | exact w1 fg f' | exact w2 fg f'), s14 g' (Ext.trans fg f') rB (by omega) oB' ng1 p1 n1 c1 e1 (N1.ext f')⟩
 have s16 : ∀ g, Ext h g -> ∀ rA, h.size <= rA -> Own g rA Z4 -> ∀ rB, h.size <= rB -> Own g rB Z4 -> rA ≠ rB -> F1035_o648 B R (some ⟨r1, 0, none⟩) (some ⟨r2, 0, none⟩) (some ⟨rA, 0, none⟩) (some ⟨rB, 0, none⟩) a c b2 o2 g := by
  intro g fg rA lA oA rB lB oB dAB
  have tA := oA.lt
  have tB := oB.lt
  have sg := fg.size
  exact K1060 ia na fun ng1 p1 n1 c1 e1 g' f' N1' => ⟨_, _, _, _, _, _, rfl, (by first | exact w1 fg f' | exact w2 fg f'), s12 g' (Ext.trans fg f') rA lA (oA.ext f') rB lB (oB.ext f') dAB ng1 p1 n1 c1 e1 N1'⟩
 have s17 : ∀ g, Ext h g -> ∀ rA, h.size <= rA -> Own g rA Z4 -> F1035_o627 B R (some ⟨r1, 0, none⟩) (some ⟨r2, 0, none⟩) (some ⟨rA, 0, none⟩) a c b2 o2 b1 o1 g := by
  intro g fg rA lA oA
  have tA := oA.lt
  have sg := fg.size
  refine ⟨?_, ?_⟩
  ·exact K1060 ia na fun ng1 p1 n1 c1 e1 g' f' N1' => ⟨_, _, _, _, _, _, rfl, (by first | exact w1 fg f' | exact w2 fg f'), s13 g' (Ext.trans fg f') rA lA (oA.ext f') ng1 p1 n1 c1 e1 N1'⟩
  ·exact alK fun rB g' eq f' oB' z => ⟨(by first | exact w1 fg f' | exact w2 fg f'), (by first | exact w1 fg f' | exact w2 fg f'), s16 g' (Ext.trans fg f') rA lA (oA.ext f') rB (by omega) oB' (by omega)⟩
 have s18 : ∀ g, Ext h g -> ∀ rB, h.size <= rB -> Own g rB Z4 -> F1035_o668 B R (some ⟨r1, 0, none⟩) (some ⟨r2, 0, none⟩) (some ⟨rB, 0, none⟩) a c b2 o2 b1 o1 g := by
  intro g fg rB lB oB
  have tB := oB.lt
  have sg := fg.size
  refine ⟨?_, ?_⟩
  ·exact K1060 ia na fun ng1 p1 n1 c1 e1 g' f' N1' => ⟨_, _, _, _, _, _, rfl, (by first | exact w1 fg f' | exact w2 fg f'), s14 g' (Ext.trans fg f') rB lB (oB.ext f') ng1 p1 n1 c1 e1 N1'⟩
  ·exact alK fun rA g' eq f' oA' z => ⟨(by first | exact w1 fg f' | exact w2 fg f'), (by first | exact w1 fg f' | exact w2 fg f'), s16 g' (Ext.trans fg f') rA (by omega) oA' rB lB (oB.ext f') (by omega)⟩
 have s19 : ∀ g, Ext h g -> F1035_o194 B R (some ⟨r1, 0, none⟩) (some ⟨r2, 0, none⟩) a c b2 o2 b1 o1 g := by
  intro g fg
  have sg := fg.size
  refine ⟨?_, ?_, ?_⟩
  ·exact K1060 ia na fun ng1 p1 n1 c1 e1 g' f' N1' => ⟨_, _, _, _, _, _, rfl, (by first | exact w1 fg f' | exact w2 fg f'), s15 g' (Ext.trans fg f') ng1 p1 n1 c1 e1 N1'⟩
  ·exact alK fun rA g' eq f' oA' z => ⟨(by first | exact w1 fg f' | exact w2 fg f'), (by first | exact w1 fg f' | exact w2 fg f'), s17 g' (Ext.trans fg f') rA (by omega) oA'⟩
  ·exact alK fun rB g' eq f' oB' z => ⟨(by first | exact w1 fg f' | exact w2 fg f'), (by first | exact w1 fg f' | exact w2 fg f'), s18 g' (Ext.trans fg f') rB (by omega) oB'⟩
 exact s19 h Fr.rfl'
theorem join_lo {r1 r2 r3 r4 r5 b1 o1 b2 o2 : Nat} {a c : Int} {xs1 xs2 : Array Value} (O1 : Own h b1 xs1) (O2 : Own h b2 xs2) (ia : I64 a) (ic : I64 c) (na : isNaN a = false) (nc : isNaN c = false)
  (fin : ∀ g, Ext h g -> ∀ rA, h.size <= rA -> Own g rA Z4 -> ∀ rB, h.size <= rB -> Own g rB Z4 -> rA ≠ rB -> ∀ x y : EV, NumS 1074 g x.ng x.p x.n x.e x.v -> NumS 1074 g y.ng y.p y.n y.e y.v -> LH a c x y -> F1039_o142 B R (some ⟨r1, 0, none⟩) (some ⟨r2, 0, none⟩) (some ⟨r3, 0, none⟩) (some ⟨rA, 0, none⟩) (some ⟨rB, 0, none⟩) x.i x.ng x.p x.n x.c x.e y.i y.ng y.p y.n y.c y.e g) :
  F1039_o21 B R (some ⟨r1, 0, none⟩) (some ⟨r2, 0, none⟩) (some ⟨r3, 0, none⟩) a c b2 o2 b1 o1 h := by
 have w1 {g g' : Heap} {o : Nat} (x : Ext h g) (y : Ext g g') := sameN (o := o) (O1.ext x) y id 1
 have w2 {g g' : Heap} {o : Nat} (x : Ext h g) (y : Ext g g') := sameN (o := o) (O2.ext x) y id 1
 have s1 : ∀ g, Ext h g -> ∀ rA, h.size <= rA -> Own g rA Z4 -> ∀ x y : EV, NumS 1074 g x.ng x.p x.n x.e x.v -> NumS 1074 g y.ng y.p y.n y.e y.v -> LH a c x y -> F1039_o122 B R (some ⟨r1, 0, none⟩) (some ⟨r2, 0, none⟩) (some ⟨r3, 0, none⟩) (some ⟨rA, 0, none⟩) x.i x.ng x.p x.n x.c x.e y.i y.ng y.p y.n y.c y.e b2 o2 b1 o1 g := by
  intro g fg rA lA oA x y Nx Ny hQ
  have tA := oA.lt
  have sg := fg.size
  exact alK fun rB g' eq f' oB' z => ⟨(by first | exact w1 fg f' | exact w2 fg f'), (by first | exact w1 fg f' | exact w2 fg f'), fin g' (Ext.trans fg f') rA lA (oA.ext f') rB (by omega) oB' (by omega) x y (Nx.ext f') (Ny.ext f') hQ⟩
 have s2 : ∀ g, Ext h g -> ∀ rB, h.size <= rB -> Own g rB Z4 -> ∀ x y : EV, NumS 1074 g x.ng x.p x.n x.e x.v -> NumS 1074 g y.ng y.p y.n y.e y.v -> LH a c x y -> F1039_o666 B R (some ⟨r1, 0, none⟩) (some ⟨r2, 0, none⟩) (some ⟨r3, 0, none⟩) (some ⟨rB, 0, none⟩) x.i x.ng x.p x.n x.c x.e y.i y.ng y.p y.n y.c y.e b2 o2 b1 o1 g := by
  intro g fg rB lB oB x y Nx Ny hQ
  have tB := oB.lt
  have sg := fg.size
  exact alK fun rA g' eq f' oA' z => ⟨(by first | exact w1 fg f' | exact w2 fg f'), (by first | exact w1 fg f' | exact w2 fg f'), fin g' (Ext.trans fg f') rA (by omega) oA' rB lB (oB.ext f') (by omega) x y (Nx.ext f') (Ny.ext f') hQ⟩
 have s3 : ∀ g, Ext h g -> ∀ x y : EV, NumS 1074 g x.ng x.p x.n x.e x.v -> NumS 1074 g y.ng y.p y.n y.e y.v -> LH a c x y -> F1039_o103 B R (some ⟨r1, 0, none⟩) (some ⟨r2, 0, none⟩) (some ⟨r3, 0, none⟩) x.i x.ng x.p x.n x.c x.e y.i y.ng y.p y.n y.c y.e b2 o2 b1 o1 g := by
  intro g fg x y Nx Ny hQ
  have sg := fg.size
  refine ⟨?_, ?_⟩
  ·exact alK fun rA g' eq f' oA' z => ⟨(by first | exact w1 fg f' | exact w2 fg f'), (by first | exact w1 fg f' | exact w2 fg f'), s1 g' (Ext.trans fg f') rA (by omega) oA' x y (Nx.ext f') (Ny.ext f') hQ⟩
  ·exact alK fun rB g' eq f' oB' z => ⟨(by first | exact w1 fg f' | exact w2 fg f'), (by first | exact w1 fg f' | exact w2 fg f'), s2 g' (Ext.trans fg f') rB (by omega) oB' x y (Nx.ext f') (Ny.ext f') hQ⟩
 have s4 : ∀ g, Ext h g -> ∀ rA, h.size <= rA -> Own g rA Z4 -> ∀ rB, h.size <= rB -> Own g rB Z4 -> rA ≠ rB -> ∀ ng1 p1 n1 c1 e1, NumS 1074 g ng1 p1 n1 e1 (fW a) -> ∀ ng2 p2 n2 c2 e2, NumS 1074 g ng2 p2 n2 e2 (fW c) -> ∀ ql, Own g ql #[.int .i64 (ofI a), .bool ng1, .slice p1 n1 c1, .int .i64 e1, .int .i64 (ofI c), .bool ng2, .slice p2 n2 c2, .int .i64 e2] -> F1039_o713 B R (some ⟨r1, 0, none⟩) (some ⟨r2, 0, none⟩) (some ⟨r3, 0, none⟩) (some ⟨rA, 0, none⟩) (some ⟨rB, 0, none⟩) (some ⟨ql, 0, none⟩) 2 2 g := by
  intro g fg rA lA oA rB lB oB dAB ng1 p1 n1 c1 e1 N1 ng2 p2 n2 c2 e2 N2 ql oL
  have tA := oA.lt
  have tB := oB.lt
  have sg := fg.size
  exact outer2 oL N1 N2 fun x y g' f' Nx' Ny' hQ' => ⟨_, _, _, _, _, _, _, _, _, _, _, _, rfl, fin g' (Ext.trans fg f') rA lA (oA.ext f') rB lB (oB.ext f') dAB x y Nx' Ny' hQ'⟩
 have s5 : ∀ g, Ext h g -> ∀ rA, h.size <= rA -> Own g rA Z4 -> ∀ ng1 p1 n1 c1 e1, NumS 1074 g ng1 p1 n1 e1 (fW a) -> ∀ ng2 p2 n2 c2 e2, NumS 1074 g ng2 p2 n2 e2 (fW c) -> ∀ ql, Own g ql #[.int .i64 (ofI a), .bool ng1, .slice p1 n1 c1, .int .i64 e1, .int .i64 (ofI c), .bool ng2, .slice p2 n2 c2, .int .i64 e2] -> F1039_o688 B R (some ⟨r1, 0, none⟩) (some ⟨r2, 0, none⟩) (some ⟨r3, 0, none⟩) (some ⟨rA, 0, none⟩) (some ⟨ql, 0, none⟩) 2 2 b2 o2 b1 o1 g := by
  intro g fg rA lA oA ng1 p1 n1 c1 e1 N1 ng2 p2 n2 c2 e2 N2 ql oL
  have tA := oA.lt
  have sg := fg.size
  refine ⟨?_, ?_⟩
  ·exact outer2 oL N1 N2 fun x y g' f' Nx' Ny' hQ' => ⟨_, _, _, _, _, _, _, _, _, _, _, _, rfl, s1 g' (Ext.trans fg f') rA lA (oA.ext f') x y Nx' Ny' hQ'⟩
  ·exact alK fun rB g' eq f' oB' z => ⟨(by first | exact w1 fg f' | exact w2 fg f'), (by first | exact w1 fg f' | exact w2 fg f'), s4 g' (Ext.trans fg f') rA lA (oA.ext f') rB (by omega) oB' (by omega) ng1 p1 n1 c1 e1 (N1.ext f') ng2 p2 n2 c2 e2 (N2.ext f') ql (oL.ext f')⟩
 have s6 : ∀ g, Ext h g -> ∀ rB, h.size <= rB -> Own g rB Z4 -> ∀ ng1 p1 n1 c1 e1, NumS 1074 g ng1 p1 n1 e1 (fW a) -> ∀ ng2 p2 n2 c2 e2, NumS 1074 g ng2 p2 n2 e2 (fW c) -> ∀ ql, Own g ql #[.int .i64 (ofI a), .bool ng1, .slice p1 n1 c1, .int .i64 e1, .int .i64 (ofI c), .bool ng2, .slice p2 n2 c2, .int .i64 e2] -> F1039_o735 B R (some ⟨r1, 0, none⟩) (some ⟨r2, 0, none⟩) (some ⟨r3, 0, none⟩) (some ⟨rB, 0, none⟩) (some ⟨ql, 0, none⟩) 2 2 b2 o2 b1 o1 g := by
  intro g fg rB lB oB ng1 p1 n1 c1 e1 N1 ng2 p2 n2 c2 e2 N2 ql oL
  have tB := oB.lt
  have sg := fg.size
  refine ⟨?_, ?_⟩
  ·exact outer2 oL N1 N2 fun x y g' f' Nx' Ny' hQ' => ⟨_, _, _, _, _, _, _, _, _, _, _, _, rfl, s2 g' (Ext.trans fg f') rB lB (oB.ext f') x y Nx' Ny' hQ'⟩
  ·exact alK fun rA g' eq f' oA' z => ⟨(by first | exact w1 fg f' | exact w2 fg f'), (by first | exact w1 fg f' | exact w2 fg f'), s4 g' (Ext.trans fg f') rA (by omega) oA' rB lB (oB.ext f') (by omega) ng1 p1 n1 c1 e1 (N1.ext f') ng2 p2 n2 c2 e2 (N2.ext f') ql (oL.ext f')⟩
 have s7 : ∀ g, Ext h g -> ∀ ng1 p1 n1 c1 e1, NumS 1074 g ng1 p1 n1 e1 (fW a) -> ∀ ng2 p2 n2 c2 e2, NumS 1074 g ng2 p2 n2 e2 (fW c) -> ∀ ql, Own g ql #[.int .i64 (ofI a), .bool ng1, .slice p1 n1 c1, .int .i64 e1, .int .i64 (ofI c), .bool ng2, .slice p2 n2 c2, .int .i64 e2] -> F1039_o81 B R (some ⟨r1, 0, none⟩) (some ⟨r2, 0, none⟩) (some ⟨r3, 0, none⟩) (some ⟨ql, 0, none⟩) 2 2 b2 o2 b1 o1 g := by
  intro g fg ng1 p1 n1 c1 e1 N1 ng2 p2 n2 c2 e2 N2 ql oL
  have sg := fg.size
  refine ⟨?_, ?_, ?_⟩
  ·exact outer2 oL N1 N2 fun x y g' f' Nx' Ny' hQ' => ⟨_, _, _, _, _, _, _, _, _, _, _, _, rfl, s3 g' (Ext.trans fg f') x y Nx' Ny' hQ'⟩
  ·exact alK fun rA g' eq f' oA' z => ⟨(by first | exact w1 fg f' | exact w2 fg f'), (by first | exact w1 fg f' | exact w2 fg f'), s5 g' (Ext.trans fg f') rA (by omega) oA' ng1 p1 n1 c1 e1 (N1.ext f') ng2 p2 n2 c2 e2 (N2.ext f') ql (oL.ext f')⟩
  ·exact alK fun rB g' eq f' oB' z => ⟨(by first | exact w1 fg f' | exact w2 fg f'), (by first | exact w1 fg f' | exact w2 fg f'), s6 g' (Ext.trans fg f') rB (by omega) oB' ng1 p1 n1 c1 e1 (N1.ext f') ng2 p2 n2 c2 e2 (N2.ext f') ql (oL.ext f')⟩
 have s8 : ∀ g, Ext h g -> ∀ rA, h.size <= rA -> Own g rA Z4 -> ∀ rB, h.size <= rB -> Own g rB Z4 -> rA ≠ rB -> ∀ ng1 p1 n1 c1 e1, NumS 1074 g ng1 p1 n1 e1 (fW a) -> ∀ ng2 p2 n2 c2 e2, NumS 1074 g ng2 p2 n2 e2 (fW c) -> F1039_o784 B R (some ⟨r1, 0, none⟩) (some ⟨r2, 0, none⟩) (some ⟨r3, 0, none⟩) (some ⟨rA, 0, none⟩) (some ⟨rB, 0, none⟩) (ofI a) ng1 p1 n1 c1 e1 (ofI c) ng2 p2 n2 c2 e2 g := by
  intro g fg rA lA oA rB lB oB dAB ng1 p1 n1 c1 e1 N1 ng2 p2 n2 c2 e2 N2
  have tA := oA.lt
  have tB := oB.lt
  have sg := fg.size
  exact alK fun ql g' eq f' oL' z => s4 g' (Ext.trans fg f') rA lA (oA.ext f') rB lB (oB.ext f') dAB ng1 p1 n1 c1 e1 (N1.ext f') ng2 p2 n2 c2 e2 (N2.ext f') ql oL'
 have s9 : ∀ g, Ext h g -> ∀ rA, h.size <= rA -> Own g rA Z4 -> ∀ ng1 p1 n1 c1 e1, NumS 1074 g ng1 p1 n1 e1 (fW a) -> ∀ ng2 p2 n2 c2 e2, NumS 1074 g ng2 p2 n2 e2 (fW c) -> F1039_o762 B R (some ⟨r1, 0, none⟩) (some ⟨r2, 0, none⟩) (some ⟨r3, 0, none⟩) (some ⟨rA, 0, none⟩) (ofI a) ng1 p1 n1 c1 e1 (ofI c) ng2 p2 n2 c2 e2 b2 o2 b1 o1 g := by
  intro g fg rA lA oA ng1 p1 n1 c1 e1 N1 ng2 p2 n2 c2 e2 N2
  have tA := oA.lt
  have sg := fg.size
  refine ⟨?_, ?_⟩
  ·exact alK fun ql g' eq f' oL' z => s5 g' (Ext.trans fg f') rA lA (oA.ext f') ng1 p1 n1 c1 e1 (N1.ext f') ng2 p2 n2 c2 e2 (N2.ext f') ql oL'
  ·exact alK fun rB g' eq f' oB' z => ⟨(by first | exact w1 fg f' | exact w2 fg f'), (by first | exact w1 fg f' | exact w2 fg f'), s8 g' (Ext.trans fg f') rA lA (oA.ext f') rB (by omega) oB' (by omega) ng1 p1 n1 c1 e1 (N1.ext f') ng2 p2 n2 c2 e2 (N2.ext f')⟩
 have s10 : ∀ g, Ext h g -> ∀ rB, h.size <= rB -> Own g rB Z4 -> ∀ ng1 p1 n1 c1 e1, NumS 1074 g ng1 p1 n1 e1 (fW a) -> ∀ ng2 p2 n2 c2 e2, NumS 1074 g ng2 p2 n2 e2 (fW c) -> F1039_o803 B R (some ⟨r1, 0, none⟩) (some ⟨r2, 0, none⟩) (some ⟨r3, 0, none⟩) (some ⟨rB, 0, none⟩) (ofI a) ng1 p1 n1 c1 e1 (ofI c) ng2 p2 n2 c2 e2 b2 o2 b1 o1 g := by
  intro g fg rB lB oB ng1 p1 n1 c1 e1 N1 ng2 p2 n2 c2 e2 N2
  have tB := oB.lt
  have sg := fg.size
  refine ⟨?_, ?_⟩
  ·exact alK fun ql g' eq f' oL' z => s6 g' (Ext.trans fg f') rB lB (oB.ext f') ng1 p1 n1 c1 e1 (N1.ext f') ng2 p2 n2 c2 e2 (N2.ext f') ql oL'
  ·exact alK fun rA g' eq f' oA' z => ⟨(by first | exact w1 fg f' | exact w2 fg f'), (by first | exact w1 fg f' | exact w2 fg f'), s8 g' (Ext.trans fg f') rA (by omega) oA' rB lB (oB.ext f') (by omega) ng1 p1 n1 c1 e1 (N1.ext f') ng2 p2 n2 c2 e2 (N2.ext f')⟩
 have s11 : ∀ g, Ext h g -> ∀ ng1 p1 n1 c1 e1, NumS 1074 g ng1 p1 n1 e1 (fW a) -> ∀ ng2 p2 n2 c2 e2, NumS 1074 g ng2 p2 n2 e2 (fW c) -> F1039_o62 B R (some ⟨r1, 0, none⟩) (some ⟨r2, 0, none⟩) (some ⟨r3, 0, none⟩) (ofI a) ng1 p1 n1 c1 e1 (ofI c) ng2 p2 n2 c2 e2 b2 o2 b1 o1 g := by
  intro g fg ng1 p1 n1 c1 e1 N1 ng2 p2 n2 c2 e2 N2
  have sg := fg.size
  refine ⟨?_, ?_, ?_⟩
  ·exact alK fun ql g' eq f' oL' z => s7 g' (Ext.trans fg f') ng1 p1 n1 c1 e1 (N1.ext f') ng2 p2 n2 c2 e2 (N2.ext f') ql oL'
  ·exact alK fun rA g' eq f' oA' z => ⟨(by first | exact w1 fg f' | exact w2 fg f'), (by first | exact w1 fg f' | exact w2 fg f'), s9 g' (Ext.trans fg f') rA (by omega) oA' ng1 p1 n1 c1 e1 (N1.ext f') ng2 p2 n2 c2 e2 (N2.ext f')⟩
  ·exact alK fun rB g' eq f' oB' z => ⟨(by first | exact w1 fg f' | exact w2 fg f'), (by first | exact w1 fg f' | exact w2 fg f'), s10 g' (Ext.trans fg f') rB (by omega) oB' ng1 p1 n1 c1 e1 (N1.ext f') ng2 p2 n2 c2 e2 (N2.ext f')⟩
 have s12 : ∀ g, Ext h g -> ∀ rA, h.size <= rA -> Own g rA Z4 -> ∀ rB, h.size <= rB -> Own g rB Z4 -> rA ≠ rB -> ∀ ng1 p1 n1 c1 e1, NumS 1074 g ng1 p1 n1 e1 (fW a) -> F1039_o852 B R (some ⟨r1, 0, none⟩) (some ⟨r2, 0, none⟩) (some ⟨r3, 0, none⟩) (some ⟨rA, 0, none⟩) (some ⟨rB, 0, none⟩) (ofI a) ng1 p1 n1 c1 e1 c g := by
  intro g fg rA lA oA rB lB oB dAB ng1 p1 n1 c1 e1 N1
  have tA := oA.lt
  have tB := oB.lt
  have sg := fg.size
  exact K1060 ic nc fun ng2 p2 n2 c2 e2 g' f' N2' => ⟨_, _, _, _, _, _, rfl, s8 g' (Ext.trans fg f') rA lA (oA.ext f') rB lB (oB.ext f') dAB ng1 p1 n1 c1 e1 (N1.ext f') ng2 p2 n2 c2 e2 N2'⟩
 have s13 : ∀ g, Ext h g -> ∀ rA, h.size <= rA -> Own g rA Z4 -> ∀ ng1 p1 n1 c1 e1, NumS 1074 g ng1 p1 n1 e1 (fW a) -> F1039_o827 B R (some ⟨r1, 0, none⟩) (some ⟨r2, 0, none⟩) (some ⟨r3, 0, none⟩) (some ⟨rA, 0, none⟩) (ofI a) ng1 p1 n1 c1 e1 c b2 o2 b1 o1 g := by
  intro g fg rA lA oA ng1 p1 n1 c1 e1 N1
  have tA := oA.lt
  have sg := fg.size
  refine ⟨?_, ?_⟩
  ·exact K1060 ic nc fun ng2 p2 n2 c2 e2 g' f' N2' => ⟨_, _, _, _, _, _, rfl, s9 g' (Ext.trans fg f') rA lA (oA.ext f') ng1 p1 n1 c1 e1 (N1.ext f') ng2 p2 n2 c2 e2 N2'⟩
  ·exact alK fun rB g' eq f' oB' z => ⟨(by first | exact w1 fg f' | exact w2 fg f'), (by first | exact w1 fg f' | exact w2 fg f'), s12 g' (Ext.trans fg f') rA lA (oA.ext f') rB (by omega) oB' (by omega) ng1 p1 n1 c1 e1 (N1.ext f')⟩
 have s14 : ∀ g, Ext h g -> ∀ rB, h.size <= rB -> Own g rB Z4 -> ∀ ng1 p1 n1 c1 e1, NumS 1074 g ng1 p1 n1 e1 (fW a) -> F1039_o874 B R (some ⟨r1, 0, none⟩) (some ⟨r2, 0, none⟩) (some ⟨r3, 0, none⟩) (some ⟨rB, 0, none⟩) (ofI a) ng1 p1 n1 c1 e1 c b2 o2 b1 o1 g := by
  intro g fg rB lB oB ng1 p1 n1 c1 e1 N1
  have tB := oB.lt
  have sg := fg.size
  refine ⟨?_, ?_⟩
  ·exact K1060 ic nc fun ng2 p2 n2 c2 e2 g' f' N2' => ⟨_, _, _, _, _, _, rfl, s10 g' (Ext.trans fg f') rB lB (oB.ext f') ng1 p1 n1 c1 e1 (N1.ext f') ng2 p2 n2 c2 e2 N2'⟩
  ·exact alK fun rA g' eq f' oA' z => ⟨(by first | exact w1 fg f' | exact w2 fg f'), (by first | exact w1 fg f' | exact w2 fg f'), s12 g' (Ext.trans fg f') rA (by omega) oA' rB lB (oB.ext f') (by omega) ng1 p1 n1 c1 e1 (N1.ext f')⟩
 have s15 : ∀ g, Ext h g -> ∀ ng1 p1 n1 c1 e1, NumS 1074 g ng1 p1 n1 e1 (fW a) -> F1039_o40 B R (some ⟨r1, 0, none⟩) (some ⟨r2, 0, none⟩) (some ⟨r3, 0, none⟩) (ofI a) ng1 p1 n1 c1 e1 c b2 o2 b1 o1 g := by
  intro g fg ng1 p1 n1 c1 e1 N1
  have sg := fg.size
  refine ⟨?_, ?_, ?_⟩
  ·exact K1060 ic nc fun ng2 p2 n2 c2 e2 g' f' N2' => ⟨_, _, _, _, _, _, rfl, s11 g' (Ext.trans fg f') ng1 p1 n1 c1 e1 (N1.ext f') ng2 p2 n2 c2 e2 N2'⟩
  ·exact alK fun rA g' eq f' oA' z => ⟨(by first | exact w1 fg f' | exact w2 fg f'), (by first | exact w1 fg f' | exact w2 fg f'), s13 g' (Ext.trans fg f') rA (by omega) oA' ng1 p1 n1 c1 e1 (N1.ext f')⟩
  ·exact alK fun rB g' eq f' oB' z => ⟨(by first | exact w1 fg f' | exact w2 fg f'), (by first | exact w1 fg f' | exact w2 fg f'), s14 g' (Ext.trans fg f') rB (by omega) oB' ng1 p1 n1 c1 e1 (N1.ext f')⟩
 have s16 : ∀ g, Ext h g -> ∀ rA, h.size <= rA -> Own g rA Z4 -> ∀ rB, h.size <= rB -> Own g rB Z4 -> rA ≠ rB -> F1039_o923 B R (some ⟨r1, 0, none⟩) (some ⟨r2, 0, none⟩) (some ⟨r3, 0, none⟩) (some ⟨rA, 0, none⟩) (some ⟨rB, 0, none⟩) a c b2 o2 g := by
  intro g fg rA lA oA rB lB oB dAB
  have tA := oA.lt
  have tB := oB.lt
  have sg := fg.size
  exact K1060 ia na fun ng1 p1 n1 c1 e1 g' f' N1' => ⟨_, _, _, _, _, _, rfl, (by first | exact w1 fg f' | exact w2 fg f'), s12 g' (Ext.trans fg f') rA lA (oA.ext f') rB lB (oB.ext f') dAB ng1 p1 n1 c1 e1 N1'⟩
 have s17 : ∀ g, Ext h g -> ∀ rA, h.size <= rA -> Own g rA Z4 -> F1039_o901 B R (some ⟨r1, 0, none⟩) (some ⟨r2, 0, none⟩) (some ⟨r3, 0, none⟩) (some ⟨rA, 0, none⟩) a c b2 o2 b1 o1 g := by
  intro g fg rA lA oA
  have tA := oA.lt
  have sg := fg.size
  refine ⟨?_, ?_⟩
  ·exact K1060 ia na fun ng1 p1 n1 c1 e1 g' f' N1' => ⟨_, _, _, _, _, _, rfl, (by first | exact w1 fg f' | exact w2 fg f'), s13 g' (Ext.trans fg f') rA lA (oA.ext f') ng1 p1 n1 c1 e1 N1'⟩
  ·exact alK fun rB g' eq f' oB' z => ⟨(by first | exact w1 fg f' | exact w2 fg f'), (by first | exact w1 fg f' | exact w2 fg f'), s16 g' (Ext.trans fg f') rA lA (oA.ext f') rB (by omega) oB' (by omega)⟩
 have s18 : ∀ g, Ext h g -> ∀ rB, h.size <= rB -> Own g rB Z4 -> F1039_o944 B R (some ⟨r1, 0, none⟩) (some ⟨r2, 0, none⟩) (some ⟨r3, 0, none⟩) (some ⟨rB, 0, none⟩) a c b2 o2 b1 o1 g := by
  intro g fg rB lB oB
  have tB := oB.lt
  have sg := fg.size
  refine ⟨?_, ?_⟩
  ·exact K1060 ia na fun ng1 p1 n1 c1 e1 g' f' N1' => ⟨_, _, _, _, _, _, rfl, (by first | exact w1 fg f' | exact w2 fg f'), s14 g' (Ext.trans fg f') rB lB (oB.ext f') ng1 p1 n1 c1 e1 N1'⟩
  ·exact alK fun rA g' eq f' oA' z => ⟨(by first | exact w1 fg f' | exact w2 fg f'), (by first | exact w1 fg f' | exact w2 fg f'), s16 g' (Ext.trans fg f') rA (by omega) oA' rB lB (oB.ext f') (by omega)⟩
 have s19 : ∀ g, Ext h g -> F1039_o21 B R (some ⟨r1, 0, none⟩) (some ⟨r2, 0, none⟩) (some ⟨r3, 0, none⟩) a c b2 o2 b1 o1 g := by
  intro g fg
  have sg := fg.size
  refine ⟨?_, ?_, ?_⟩
  ·exact K1060 ia na fun ng1 p1 n1 c1 e1 g' f' N1' => ⟨_, _, _, _, _, _, rfl, (by first | exact w1 fg f' | exact w2 fg f'), s15 g' (Ext.trans fg f') ng1 p1 n1 c1 e1 N1'⟩
  ·exact alK fun rA g' eq f' oA' z => ⟨(by first | exact w1 fg f' | exact w2 fg f'), (by first | exact w1 fg f' | exact w2 fg f'), s17 g' (Ext.trans fg f') rA (by omega) oA'⟩
  ·exact alK fun rB g' eq f' oB' z => ⟨(by first | exact w1 fg f' | exact w2 fg f'), (by first | exact w1 fg f' | exact w2 fg f'), s18 g' (Ext.trans fg f') rB (by omega) oB'⟩
 exact s19 h Fr.rfl'
theorem join_hi {r1 r2 r3 r4 r5 b1 o1 b2 o2 : Nat} {a c : Int} {xs1 xs2 : Array Value} (O1 : Own h b1 xs1) (O2 : Own h b2 xs2) (ia : I64 a) (ic : I64 c) (na : isNaN a = false) (nc : isNaN c = false)
  (fin : ∀ g, Ext h g -> ∀ rA, h.size <= rA -> Own g rA Z4 -> ∀ rB, h.size <= rB -> Own g rB Z4 -> rA ≠ rB -> ∀ x y : EV, NumS 1074 g x.ng x.p x.n x.e x.v -> NumS 1074 g y.ng y.p y.n y.e y.v -> LH a c x y -> F1039_o310 B R (some ⟨r1, 0, none⟩) (some ⟨r2, 0, none⟩) (some ⟨rA, 0, none⟩) (some ⟨rB, 0, none⟩) x.i x.ng x.p x.n x.c x.e y.i y.ng y.p y.n y.c y.e g) :
  F1039_o195 B R (some ⟨r1, 0, none⟩) (some ⟨r2, 0, none⟩) a c b2 o2 b1 o1 h := by
 have w1 {g g' : Heap} {o : Nat} (x : Ext h g) (y : Ext g g') := sameN (o := o) (O1.ext x) y id 1
 have w2 {g g' : Heap} {o : Nat} (x : Ext h g) (y : Ext g g') := sameN (o := o) (O2.ext x) y id 1
 have s1 : ∀ g, Ext h g -> ∀ rA, h.size <= rA -> Own g rA Z4 -> ∀ x y : EV, NumS 1074 g x.ng x.p x.n x.e x.v -> NumS 1074 g y.ng y.p y.n y.e y.v -> LH a c x y -> F1039_o291 B R (some ⟨r1, 0, none⟩) (some ⟨r2, 0, none⟩) (some ⟨rA, 0, none⟩) x.i x.ng x.p x.n x.c x.e y.i y.ng y.p y.n y.c y.e b2 o2 b1 o1 g := by
  intro g fg rA lA oA x y Nx Ny hQ
  have tA := oA.lt
  have sg := fg.size
  exact alK fun rB g' eq f' oB' z => ⟨(by first | exact w1 fg f' | exact w2 fg f'), (by first | exact w1 fg f' | exact w2 fg f'), fin g' (Ext.trans fg f') rA lA (oA.ext f') rB (by omega) oB' (by omega) x y (Nx.ext f') (Ny.ext f') hQ⟩
 have s2 : ∀ g, Ext h g -> ∀ rB, h.size <= rB -> Own g rB Z4 -> ∀ x y : EV, NumS 1074 g x.ng x.p x.n x.e x.v -> NumS 1074 g y.ng y.p y.n y.e y.v -> LH a c x y -> F1039_o377 B R (some ⟨r1, 0, none⟩) (some ⟨r2, 0, none⟩) (some ⟨rB, 0, none⟩) x.i x.ng x.p x.n x.c x.e y.i y.ng y.p y.n y.c y.e b2 o2 b1 o1 g := by
  intro g fg rB lB oB x y Nx Ny hQ
  have tB := oB.lt
  have sg := fg.size
  exact alK fun rA g' eq f' oA' z => ⟨(by first | exact w1 fg f' | exact w2 fg f'), (by first | exact w1 fg f' | exact w2 fg f'), fin g' (Ext.trans fg f') rA (by omega) oA' rB lB (oB.ext f') (by omega) x y (Nx.ext f') (Ny.ext f') hQ⟩
 have s3 : ∀ g, Ext h g -> ∀ x y : EV, NumS 1074 g x.ng x.p x.n x.e x.v -> NumS 1074 g y.ng y.p y.n y.e y.v -> LH a c x y -> F1039_o273 B R (some ⟨r1, 0, none⟩) (some ⟨r2, 0, none⟩) x.i x.ng x.p x.n x.c x.e y.i y.ng y.p y.n y.c y.e b2 o2 b1 o1 g := by
  intro g fg x y Nx Ny hQ
  have sg := fg.size
  refine ⟨?_, ?_⟩
  ·exact alK fun rA g' eq f' oA' z => ⟨(by first | exact w1 fg f' | exact w2 fg f'), (by first | exact w1 fg f' | exact w2 fg f'), s1 g' (Ext.trans fg f') rA (by omega) oA' x y (Nx.ext f') (Ny.ext f') hQ⟩
  ·exact alK fun rB g' eq f' oB' z => ⟨(by first | exact w1 fg f' | exact w2 fg f'), (by first | exact w1 fg f' | exact w2 fg f'), s2 g' (Ext.trans fg f') rB (by omega) oB' x y (Nx.ext f') (Ny.ext f') hQ⟩
 have s4 : ∀ g, Ext h g -> ∀ rA, h.size <= rA -> Own g rA Z4 -> ∀ rB, h.size <= rB -> Own g rB Z4 -> rA ≠ rB -> ∀ ng1 p1 n1 c1 e1, NumS 1074 g ng1 p1 n1 e1 (fW a) -> ∀ ng2 p2 n2 c2 e2, NumS 1074 g ng2 p2 n2 e2 (fW c) -> ∀ ql, Own g ql #[.int .i64 (ofI a), .bool ng1, .slice p1 n1 c1, .int .i64 e1, .int .i64 (ofI c), .bool ng2, .slice p2 n2 c2, .int .i64 e2] -> F1039_o422 B R (some ⟨r1, 0, none⟩) (some ⟨r2, 0, none⟩) (some ⟨rA, 0, none⟩) (some ⟨rB, 0, none⟩) (some ⟨ql, 0, none⟩) 2 2 g := by
  intro g fg rA lA oA rB lB oB dAB ng1 p1 n1 c1 e1 N1 ng2 p2 n2 c2 e2 N2 ql oL
  have tA := oA.lt
  have tB := oB.lt
  have sg := fg.size
  exact outer2 oL N1 N2 fun x y g' f' Nx' Ny' hQ' => ⟨_, _, _, _, _, _, _, _, _, _, _, _, rfl, fin g' (Ext.trans fg f') rA lA (oA.ext f') rB lB (oB.ext f') dAB x y Nx' Ny' hQ'⟩
 have s5 : ∀ g, Ext h g -> ∀ rA, h.size <= rA -> Own g rA Z4 -> ∀ ng1 p1 n1 c1 e1, NumS 1074 g ng1 p1 n1 e1 (fW a) -> ∀ ng2 p2 n2 c2 e2, NumS 1074 g ng2 p2 n2 e2 (fW c) -> ∀ ql, Own g ql #[.int .i64 (ofI a), .bool ng1, .slice p1 n1 c1, .int .i64 e1, .int .i64 (ofI c), .bool ng2, .slice p2 n2 c2, .int .i64 e2] -> F1039_o398 B R (some ⟨r1, 0, none⟩) (some ⟨r2, 0, none⟩) (some ⟨rA, 0, none⟩) (some ⟨ql, 0, none⟩) 2 2 b2 o2 b1 o1 g := by
  intro g fg rA lA oA ng1 p1 n1 c1 e1 N1 ng2 p2 n2 c2 e2 N2 ql oL
  have tA := oA.lt
  have sg := fg.size
  refine ⟨?_, ?_⟩
  ·exact outer2 oL N1 N2 fun x y g' f' Nx' Ny' hQ' => ⟨_, _, _, _, _, _, _, _, _, _, _, _, rfl, s1 g' (Ext.trans fg f') rA lA (oA.ext f') x y Nx' Ny' hQ'⟩
  ·exact alK fun rB g' eq f' oB' z => ⟨(by first | exact w1 fg f' | exact w2 fg f'), (by first | exact w1 fg f' | exact w2 fg f'), s4 g' (Ext.trans fg f') rA lA (oA.ext f') rB (by omega) oB' (by omega) ng1 p1 n1 c1 e1 (N1.ext f') ng2 p2 n2 c2 e2 (N2.ext f') ql (oL.ext f')⟩
 have s6 : ∀ g, Ext h g -> ∀ rB, h.size <= rB -> Own g rB Z4 -> ∀ ng1 p1 n1 c1 e1, NumS 1074 g ng1 p1 n1 e1 (fW a) -> ∀ ng2 p2 n2 c2 e2, NumS 1074 g ng2 p2 n2 e2 (fW c) -> ∀ ql, Own g ql #[.int .i64 (ofI a), .bool ng1, .slice p1 n1 c1, .int .i64 e1, .int .i64 (ofI c), .bool ng2, .slice p2 n2 c2, .int .i64 e2] -> F1039_o443 B R (some ⟨r1, 0, none⟩) (some ⟨r2, 0, none⟩) (some ⟨rB, 0, none⟩) (some ⟨ql, 0, none⟩) 2 2 b2 o2 b1 o1 g := by
  intro g fg rB lB oB ng1 p1 n1 c1 e1 N1 ng2 p2 n2 c2 e2 N2 ql oL
  have tB := oB.lt
  have sg := fg.size
  refine ⟨?_, ?_⟩
  ·exact outer2 oL N1 N2 fun x y g' f' Nx' Ny' hQ' => ⟨_, _, _, _, _, _, _, _, _, _, _, _, rfl, s2 g' (Ext.trans fg f') rB lB (oB.ext f') x y Nx' Ny' hQ'⟩
  ·exact alK fun rA g' eq f' oA' z => ⟨(by first | exact w1 fg f' | exact w2 fg f'), (by first | exact w1 fg f' | exact w2 fg f'), s4 g' (Ext.trans fg f') rA (by omega) oA' rB lB (oB.ext f') (by omega) ng1 p1 n1 c1 e1 (N1.ext f') ng2 p2 n2 c2 e2 (N2.ext f') ql (oL.ext f')⟩
 have s7 : ∀ g, Ext h g -> ∀ ng1 p1 n1 c1 e1, NumS 1074 g ng1 p1 n1 e1 (fW a) -> ∀ ng2 p2 n2 c2 e2, NumS 1074 g ng2 p2 n2 e2 (fW c) -> ∀ ql, Own g ql #[.int .i64 (ofI a), .bool ng1, .slice p1 n1 c1, .int .i64 e1, .int .i64 (ofI c), .bool ng2, .slice p2 n2 c2, .int .i64 e2] -> F1039_o252 B R (some ⟨r1, 0, none⟩) (some ⟨r2, 0, none⟩) (some ⟨ql, 0, none⟩) 2 2 b2 o2 b1 o1 g := by
  intro g fg ng1 p1 n1 c1 e1 N1 ng2 p2 n2 c2 e2 N2 ql oL
  have sg := fg.size
  refine ⟨?_, ?_, ?_⟩
  ·exact outer2 oL N1 N2 fun x y g' f' Nx' Ny' hQ' => ⟨_, _, _, _, _, _, _, _, _, _, _, _, rfl, s3 g' (Ext.trans fg f') x y Nx' Ny' hQ'⟩
  ·exact alK fun rA g' eq f' oA' z => ⟨(by first | exact w1 fg f' | exact w2 fg f'), (by first | exact w1 fg f' | exact w2 fg f'), s5 g' (Ext.trans fg f') rA (by omega) oA' ng1 p1 n1 c1 e1 (N1.ext f') ng2 p2 n2 c2 e2 (N2.ext f') ql (oL.ext f')⟩
  ·exact alK fun rB g' eq f' oB' z => ⟨(by first | exact w1 fg f' | exact w2 fg f'), (by first | exact w1 fg f' | exact w2 fg f'), s6 g' (Ext.trans fg f') rB (by omega) oB' ng1 p1 n1 c1 e1 (N1.ext f') ng2 p2 n2 c2 e2 (N2.ext f') ql (oL.ext f')⟩
 have s8 : ∀ g, Ext h g -> ∀ rA, h.size <= rA -> Own g rA Z4 -> ∀ rB, h.size <= rB -> Own g rB Z4 -> rA ≠ rB -> ∀ ng1 p1 n1 c1 e1, NumS 1074 g ng1 p1 n1 e1 (fW a) -> ∀ ng2 p2 n2 c2 e2, NumS 1074 g ng2 p2 n2 e2 (fW c) -> F1039_o490 B R (some ⟨r1, 0, none⟩) (some ⟨r2, 0, none⟩) (some ⟨rA, 0, none⟩) (some ⟨rB, 0, none⟩) (ofI a) ng1 p1 n1 c1 e1 (ofI c) ng2 p2 n2 c2 e2 g := by
  intro g fg rA lA oA rB lB oB dAB ng1 p1 n1 c1 e1 N1 ng2 p2 n2 c2 e2 N2
  have tA := oA.lt
  have tB := oB.lt
  have sg := fg.size
  exact alK fun ql g' eq f' oL' z => s4 g' (Ext.trans fg f') rA lA (oA.ext f') rB lB (oB.ext f') dAB ng1 p1 n1 c1 e1 (N1.ext f') ng2 p2 n2 c2 e2 (N2.ext f') ql oL'
 have s9 : ∀ g, Ext h g -> ∀ rA, h.size <= rA -> Own g rA Z4 -> ∀ ng1 p1 n1 c1 e1, NumS 1074 g ng1 p1 n1 e1 (fW a) -> ∀ ng2 p2 n2 c2 e2, NumS 1074 g ng2 p2 n2 e2 (fW c) -> F1039_o469 B R (some ⟨r1, 0, none⟩) (some ⟨r2, 0, none⟩) (some ⟨rA, 0, none⟩) (ofI a) ng1 p1 n1 c1 e1 (ofI c) ng2 p2 n2 c2 e2 b2 o2 b1 o1 g := by
  intro g fg rA lA oA ng1 p1 n1 c1 e1 N1 ng2 p2 n2 c2 e2 N2
  have tA := oA.lt
  have sg := fg.size
  refine ⟨?_, ?_⟩
  ·exact alK fun ql g' eq f' oL' z => s5 g' (Ext.trans fg f') rA lA (oA.ext f') ng1 p1 n1 c1 e1 (N1.ext f') ng2 p2 n2 c2 e2 (N2.ext f') ql oL'
  ·exact alK fun rB g' eq f' oB' z => ⟨(by first | exact w1 fg f' | exact w2 fg f'), (by first | exact w1 fg f' | exact w2 fg f'), s8 g' (Ext.trans fg f') rA lA (oA.ext f') rB (by omega) oB' (by omega) ng1 p1 n1 c1 e1 (N1.ext f') ng2 p2 n2 c2 e2 (N2.ext f')⟩
 have s10 : ∀ g, Ext h g -> ∀ rB, h.size <= rB -> Own g rB Z4 -> ∀ ng1 p1 n1 c1 e1, NumS 1074 g ng1 p1 n1 e1 (fW a) -> ∀ ng2 p2 n2 c2 e2, NumS 1074 g ng2 p2 n2 e2 (fW c) -> F1039_o508 B R (some ⟨r1, 0, none⟩) (some ⟨r2, 0, none⟩) (some ⟨rB, 0, none⟩) (ofI a) ng1 p1 n1 c1 e1 (ofI c) ng2 p2 n2 c2 e2 b2 o2 b1 o1 g := by
  intro g fg rB lB oB ng1 p1 n1 c1 e1 N1 ng2 p2 n2 c2 e2 N2
  have tB := oB.lt
  have sg := fg.size
  refine ⟨?_, ?_⟩
  ·exact alK fun ql g' eq f' oL' z => s6 g' (Ext.trans fg f') rB lB (oB.ext f') ng1 p1 n1 c1 e1 (N1.ext f') ng2 p2 n2 c2 e2 (N2.ext f') ql oL'
  ·exact alK fun rA g' eq f' oA' z => ⟨(by first | exact w1 fg f' | exact w2 fg f'), (by first | exact w1 fg f' | exact w2 fg f'), s8 g' (Ext.trans fg f') rA (by omega) oA' rB lB (oB.ext f') (by omega) ng1 p1 n1 c1 e1 (N1.ext f') ng2 p2 n2 c2 e2 (N2.ext f')⟩
 have s11 : ∀ g, Ext h g -> ∀ ng1 p1 n1 c1 e1, NumS 1074 g ng1 p1 n1 e1 (fW a) -> ∀ ng2 p2 n2 c2 e2, NumS 1074 g ng2 p2 n2 e2 (fW c) -> F1039_o234 B R (some ⟨r1, 0, none⟩) (some ⟨r2, 0, none⟩) (ofI a) ng1 p1 n1 c1 e1 (ofI c) ng2 p2 n2 c2 e2 b2 o2 b1 o1 g := by
  intro g fg ng1 p1 n1 c1 e1 N1 ng2 p2 n2 c2 e2 N2
  have sg := fg.size
  refine ⟨?_, ?_, ?_⟩
  ·exact alK fun ql g' eq f' oL' z => s7 g' (Ext.trans fg f') ng1 p1 n1 c1 e1 (N1.ext f') ng2 p2 n2 c2 e2 (N2.ext f') ql oL'
  ·exact alK fun rA g' eq f' oA' z => ⟨(by first | exact w1 fg f' | exact w2 fg f'), (by first | exact w1 fg f' | exact w2 fg f'), s9 g' (Ext.trans fg f') rA (by omega) oA' ng1 p1 n1 c1 e1 (N1.ext f') ng2 p2 n2 c2 e2 (N2.ext f')⟩
  ·exact alK fun rB g' eq f' oB' z => ⟨(by first | exact w1 fg f' | exact w2 fg f'), (by first | exact w1 fg f' | exact w2 fg f'), s10 g' (Ext.trans fg f') rB (by omega) oB' ng1 p1 n1 c1 e1 (N1.ext f') ng2 p2 n2 c2 e2 (N2.ext f')⟩
 have s12 : ∀ g, Ext h g -> ∀ rA, h.size <= rA -> Own g rA Z4 -> ∀ rB, h.size <= rB -> Own g rB Z4 -> rA ≠ rB -> ∀ ng1 p1 n1 c1 e1, NumS 1074 g ng1 p1 n1 e1 (fW a) -> F1039_o555 B R (some ⟨r1, 0, none⟩) (some ⟨r2, 0, none⟩) (some ⟨rA, 0, none⟩) (some ⟨rB, 0, none⟩) (ofI a) ng1 p1 n1 c1 e1 c g := by
  intro g fg rA lA oA rB lB oB dAB ng1 p1 n1 c1 e1 N1
  have tA := oA.lt
  have tB := oB.lt
  have sg := fg.size
  exact K1060 ic nc fun ng2 p2 n2 c2 e2 g' f' N2' => ⟨_, _, _, _, _, _, rfl, s8 g' (Ext.trans fg f') rA lA (oA.ext f') rB lB (oB.ext f') dAB ng1 p1 n1 c1 e1 (N1.ext f') ng2 p2 n2 c2 e2 N2'⟩
 have s13 : ∀ g, Ext h g -> ∀ rA, h.size <= rA -> Own g rA Z4 -> ∀ ng1 p1 n1 c1 e1, NumS 1074 g ng1 p1 n1 e1 (fW a) -> F1039_o531 B R (some ⟨r1, 0, none⟩) (some ⟨r2, 0, none⟩) (some ⟨rA, 0, none⟩) (ofI a) ng1 p1 n1 c1 e1 c b2 o2 b1 o1 g := by
  intro g fg rA lA oA ng1 p1 n1 c1 e1 N1
  have tA := oA.lt
  have sg := fg.size
  refine ⟨?_, ?_⟩
  ·exact K1060 ic nc fun ng2 p2 n2 c2 e2 g' f' N2' => ⟨_, _, _, _, _, _, rfl, s9 g' (Ext.trans fg f') rA lA (oA.ext f') ng1 p1 n1 c1 e1 (N1.ext f') ng2 p2 n2 c2 e2 N2'⟩
  ·exact alK fun rB g' eq f' oB' z => ⟨(by first | exact w1 fg f' | exact w2 fg f'), (by first | exact w1 fg f' | exact w2 fg f'), s12 g' (Ext.trans fg f') rA lA (oA.ext f') rB (by omega) oB' (by omega) ng1 p1 n1 c1 e1 (N1.ext f')⟩
 have s14 : ∀ g, Ext h g -> ∀ rB, h.size <= rB -> Own g rB Z4 -> ∀ ng1 p1 n1 c1 e1, NumS 1074 g ng1 p1 n1 e1 (fW a) -> F1039_o576 B R (some ⟨r1, 0, none⟩) (some ⟨r2, 0, none⟩) (some ⟨rB, 0, none⟩) (ofI a) ng1 p1 n1 c1 e1 c b2 o2 b1 o1 g := by
  intro g fg rB lB oB ng1 p1 n1 c1 e1 N1
  have tB := oB.lt
  have sg := fg.size
  refine ⟨?_, ?_⟩
  ·exact K1060 ic nc fun ng2 p2 n2 c2 e2 g' f' N2' => ⟨_, _, _, _, _, _, rfl, s10 g' (Ext.trans fg f') rB lB (oB.ext f') ng1 p1 n1 c1 e1 (N1.ext f') ng2 p2 n2 c2 e2 N2'⟩
  ·exact alK fun rA g' eq f' oA' z => ⟨(by first | exact w1 fg f' | exact w2 fg f'), (by first | exact w1 fg f' | exact w2 fg f'), s12 g' (Ext.trans fg f') rA (by omega) oA' rB lB (oB.ext f') (by omega) ng1 p1 n1 c1 e1 (N1.ext f')⟩
 have s15 : ∀ g, Ext h g -> ∀ ng1 p1 n1 c1 e1, NumS 1074 g ng1 p1 n1 e1 (fW a) -> F1039_o213 B R (some ⟨r1, 0, none⟩) (some ⟨r2, 0, none⟩) (ofI a) ng1 p1 n1 c1 e1 c b2 o2 b1 o1 g := by
  intro g fg ng1 p1 n1 c1 e1 N1
  have sg := fg.size
  refine ⟨?_, ?_, ?_⟩
  ·exact K1060 ic nc fun ng2 p2 n2 c2 e2 g' f' N2' => ⟨_, _, _, _, _, _, rfl, s11 g' (Ext.trans fg f') ng1 p1 n1 c1 e1 (N1.ext f') ng2 p2 n2 c2 e2 N2'⟩
  ·exact alK fun rA g' eq f' oA' z => ⟨(by first | exact w1 fg f' | exact w2 fg f'), (by first | exact w1 fg f' | exact w2 fg f'), s13 g' (Ext.trans fg f') rA (by omega) oA' ng1 p1 n1 c1 e1 (N1.ext f')⟩
  ·exact alK fun rB g' eq f' oB' z => ⟨(by first | exact w1 fg f' | exact w2 fg f'), (by first | exact w1 fg f' | exact w2 fg f'), s14 g' (Ext.trans fg f') rB (by omega) oB' ng1 p1 n1 c1 e1 (N1.ext f')⟩
 have s16 : ∀ g, Ext h g -> ∀ rA, h.size <= rA -> Own g rA Z4 -> ∀ rB, h.size <= rB -> Own g rB Z4 -> rA ≠ rB -> F1039_o623 B R (some ⟨r1, 0, none⟩) (some ⟨r2, 0, none⟩) (some ⟨rA, 0, none⟩) (some ⟨rB, 0, none⟩) a c b2 o2 g := by
  intro g fg rA lA oA rB lB oB dAB
  have tA := oA.lt
  have tB := oB.lt
  have sg := fg.size
  exact K1060 ia na fun ng1 p1 n1 c1 e1 g' f' N1' => ⟨_, _, _, _, _, _, rfl, (by first | exact w1 fg f' | exact w2 fg f'), s12 g' (Ext.trans fg f') rA lA (oA.ext f') rB lB (oB.ext f') dAB ng1 p1 n1 c1 e1 N1'⟩
 have s17 : ∀ g, Ext h g -> ∀ rA, h.size <= rA -> Own g rA Z4 -> F1039_o602 B R (some ⟨r1, 0, none⟩) (some ⟨r2, 0, none⟩) (some ⟨rA, 0, none⟩) a c b2 o2 b1 o1 g := by
  intro g fg rA lA oA
  have tA := oA.lt
  have sg := fg.size
  refine ⟨?_, ?_⟩
  ·exact K1060 ia na fun ng1 p1 n1 c1 e1 g' f' N1' => ⟨_, _, _, _, _, _, rfl, (by first | exact w1 fg f' | exact w2 fg f'), s13 g' (Ext.trans fg f') rA lA (oA.ext f') ng1 p1 n1 c1 e1 N1'⟩
  ·exact alK fun rB g' eq f' oB' z => ⟨(by first | exact w1 fg f' | exact w2 fg f'), (by first | exact w1 fg f' | exact w2 fg f'), s16 g' (Ext.trans fg f') rA lA (oA.ext f') rB (by omega) oB' (by omega)⟩
 have s18 : ∀ g, Ext h g -> ∀ rB, h.size <= rB -> Own g rB Z4 -> F1039_o643 B R (some ⟨r1, 0, none⟩) (some ⟨r2, 0, none⟩) (some ⟨rB, 0, none⟩) a c b2 o2 b1 o1 g := by
  intro g fg rB lB oB
  have tB := oB.lt
  have sg := fg.size
  refine ⟨?_, ?_⟩
  ·exact K1060 ia na fun ng1 p1 n1 c1 e1 g' f' N1' => ⟨_, _, _, _, _, _, rfl, (by first | exact w1 fg f' | exact w2 fg f'), s14 g' (Ext.trans fg f') rB lB (oB.ext f') ng1 p1 n1 c1 e1 N1'⟩
  ·exact alK fun rA g' eq f' oA' z => ⟨(by first | exact w1 fg f' | exact w2 fg f'), (by first | exact w1 fg f' | exact w2 fg f'), s16 g' (Ext.trans fg f') rA (by omega) oA' rB lB (oB.ext f') (by omega)⟩
 have s19 : ∀ g, Ext h g -> F1039_o195 B R (some ⟨r1, 0, none⟩) (some ⟨r2, 0, none⟩) a c b2 o2 b1 o1 g := by
  intro g fg
  have sg := fg.size
  refine ⟨?_, ?_, ?_⟩
  ·exact K1060 ia na fun ng1 p1 n1 c1 e1 g' f' N1' => ⟨_, _, _, _, _, _, rfl, (by first | exact w1 fg f' | exact w2 fg f'), s15 g' (Ext.trans fg f') ng1 p1 n1 c1 e1 N1'⟩
  ·exact alK fun rA g' eq f' oA' z => ⟨(by first | exact w1 fg f' | exact w2 fg f'), (by first | exact w1 fg f' | exact w2 fg f'), s17 g' (Ext.trans fg f') rA (by omega) oA'⟩
  ·exact alK fun rB g' eq f' oB' z => ⟨(by first | exact w1 fg f' | exact w2 fg f'), (by first | exact w1 fg f' | exact w2 fg f'), s18 g' (Ext.trans fg f') rB (by omega) oB'⟩
 exact s19 h Fr.rfl'
end Go.Proofs
