import Derived.Test.YtkfafikejdhccaaGreatDoorA20
/- Here stand lemmas: what compressing and looking come to (written by program). -/
set_option linter.unusedVariables false
namespace Go.Proofs
open Go Go.Eng
/-- plumb/expansion.Exact -/
def F95 (B : World) (R : Po) (a0 : OA) (b0 c0 : Nat) (h : Heap) : Prop :=
 alW h (.cells #[.bool false, .slice none 0 0, .int .i64 0] 29) fun d0 e0 =>
 alW e0 (.cells #[.slice a0 b0 c0] 27) fun f0 g0 =>
 Ec B 87 #[.slice (some ⟨f0, 0, none⟩) 1 1] (retE (fun i0 j0 => ∃ k0, i0 = .int .i64 k0 ∧
((!decide (k0 = (0 : Int))) = true →
 iP d0 0 fun l0 m0 => stC j0 l0 m0 (.bool false) fun n0 =>
 stC n0 l0 (m0 + 1) (.slice none 0 0) fun o0 =>
 stC o0 l0 (m0 + 1 + 1) (.int .i64 0) fun p0 =>
 iP d0 0 fun q0 r0 =>
∃ s0, cell? p0 ⟨q0, r0, none⟩ = some (.bool s0) ∧
∃ t0 u0 v0, cell? p0 ⟨q0, r0 + 1, none⟩ = some (.slice t0 u0 v0) ∧
∃ w0, cell? p0 ⟨q0, r0 + 1 + 1, none⟩ = some (.int .i64 w0) ∧
 R (.returned (.tuple #[.agg #[.bool s0, .slice t0 u0 v0, .int .i64 w0], .int .i64 k0])) p0) ∧
((!decide (k0 = (0 : Int))) = false →
 0 ≤ (b0 : Int) ∧ (b0 : Int) ≤ (b0 : Int) ∧ 40 * (b0 : Int) ≤ 281474976710656 ∧ (b0 : Int) < 9223372036854775808 ∧
 alW j0 (.cells (mkCells #[.bool false, .slice none 0 0, .int .i64 0] (Int.toNat (b0 : Int) * 3)) 29) fun x0 y0 =>
∃ z0 : Lp, ∃ a1, z0 a1 [.slice a0 b0 c0, .pointer (some ⟨d0, 0, none⟩), .slice (some ⟨x0, 0, none⟩) (Int.toNat (b0 : Int)) (Int.toNat (b0 : Int)), .int .i64 (b0 : Int), .int .i64 (0 : Int)] y0 ∧
∀ (b1 : Nat) (c1 : Heap) (d1 : OA) (e1 f1 : Nat) (g1 i1 : OA) (j1 k1 : Nat) (l1 m1 : Int), z0 b1 [.slice d1 e1 f1, .pointer g1, .slice i1 j1 k1, .int .i64 l1, .int .i64 m1] c1 → ∀ _r : Nat → Value,
((decide (m1 < l1)) = true →
 ixW d1 e1 m1 1 fun n1 o1 =>
 iP n1 o1 fun p1 q1 => ∃ r1, cI c1 p1 q1 .i64 r1 ∧
 Ec B 21 #[.int .i64 r1] (retE (fun s1 t1 => ∃ u1 v1 w1 x1 y1 z1, s1 = .tuple #[.agg #[.bool u1, .slice v1 w1 x1, .int .i64 y1], .int .i64 z1] ∧
 ixW i1 j1 m1 3 fun a2 b2 =>
 iP a2 b2 fun c2 d2 => stC t1 c2 d2 (.bool u1) fun e2 =>
 stC e2 c2 (d2 + 1) (.slice v1 w1 x1) fun f2 =>
 stC f2 c2 (d2 + 1 + 1) (.int .i64 y1) fun g2 =>
∃ i2, i2 < b1 ∧ z0 i2 [.slice d1 e1 f1, .pointer g1, .slice i1 j1 k1, .int .i64 l1, .int .i64 (IntKind.i64.wrap (m1 + (1 : Int)))] g2)
(pk R)) c1) ∧
((decide (m1 < l1)) = false →
 Ec B 119 #[.slice i1 j1 k1] (retE (fun j2 k2 => ∃ l2 m2 n2 o2 p2 q2, j2 = .tuple #[.agg #[.bool l2, .slice m2 n2 o2, .int .i64 p2], .int .i64 q2] ∧
 isP g1 fun r2 s2 => stC k2 r2 s2 (.bool l2) fun t2 =>
 stC t2 r2 (s2 + 1) (.slice m2 n2 o2) fun u2 =>
 stC u2 r2 (s2 + 1 + 1) (.int .i64 p2) fun v2 =>
 isP g1 fun w2 x2 =>
∃ y2, cell? v2 ⟨w2, x2, none⟩ = some (.bool y2) ∧
∃ z2 a3 b3, cell? v2 ⟨w2, x2 + 1, none⟩ = some (.slice z2 a3 b3) ∧
∃ c3, cell? v2 ⟨w2, x2 + 1 + 1, none⟩ = some (.int .i64 c3) ∧
 R (.returned (.tuple #[.agg #[.bool y2, .slice z2 a3 b3, .int .i64 c3], .int .i64 q2])) v2)
(pk R)) c1)))
(pk R)) g0
def F95_L : Nat → List (Nat × TypeDesc) := fun i => match i with
  | 6 => [(0, .slice 0), (2, .pointer 0), (5, .slice 0), (18, .int .i64), (19, .int .i64)]
  | _ => []
theorem F95_ok {B : World} {R : Ending → Heap → Prop} (a0 : OA) (b0 c0 : Nat) {h : Heap} (H : F95 B R a0 b0 c0 h) : Ec B 95 #[.slice a0 b0 c0] R h :=
 Ek Tryz.func95 (by kernel_rfl) (by kernel_rfl) (by kernel_rfl) F95_L [] (by kernel_rfl) H

end Go.Proofs
