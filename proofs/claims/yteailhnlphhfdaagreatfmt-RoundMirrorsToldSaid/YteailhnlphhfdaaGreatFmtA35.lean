import Derived.Test.YteailhnlphhfdaaGreatFmtA03
/- Here stand lemmas: what further functions come to (written by program). -/
set_option linter.unusedVariables false
namespace Go.Proofs
open Go Go.Eng
/-- plumb/dyadic.Neg -/
def F1025_j54 (B : World) (R : Po) (a0 b0 c0 : OA) (d0 e0 : Nat) (f0 : OA) (g0 : Heap) : Prop :=
 ixW c0 d0 (0 : Int) 2 fun i0 j0 =>
 iP i0 j0 fun k0 l0 =>
∃ m0, cell? g0 ⟨k0, l0, none⟩ = some (.pointer m0) ∧
∃ n0, cell? g0 ⟨k0, l0 + 1, none⟩ = some (.int .i64 n0) ∧
 Ec B 35 #[.agg #[.pointer m0, .int .i64 n0]] (retE (fun o0 p0 => ∃ q0 r0 s0 t0 u0, o0 = .agg #[.bool q0, .slice r0 s0 t0, .int .i64 u0] ∧
 isP a0 fun v0 w0 => stC p0 v0 w0 (.bool q0) fun x0 =>
 stC x0 v0 (w0 + 1) (.slice r0 s0 t0) fun y0 =>
 stC y0 v0 (w0 + 1 + 1) (.int .i64 u0) fun z0 =>
 isP b0 fun a1 b1 => stC z0 a1 b1 (.int .i64 (0 : Int)) fun c1 =>
 Enters Tryz.prog 30 ∧ FnD Tryz.prog B 30 #[.pointer f0] .returning (dfE fun d1 e1 => lvW (fun f1 => isP a0 fun g1 i1 =>
∃ j1, cell? f1 ⟨g1, i1, none⟩ = some (.bool j1) ∧
∃ k1 l1 m1, cell? f1 ⟨g1, i1 + 1, none⟩ = some (.slice k1 l1 m1) ∧
∃ n1, cell? f1 ⟨g1, i1 + 1 + 1, none⟩ = some (.int .i64 n1) ∧
 isP b0 fun o1 p1 => ∃ q1, cI f1 o1 p1 .i64 q1 ∧
 R (.returned (.tuple #[.agg #[.bool j1, .slice k1 l1 m1, .int .i64 n1], .int .i64 q1])) f1) (pk R) d1 e1) c1)
(fun r1 s1 => Enters Tryz.prog 30 ∧ FnD Tryz.prog B 30 #[.pointer f0] (.panicking r1) (dfE fun t1 u1 => lvW (fun v1 => isP a0 fun w1 x1 =>
∃ y1, cell? v1 ⟨w1, x1, none⟩ = some (.bool y1) ∧
∃ z1 a2 b2, cell? v1 ⟨w1, x1 + 1, none⟩ = some (.slice z1 a2 b2) ∧
∃ c2, cell? v1 ⟨w1, x1 + 1 + 1, none⟩ = some (.int .i64 c2) ∧
 isP b0 fun d2 e2 => ∃ f2, cI v1 d2 e2 .i64 f2 ∧
 R (.returned (.tuple #[.agg #[.bool y1, .slice z1 a2 b2, .int .i64 c2], .int .i64 f2])) v1) (pk R) t1 u1) s1)) g0
def F1025 (B : World) (R : Po) (g2 : Bool) (i2 : OA) (j2 k2 : Nat) (l2 : Int) (h : Heap) : Prop :=
 alW h (.cells #[.bool g2, .slice i2 j2 k2, .int .i64 l2] 24) fun m2 n2 =>
 alW n2 (.cells #[.bool false, .slice none 0 0, .int .i64 0] 24) fun o2 p2 =>
 alW p2 (.cells #[.int .i64 0] 26) fun q2 r2 =>
 iP m2 0 fun s2 t2 =>
∃ u2, cell? r2 ⟨s2, t2, none⟩ = some (.bool u2) ∧
∃ v2 w2 x2, cell? r2 ⟨s2, t2 + 1, none⟩ = some (.slice v2 w2 x2) ∧
∃ y2, cell? r2 ⟨s2, t2 + 1 + 1, none⟩ = some (.int .i64 y2) ∧
 alW r2 (.cells #[.bool u2, .slice v2 w2 x2, .int .i64 y2] 24) fun z2 a3 =>
 Ec B 33 #[.slice (some ⟨z2, 0, none⟩) 1 1] (retE (fun b3 c3 => ∃ d3 e3 f3, b3 = .slice d3 e3 f3 ∧
 ixW d3 e3 (0 : Int) 2 fun g3 i3 =>
 iP g3 i3 fun j3 k3 =>
 iP j3 k3 fun l3 m3 => ∃ n3, cell? c3 ⟨l3, m3, none⟩ = some (.pointer n3) ∧
 ixW d3 e3 (0 : Int) 2 fun o3 p3 =>
 iP o3 p3 fun q3 r3 =>
 iP q3 r3 fun s3 t3 => ∃ u3, cell? c3 ⟨s3, t3, none⟩ = some (.pointer u3) ∧
 Ec B 34 #[.pointer n3, .pointer u3] (retE (fun v3 w3 => ∃ x3, v3 = .pointer x3 ∧
 F1025_j54 B R (some ⟨o2, 0, none⟩) (some ⟨q2, 0, none⟩) d3 e3 f3 (some ⟨q2, 0, none⟩) w3)
(fun _ _ => False)) c3)
(fun y3 z3 => Enters Tryz.prog 30 ∧ FnD Tryz.prog B 30 #[.pointer (some ⟨q2, 0, none⟩)] (.panicking y3) (dfE fun a4 b4 => lvW (fun c4 => iP o2 0 fun d4 e4 =>
∃ f4, cell? c4 ⟨d4, e4, none⟩ = some (.bool f4) ∧
∃ g4 i4 j4, cell? c4 ⟨d4, e4 + 1, none⟩ = some (.slice g4 i4 j4) ∧
∃ k4, cell? c4 ⟨d4, e4 + 1 + 1, none⟩ = some (.int .i64 k4) ∧
 iP q2 0 fun l4 m4 => ∃ n4, cI c4 l4 m4 .i64 n4 ∧
 R (.returned (.tuple #[.agg #[.bool f4, .slice g4 i4 j4, .int .i64 k4], .int .i64 n4])) c4) (pk R) a4 b4) z3)) a3
def F1025_L : Nat → List (Nat × TypeDesc) := fun _ => []
theorem F1025_ok {B : World} {R : Ending → Heap → Prop} (g2 : Bool) (i2 : OA) (j2 k2 : Nat) (l2 : Int) {h : Heap} (H : F1025 B R g2 i2 j2 k2 l2 h) : Ec B 15 #[.agg #[.bool g2, .slice i2 j2 k2, .int .i64 l2]] R h :=
 Ed Tryz.func15 (by kernel_rfl) (by kernel_rfl) (by kernel_rfl) F1025_L [] (by kernel_rfl) H
end Go.Proofs
