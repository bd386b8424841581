import Derived.Test.YteailhnlphhfdaaGreatFmtA03
/- Here stand lemmas: what further functions come to (written by program). -/
set_option linter.unusedVariables false
namespace Go.Proofs
open Go Go.Eng
/-- plumb/dyadic.Sub -/
def F44_j64 (B : World) (R : Po) (a0 b0 c0 : OA) (d0 e0 : Nat) (f0 : OA) (g0 : Heap) : Prop :=
 Ec B 36 #[.slice c0 d0 e0] (retE (fun i0 j0 => ∃ k0 l0, i0 = .agg #[.pointer k0, .int .i64 l0] ∧
 Ec B 35 #[.agg #[.pointer k0, .int .i64 l0]] (retE (fun m0 n0 => ∃ o0 p0 q0 r0 s0, m0 = .agg #[.bool o0, .slice p0 q0 r0, .int .i64 s0] ∧
 isP a0 fun t0 u0 => stC n0 t0 u0 (.bool o0) fun v0 =>
 stC v0 t0 (u0 + 1) (.slice p0 q0 r0) fun w0 =>
 stC w0 t0 (u0 + 1 + 1) (.int .i64 s0) fun x0 =>
 isP b0 fun y0 z0 => stC x0 y0 z0 (.int .i64 (0 : Int)) fun a1 =>
 Enters Tryz.prog 30 ∧ FnD Tryz.prog B 30 #[.pointer f0] .returning (dfE fun b1 c1 => lvW (fun d1 => isP a0 fun e1 f1 =>
∃ g1, cell? d1 ⟨e1, f1, none⟩ = some (.bool g1) ∧
∃ i1 j1 k1, cell? d1 ⟨e1, f1 + 1, none⟩ = some (.slice i1 j1 k1) ∧
∃ l1, cell? d1 ⟨e1, f1 + 1 + 1, none⟩ = some (.int .i64 l1) ∧
 isP b0 fun m1 n1 => ∃ o1, cI d1 m1 n1 .i64 o1 ∧
 R (.returned (.tuple #[.agg #[.bool g1, .slice i1 j1 k1, .int .i64 l1], .int .i64 o1])) d1) (pk R) b1 c1) a1)
(fun p1 q1 => Enters Tryz.prog 30 ∧ FnD Tryz.prog B 30 #[.pointer f0] (.panicking p1) (dfE fun r1 s1 => lvW (fun t1 => isP a0 fun u1 v1 =>
∃ w1, cell? t1 ⟨u1, v1, none⟩ = some (.bool w1) ∧
∃ x1 y1 z1, cell? t1 ⟨u1, v1 + 1, none⟩ = some (.slice x1 y1 z1) ∧
∃ a2, cell? t1 ⟨u1, v1 + 1 + 1, none⟩ = some (.int .i64 a2) ∧
 isP b0 fun b2 c2 => ∃ d2, cI t1 b2 c2 .i64 d2 ∧
 R (.returned (.tuple #[.agg #[.bool w1, .slice x1 y1 z1, .int .i64 a2], .int .i64 d2])) t1) (pk R) r1 s1) q1)) j0)
(fun e2 f2 => Enters Tryz.prog 30 ∧ FnD Tryz.prog B 30 #[.pointer f0] (.panicking e2) (dfE fun g2 i2 => lvW (fun j2 => isP a0 fun k2 l2 =>
∃ m2, cell? j2 ⟨k2, l2, none⟩ = some (.bool m2) ∧
∃ n2 o2 p2, cell? j2 ⟨k2, l2 + 1, none⟩ = some (.slice n2 o2 p2) ∧
∃ q2, cell? j2 ⟨k2, l2 + 1 + 1, none⟩ = some (.int .i64 q2) ∧
 isP b0 fun r2 s2 => ∃ t2, cI j2 r2 s2 .i64 t2 ∧
 R (.returned (.tuple #[.agg #[.bool m2, .slice n2 o2 p2, .int .i64 q2], .int .i64 t2])) j2) (pk R) g2 i2) f2)) g0
def F44 (B : World) (R : Po) (u2 : Bool) (v2 : OA) (w2 x2 : Nat) (y2 : Int) (z2 : Bool) (a3 : OA) (b3 c3 : Nat) (d3 : Int) (h : Heap) : Prop :=
 alW h (.cells #[.bool u2, .slice v2 w2 x2, .int .i64 y2] 24) fun e3 f3 =>
 alW f3 (.cells #[.bool z2, .slice a3 b3 c3, .int .i64 d3] 24) fun g3 i3 =>
 alW i3 (.cells #[.bool false, .slice none 0 0, .int .i64 0] 24) fun j3 k3 =>
 alW k3 (.cells #[.int .i64 0] 26) fun l3 m3 =>
 iP e3 0 fun n3 o3 =>
∃ p3, cell? m3 ⟨n3, o3, none⟩ = some (.bool p3) ∧
∃ q3 r3 s3, cell? m3 ⟨n3, o3 + 1, none⟩ = some (.slice q3 r3 s3) ∧
∃ t3, cell? m3 ⟨n3, o3 + 1 + 1, none⟩ = some (.int .i64 t3) ∧
 iP g3 0 fun u3 v3 =>
∃ w3, cell? m3 ⟨u3, v3, none⟩ = some (.bool w3) ∧
∃ x3 y3 z3, cell? m3 ⟨u3, v3 + 1, none⟩ = some (.slice x3 y3 z3) ∧
∃ a4, cell? m3 ⟨u3, v3 + 1 + 1, none⟩ = some (.int .i64 a4) ∧
 alW m3 (.cells #[.bool p3, .slice q3 r3 s3, .int .i64 t3, .bool w3, .slice x3 y3 z3, .int .i64 a4] 24) fun b4 c4 =>
 Ec B 33 #[.slice (some ⟨b4, 0, none⟩) 2 2] (retE (fun d4 e4 => ∃ f4 g4 i4, d4 = .slice f4 g4 i4 ∧
 ixW f4 g4 (1 : Int) 2 fun j4 k4 =>
 iP j4 k4 fun l4 m4 =>
 iP l4 m4 fun n4 o4 => ∃ p4, cell? e4 ⟨n4, o4, none⟩ = some (.pointer p4) ∧
 ixW f4 g4 (1 : Int) 2 fun q4 r4 =>
 iP q4 r4 fun s4 t4 =>
 iP s4 t4 fun u4 v4 => ∃ w4, cell? e4 ⟨u4, v4, none⟩ = some (.pointer w4) ∧
 Ec B 34 #[.pointer p4, .pointer w4] (retE (fun x4 y4 => ∃ z4, x4 = .pointer z4 ∧
 F44_j64 B R (some ⟨j3, 0, none⟩) (some ⟨l3, 0, none⟩) f4 g4 i4 (some ⟨l3, 0, none⟩) y4)
(fun _ _ => False)) e4)
(fun a5 b5 => Enters Tryz.prog 30 ∧ FnD Tryz.prog B 30 #[.pointer (some ⟨l3, 0, none⟩)] (.panicking a5) (dfE fun c5 d5 => lvW (fun e5 => iP j3 0 fun f5 g5 =>
∃ i5, cell? e5 ⟨f5, g5, none⟩ = some (.bool i5) ∧
∃ j5 k5 l5, cell? e5 ⟨f5, g5 + 1, none⟩ = some (.slice j5 k5 l5) ∧
∃ m5, cell? e5 ⟨f5, g5 + 1 + 1, none⟩ = some (.int .i64 m5) ∧
 iP l3 0 fun n5 o5 => ∃ p5, cI e5 n5 o5 .i64 p5 ∧
 R (.returned (.tuple #[.agg #[.bool i5, .slice j5 k5 l5, .int .i64 m5], .int .i64 p5])) e5) (pk R) c5 d5) b5)) c4
def F44_L : Nat → List (Nat × TypeDesc) := fun _ => []
theorem F44_ok {B : World} {R : Ending → Heap → Prop} (u2 : Bool) (v2 : OA) (w2 x2 : Nat) (y2 : Int) (z2 : Bool) (a3 : OA) (b3 c3 : Nat) (d3 : Int) {h : Heap} (H : F44 B R u2 v2 w2 x2 y2 z2 a3 b3 c3 d3 h) : Ec B 13 #[.agg #[.bool u2, .slice v2 w2 x2, .int .i64 y2], .agg #[.bool z2, .slice a3 b3 c3, .int .i64 d3]] R h :=
 Ed Tryz.func13 (by kernel_rfl) (by kernel_rfl) (by kernel_rfl) F44_L [] (by kernel_rfl) H
end Go.Proofs
