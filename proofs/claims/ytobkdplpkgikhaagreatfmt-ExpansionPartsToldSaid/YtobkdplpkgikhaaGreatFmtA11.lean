import Derived.Test.YtobkdplpkgikhaaGreatFmtA09
/- Here stand lemmas and contracts, in the order in which they are used. -/
set_option linter.unusedVariables false
namespace Go.Proofs
open Go Go.Eng
/-- plumb/dyadic.Of -/
def F21 (B : World) (R : Po) (a0 : Int) (h : Heap) : Prop :=
 alW h (.cells #[.bool false, .slice none 0 0, .int .i64 0] 24) fun b0 c0 =>
 alW c0 (.cells #[.int .i64 0] 32) fun d0 e0 =>
 Ec B 24 #[.int .i64 a0] (retE (fun f0 g0 => ∃ i0 j0 k0 l0, f0 = .tuple #[.bool i0, .int .i64 j0, .int .i64 k0, .bool l0] ∧
 Ec B 53 #[.bool i0, .int .i64 j0, .int .i64 k0, .bool l0] (retE (fun m0 n0 => ∃ o0 p0 q0 r0 s0, m0 = .agg #[.bool o0, .slice p0 q0 r0, .int .i64 s0] ∧
 iP b0 0 fun t0 u0 => stC n0 t0 u0 (.bool o0) fun v0 =>
 stC v0 t0 (u0 + 1) (.slice p0 q0 r0) fun w0 =>
 stC w0 t0 (u0 + 1 + 1) (.int .i64 s0) fun x0 =>
 iP d0 0 fun y0 z0 => stC x0 y0 z0 (.int .i64 (0 : Int)) fun a1 =>
 Enters Tryz.prog 52 ∧ FnD Tryz.prog B 52 #[.pointer (some ⟨d0, 0, none⟩)] .returning (dfE fun b1 c1 => lvW (fun d1 => iP b0 0 fun e1 f1 =>
∃ g1, cell? d1 ⟨e1, f1, none⟩ = some (.bool g1) ∧
∃ i1 j1 k1, cell? d1 ⟨e1, f1 + 1, none⟩ = some (.slice i1 j1 k1) ∧
∃ l1, cell? d1 ⟨e1, f1 + 1 + 1, none⟩ = some (.int .i64 l1) ∧
 iP d0 0 fun m1 n1 => ∃ o1, cI d1 m1 n1 .i64 o1 ∧
 R (.returned (.tuple #[.agg #[.bool g1, .slice i1 j1 k1, .int .i64 l1], .int .i64 o1])) d1) (pk R) b1 c1) a1)
(fun p1 q1 => Enters Tryz.prog 52 ∧ FnD Tryz.prog B 52 #[.pointer (some ⟨d0, 0, none⟩)] (.panicking p1) (dfE fun r1 s1 => lvW (fun t1 => iP b0 0 fun u1 v1 =>
∃ w1, cell? t1 ⟨u1, v1, none⟩ = some (.bool w1) ∧
∃ x1 y1 z1, cell? t1 ⟨u1, v1 + 1, none⟩ = some (.slice x1 y1 z1) ∧
∃ a2, cell? t1 ⟨u1, v1 + 1 + 1, none⟩ = some (.int .i64 a2) ∧
 iP d0 0 fun b2 c2 => ∃ d2, cI t1 b2 c2 .i64 d2 ∧
 R (.returned (.tuple #[.agg #[.bool w1, .slice x1 y1 z1, .int .i64 a2], .int .i64 d2])) t1) (pk R) r1 s1) q1)) g0)
(fun e2 f2 => Enters Tryz.prog 52 ∧ FnD Tryz.prog B 52 #[.pointer (some ⟨d0, 0, none⟩)] (.panicking e2) (dfE fun g2 i2 => lvW (fun j2 => iP b0 0 fun k2 l2 =>
∃ m2, cell? j2 ⟨k2, l2, none⟩ = some (.bool m2) ∧
∃ n2 o2 p2, cell? j2 ⟨k2, l2 + 1, none⟩ = some (.slice n2 o2 p2) ∧
∃ q2, cell? j2 ⟨k2, l2 + 1 + 1, none⟩ = some (.int .i64 q2) ∧
 iP d0 0 fun r2 s2 => ∃ t2, cI j2 r2 s2 .i64 t2 ∧
 R (.returned (.tuple #[.agg #[.bool m2, .slice n2 o2 p2, .int .i64 q2], .int .i64 t2])) j2) (pk R) g2 i2) f2)) e0
def F21_L : Nat → List (Nat × TypeDesc) := fun _ => []
theorem F21_ok {B : World} {R : Ending → Heap → Prop} (a0 : Int) {h : Heap} (H : F21 B R a0 h) : Ec B 30 #[.int .i64 a0] R h :=
 Ed Tryz.func30 (by kernel_rfl) (by kernel_rfl) (by kernel_rfl) F21_L [] (by kernel_rfl) H

/-- plumb/dyadic.Add -/
def F22 (B : World) (R : Po) (a0 : Bool) (b0 : OA) (c0 d0 : Nat) (e0 : Int) (f0 : Bool) (g0 : OA) (i0 j0 : Nat) (k0 : Int) (h : Heap) : Prop :=
 alW h (.cells #[.bool a0, .slice b0 c0 d0, .int .i64 e0] 24) fun l0 m0 =>
 alW m0 (.cells #[.bool f0, .slice g0 i0 j0, .int .i64 k0] 24) fun n0 o0 =>
 alW o0 (.cells #[.bool false, .slice none 0 0, .int .i64 0] 24) fun p0 q0 =>
 alW q0 (.cells #[.int .i64 0] 32) fun r0 s0 =>
 iP l0 0 fun t0 u0 =>
∃ v0, cell? s0 ⟨t0, u0, none⟩ = some (.bool v0) ∧
∃ w0 x0 y0, cell? s0 ⟨t0, u0 + 1, none⟩ = some (.slice w0 x0 y0) ∧
∃ z0, cell? s0 ⟨t0, u0 + 1 + 1, none⟩ = some (.int .i64 z0) ∧
 iP n0 0 fun a1 b1 =>
∃ c1, cell? s0 ⟨a1, b1, none⟩ = some (.bool c1) ∧
∃ d1 e1 f1, cell? s0 ⟨a1, b1 + 1, none⟩ = some (.slice d1 e1 f1) ∧
∃ g1, cell? s0 ⟨a1, b1 + 1 + 1, none⟩ = some (.int .i64 g1) ∧
 alW s0 (.cells #[.bool v0, .slice w0 x0 y0, .int .i64 z0, .bool c1, .slice d1 e1 f1, .int .i64 g1] 24) fun i1 j1 =>
 Ec B 54 #[.slice (some ⟨i1, 0, none⟩) 2 2] (retE (fun k1 l1 => ∃ m1 n1 o1, k1 = .slice m1 n1 o1 ∧
 Ec B 57 #[.slice m1 n1 o1] (retE (fun p1 q1 => ∃ r1 s1, p1 = .agg #[.pointer r1, .int .i64 s1] ∧
 Ec B 56 #[.agg #[.pointer r1, .int .i64 s1]] (retE (fun t1 u1 => ∃ v1 w1 x1 y1 z1, t1 = .agg #[.bool v1, .slice w1 x1 y1, .int .i64 z1] ∧
 iP p0 0 fun a2 b2 => stC u1 a2 b2 (.bool v1) fun c2 =>
 stC c2 a2 (b2 + 1) (.slice w1 x1 y1) fun d2 =>
 stC d2 a2 (b2 + 1 + 1) (.int .i64 z1) fun e2 =>
 iP r0 0 fun f2 g2 => stC e2 f2 g2 (.int .i64 (0 : Int)) fun i2 =>
 Enters Tryz.prog 52 ∧ FnD Tryz.prog B 52 #[.pointer (some ⟨r0, 0, none⟩)] .returning (dfE fun j2 k2 => lvW (fun l2 => iP p0 0 fun m2 n2 =>
∃ o2, cell? l2 ⟨m2, n2, none⟩ = some (.bool o2) ∧
∃ p2 q2 r2, cell? l2 ⟨m2, n2 + 1, none⟩ = some (.slice p2 q2 r2) ∧
∃ s2, cell? l2 ⟨m2, n2 + 1 + 1, none⟩ = some (.int .i64 s2) ∧
 iP r0 0 fun t2 u2 => ∃ v2, cI l2 t2 u2 .i64 v2 ∧
 R (.returned (.tuple #[.agg #[.bool o2, .slice p2 q2 r2, .int .i64 s2], .int .i64 v2])) l2) (pk R) j2 k2) i2)
(fun w2 x2 => Enters Tryz.prog 52 ∧ FnD Tryz.prog B 52 #[.pointer (some ⟨r0, 0, none⟩)] (.panicking w2) (dfE fun y2 z2 => lvW (fun a3 => iP p0 0 fun b3 c3 =>
∃ d3, cell? a3 ⟨b3, c3, none⟩ = some (.bool d3) ∧
∃ e3 f3 g3, cell? a3 ⟨b3, c3 + 1, none⟩ = some (.slice e3 f3 g3) ∧
∃ i3, cell? a3 ⟨b3, c3 + 1 + 1, none⟩ = some (.int .i64 i3) ∧
 iP r0 0 fun j3 k3 => ∃ l3, cI a3 j3 k3 .i64 l3 ∧
 R (.returned (.tuple #[.agg #[.bool d3, .slice e3 f3 g3, .int .i64 i3], .int .i64 l3])) a3) (pk R) y2 z2) x2)) q1)
(fun m3 n3 => Enters Tryz.prog 52 ∧ FnD Tryz.prog B 52 #[.pointer (some ⟨r0, 0, none⟩)] (.panicking m3) (dfE fun o3 p3 => lvW (fun q3 => iP p0 0 fun r3 s3 =>
∃ t3, cell? q3 ⟨r3, s3, none⟩ = some (.bool t3) ∧
∃ u3 v3 w3, cell? q3 ⟨r3, s3 + 1, none⟩ = some (.slice u3 v3 w3) ∧
∃ x3, cell? q3 ⟨r3, s3 + 1 + 1, none⟩ = some (.int .i64 x3) ∧
 iP r0 0 fun y3 z3 => ∃ a4, cI q3 y3 z3 .i64 a4 ∧
 R (.returned (.tuple #[.agg #[.bool t3, .slice u3 v3 w3, .int .i64 x3], .int .i64 a4])) q3) (pk R) o3 p3) n3)) l1)
(fun b4 c4 => Enters Tryz.prog 52 ∧ FnD Tryz.prog B 52 #[.pointer (some ⟨r0, 0, none⟩)] (.panicking b4) (dfE fun d4 e4 => lvW (fun f4 => iP p0 0 fun g4 i4 =>
∃ j4, cell? f4 ⟨g4, i4, none⟩ = some (.bool j4) ∧
∃ k4 l4 m4, cell? f4 ⟨g4, i4 + 1, none⟩ = some (.slice k4 l4 m4) ∧
∃ n4, cell? f4 ⟨g4, i4 + 1 + 1, none⟩ = some (.int .i64 n4) ∧
 iP r0 0 fun o4 p4 => ∃ q4, cI f4 o4 p4 .i64 q4 ∧
 R (.returned (.tuple #[.agg #[.bool j4, .slice k4 l4 m4, .int .i64 n4], .int .i64 q4])) f4) (pk R) d4 e4) c4)) j1
def F22_L : Nat → List (Nat × TypeDesc) := fun _ => []
theorem F22_ok {B : World} {R : Ending → Heap → Prop} (a0 : Bool) (b0 : OA) (c0 d0 : Nat) (e0 : Int) (f0 : Bool) (g0 : OA) (i0 j0 : Nat) (k0 : Int) {h : Heap} (H : F22 B R a0 b0 c0 d0 e0 f0 g0 i0 j0 k0 h) : Ec B 115 #[.agg #[.bool a0, .slice b0 c0 d0, .int .i64 e0], .agg #[.bool f0, .slice g0 i0 j0, .int .i64 k0]] R h :=
 Ed Tryz.func115 (by kernel_rfl) (by kernel_rfl) (by kernel_rfl) F22_L [] (by kernel_rfl) H

/-- plumb/dyadic.Mul -/
def F23_j78 (B : World) (R : Po) (a0 b0 c0 : OA) (d0 : Heap) : Prop :=
 Enters Tryz.prog 52 ∧ FnD Tryz.prog B 52 #[.pointer c0] .returning (dfE fun e0 f0 => lvW (fun g0 => isP a0 fun i0 j0 =>
∃ k0, cell? g0 ⟨i0, j0, none⟩ = some (.bool k0) ∧
∃ l0 m0 n0, cell? g0 ⟨i0, j0 + 1, none⟩ = some (.slice l0 m0 n0) ∧
∃ o0, cell? g0 ⟨i0, j0 + 1 + 1, none⟩ = some (.int .i64 o0) ∧
 isP b0 fun p0 q0 => ∃ r0, cI g0 p0 q0 .i64 r0 ∧
 R (.returned (.tuple #[.agg #[.bool k0, .slice l0 m0 n0, .int .i64 o0], .int .i64 r0])) g0) (pk R) e0 f0) d0
def F23 (B : World) (R : Po) (s0 : Bool) (t0 : OA) (u0 v0 : Nat) (w0 : Int) (x0 : Bool) (y0 : OA) (z0 a1 : Nat) (b1 : Int) (h : Heap) : Prop :=
 alW h (.cells #[.bool s0, .slice t0 u0 v0, .int .i64 w0] 24) fun c1 d1 =>
 alW d1 (.cells #[.bool x0, .slice y0 z0 a1, .int .i64 b1] 24) fun e1 f1 =>
 alW f1 (.cells #[.bool false, .slice none 0 0, .int .i64 0] 24) fun g1 i1 =>
 alW i1 (.cells #[.int .i64 0] 32) fun j1 k1 =>
 iP c1 0 fun l1 m1 =>
∃ n1, cell? k1 ⟨l1, m1, none⟩ = some (.bool n1) ∧
∃ o1 p1 q1, cell? k1 ⟨l1, m1 + 1, none⟩ = some (.slice o1 p1 q1) ∧
∃ r1, cell? k1 ⟨l1, m1 + 1 + 1, none⟩ = some (.int .i64 r1) ∧
 iP e1 0 fun s1 t1 =>
∃ u1, cell? k1 ⟨s1, t1, none⟩ = some (.bool u1) ∧
∃ v1 w1 x1, cell? k1 ⟨s1, t1 + 1, none⟩ = some (.slice v1 w1 x1) ∧
∃ y1, cell? k1 ⟨s1, t1 + 1 + 1, none⟩ = some (.int .i64 y1) ∧
 alW k1 (.cells #[.bool n1, .slice o1 p1 q1, .int .i64 r1, .bool u1, .slice v1 w1 x1, .int .i64 y1] 24) fun z1 a2 =>
 Ec B 54 #[.slice (some ⟨z1, 0, none⟩) 2 2] (retE (fun b2 c2 => ∃ d2 e2 f2, b2 = .slice d2 e2 f2 ∧
 ixW d2 e2 (0 : Int) 2 fun g2 i2 =>
 iP g2 i2 fun j2 k2 =>
∃ l2, cell? c2 ⟨j2, k2, none⟩ = some (.pointer l2) ∧
∃ m2, cell? c2 ⟨j2, k2 + 1, none⟩ = some (.int .i64 m2) ∧
 ixW d2 e2 (1 : Int) 2 fun n2 o2 =>
 iP n2 o2 fun p2 q2 =>
∃ r2, cell? c2 ⟨p2, q2, none⟩ = some (.pointer r2) ∧
∃ s2, cell? c2 ⟨p2, q2 + 1, none⟩ = some (.int .i64 s2) ∧
 Ec B 116 #[.agg #[.pointer l2, .int .i64 m2], .agg #[.pointer r2, .int .i64 s2]] (retE (fun t2 u2 => ∃ v2 w2, t2 = .agg #[.pointer v2, .int .i64 w2] ∧
 Ec B 56 #[.agg #[.pointer v2, .int .i64 w2]] (retE (fun x2 y2 => ∃ z2 a3 b3 c3 d3, x2 = .agg #[.bool z2, .slice a3 b3 c3, .int .i64 d3] ∧
 iP g1 0 fun e3 f3 => stC y2 e3 f3 (.bool z2) fun g3 =>
 stC g3 e3 (f3 + 1) (.slice a3 b3 c3) fun i3 =>
 stC i3 e3 (f3 + 1 + 1) (.int .i64 d3) fun j3 =>
 iP j1 0 fun k3 l3 => stC j3 k3 l3 (.int .i64 (0 : Int)) fun m3 =>
 F23_j78 B R (some ⟨g1, 0, none⟩) (some ⟨j1, 0, none⟩) (some ⟨j1, 0, none⟩) m3)
(fun _ _ => False)) u2)
(fun _ _ => False)) c2)
(fun n3 o3 => Enters Tryz.prog 52 ∧ FnD Tryz.prog B 52 #[.pointer (some ⟨j1, 0, none⟩)] (.panicking n3) (dfE fun p3 q3 => lvW (fun r3 => iP g1 0 fun s3 t3 =>
∃ u3, cell? r3 ⟨s3, t3, none⟩ = some (.bool u3) ∧
∃ v3 w3 x3, cell? r3 ⟨s3, t3 + 1, none⟩ = some (.slice v3 w3 x3) ∧
∃ y3, cell? r3 ⟨s3, t3 + 1 + 1, none⟩ = some (.int .i64 y3) ∧
 iP j1 0 fun z3 a4 => ∃ b4, cI r3 z3 a4 .i64 b4 ∧
 R (.returned (.tuple #[.agg #[.bool u3, .slice v3 w3 x3, .int .i64 y3], .int .i64 b4])) r3) (pk R) p3 q3) o3)) a2
def F23_L : Nat → List (Nat × TypeDesc) := fun _ => []
theorem F23_ok {B : World} {R : Ending → Heap → Prop} (s0 : Bool) (t0 : OA) (u0 v0 : Nat) (w0 : Int) (x0 : Bool) (y0 : OA) (z0 a1 : Nat) (b1 : Int) {h : Heap} (H : F23 B R s0 t0 u0 v0 w0 x0 y0 z0 a1 b1 h) : Ec B 72 #[.agg #[.bool s0, .slice t0 u0 v0, .int .i64 w0], .agg #[.bool x0, .slice y0 z0 a1, .int .i64 b1]] R h :=
 Ed Tryz.func72 (by kernel_rfl) (by kernel_rfl) (by kernel_rfl) F23_L [] (by kernel_rfl) H

/-- plumb/dyadic.Cmp -/
def F28_j57 (B : World) (R : Po) (a0 : Int) (b0 c0 : OA) (d0 e0 : Nat) (f0 : OA) (g0 : Heap) : Prop :=
 Ec B 57 #[.slice c0 d0 e0] (retE (fun i0 j0 => ∃ k0 l0, i0 = .agg #[.pointer k0, .int .i64 l0] ∧
 Ec B 86 #[.pointer k0] (retE (fun m0 n0 => ∃ o0, m0 = .int .i64 o0 ∧
 isP b0 fun p0 q0 => stC n0 p0 q0 (.int .i64 (0 : Int)) fun r0 =>
 Enters Tryz.prog 52 ∧ FnD Tryz.prog B 52 #[.pointer f0] .returning (dfE fun s0 t0 => lvW (fun u0 => isP b0 fun v0 w0 => ∃ x0, cI u0 v0 w0 .i64 x0 ∧
 R (.returned (.tuple #[.int .i64 o0, .int .i64 x0])) u0) (pk R) s0 t0) r0)
(fun y0 z0 => Enters Tryz.prog 52 ∧ FnD Tryz.prog B 52 #[.pointer f0] (.panicking y0) (dfE fun a1 b1 => lvW (fun c1 => isP b0 fun d1 e1 => ∃ f1, cI c1 d1 e1 .i64 f1 ∧
 R (.returned (.tuple #[.int .i64 a0, .int .i64 f1])) c1) (pk R) a1 b1) z0)) j0)
(fun g1 i1 => Enters Tryz.prog 52 ∧ FnD Tryz.prog B 52 #[.pointer f0] (.panicking g1) (dfE fun j1 k1 => lvW (fun l1 => isP b0 fun m1 n1 => ∃ o1, cI l1 m1 n1 .i64 o1 ∧
 R (.returned (.tuple #[.int .i64 a0, .int .i64 o1])) l1) (pk R) j1 k1) i1)) g0
def F28 (B : World) (R : Po) (p1 : Bool) (q1 : OA) (r1 s1 : Nat) (t1 : Int) (u1 : Bool) (v1 : OA) (w1 x1 : Nat) (y1 : Int) (h : Heap) : Prop :=
 alW h (.cells #[.bool p1, .slice q1 r1 s1, .int .i64 t1] 24) fun z1 a2 =>
 alW a2 (.cells #[.bool u1, .slice v1 w1 x1, .int .i64 y1] 24) fun b2 c2 =>
 alW c2 (.cells #[.int .i64 0] 32) fun d2 e2 =>
 iP z1 0 fun f2 g2 =>
∃ i2, cell? e2 ⟨f2, g2, none⟩ = some (.bool i2) ∧
∃ j2 k2 l2, cell? e2 ⟨f2, g2 + 1, none⟩ = some (.slice j2 k2 l2) ∧
∃ m2, cell? e2 ⟨f2, g2 + 1 + 1, none⟩ = some (.int .i64 m2) ∧
 iP b2 0 fun n2 o2 =>
∃ p2, cell? e2 ⟨n2, o2, none⟩ = some (.bool p2) ∧
∃ q2 r2 s2, cell? e2 ⟨n2, o2 + 1, none⟩ = some (.slice q2 r2 s2) ∧
∃ t2, cell? e2 ⟨n2, o2 + 1 + 1, none⟩ = some (.int .i64 t2) ∧
 alW e2 (.cells #[.bool i2, .slice j2 k2 l2, .int .i64 m2, .bool p2, .slice q2 r2 s2, .int .i64 t2] 24) fun u2 v2 =>
 Ec B 54 #[.slice (some ⟨u2, 0, none⟩) 2 2] (retE (fun w2 x2 => ∃ y2 z2 a3, w2 = .slice y2 z2 a3 ∧
 ixW y2 z2 (1 : Int) 2 fun b3 c3 =>
 iP b3 c3 fun d3 e3 =>
 iP d3 e3 fun f3 g3 => ∃ i3, cell? x2 ⟨f3, g3, none⟩ = some (.pointer i3) ∧
 ixW y2 z2 (1 : Int) 2 fun j3 k3 =>
 iP j3 k3 fun l3 m3 =>
 iP l3 m3 fun n3 o3 => ∃ p3, cell? x2 ⟨n3, o3, none⟩ = some (.pointer p3) ∧
 Ec B 55 #[.pointer i3, .pointer p3] (retE (fun q3 r3 => ∃ s3, q3 = .pointer s3 ∧
 F28_j57 B R (0 : Int) (some ⟨d2, 0, none⟩) y2 z2 a3 (some ⟨d2, 0, none⟩) r3)
(fun _ _ => False)) x2)
(fun t3 u3 => Enters Tryz.prog 52 ∧ FnD Tryz.prog B 52 #[.pointer (some ⟨d2, 0, none⟩)] (.panicking t3) (dfE fun v3 w3 => lvW (fun x3 => iP d2 0 fun y3 z3 => ∃ a4, cI x3 y3 z3 .i64 a4 ∧
 R (.returned (.tuple #[.int .i64 (0 : Int), .int .i64 a4])) x3) (pk R) v3 w3) u3)) v2
def F28_L : Nat → List (Nat × TypeDesc) := fun _ => []
theorem F28_ok {B : World} {R : Ending → Heap → Prop} (p1 : Bool) (q1 : OA) (r1 s1 : Nat) (t1 : Int) (u1 : Bool) (v1 : OA) (w1 x1 : Nat) (y1 : Int) {h : Heap} (H : F28 B R p1 q1 r1 s1 t1 u1 v1 w1 x1 y1 h) : Ec B 118 #[.agg #[.bool p1, .slice q1 r1 s1, .int .i64 t1], .agg #[.bool u1, .slice v1 w1 x1, .int .i64 y1]] R h :=
 Ed Tryz.func118 (by kernel_rfl) (by kernel_rfl) (by kernel_rfl) F28_L [] (by kernel_rfl) H

/-- plumb/dyadic.Sum -/
def F119 (B : World) (R : Po) (a0 : OA) (b0 c0 : Nat) (h : Heap) : Prop :=
 alW h (.cells #[.bool false, .slice none 0 0, .int .i64 0] 24) fun d0 e0 =>
 alW e0 (.cells #[.int .i64 0] 32) fun f0 g0 =>
 Ec B 54 #[.slice a0 b0 c0] (retE (fun i0 j0 => ∃ k0 l0 m0, i0 = .slice k0 l0 m0 ∧
 Ec B 57 #[.slice k0 l0 m0] (retE (fun n0 o0 => ∃ p0 q0, n0 = .agg #[.pointer p0, .int .i64 q0] ∧
 Ec B 56 #[.agg #[.pointer p0, .int .i64 q0]] (retE (fun r0 s0 => ∃ t0 u0 v0 w0 x0, r0 = .agg #[.bool t0, .slice u0 v0 w0, .int .i64 x0] ∧
 iP d0 0 fun y0 z0 => stC s0 y0 z0 (.bool t0) fun a1 =>
 stC a1 y0 (z0 + 1) (.slice u0 v0 w0) fun b1 =>
 stC b1 y0 (z0 + 1 + 1) (.int .i64 x0) fun c1 =>
 iP f0 0 fun d1 e1 => stC c1 d1 e1 (.int .i64 (0 : Int)) fun f1 =>
 Enters Tryz.prog 52 ∧ FnD Tryz.prog B 52 #[.pointer (some ⟨f0, 0, none⟩)] .returning (dfE fun g1 i1 => lvW (fun j1 => iP d0 0 fun k1 l1 =>
∃ m1, cell? j1 ⟨k1, l1, none⟩ = some (.bool m1) ∧
∃ n1 o1 p1, cell? j1 ⟨k1, l1 + 1, none⟩ = some (.slice n1 o1 p1) ∧
∃ q1, cell? j1 ⟨k1, l1 + 1 + 1, none⟩ = some (.int .i64 q1) ∧
 iP f0 0 fun r1 s1 => ∃ t1, cI j1 r1 s1 .i64 t1 ∧
 R (.returned (.tuple #[.agg #[.bool m1, .slice n1 o1 p1, .int .i64 q1], .int .i64 t1])) j1) (pk R) g1 i1) f1)
(fun u1 v1 => Enters Tryz.prog 52 ∧ FnD Tryz.prog B 52 #[.pointer (some ⟨f0, 0, none⟩)] (.panicking u1) (dfE fun w1 x1 => lvW (fun y1 => iP d0 0 fun z1 a2 =>
∃ b2, cell? y1 ⟨z1, a2, none⟩ = some (.bool b2) ∧
∃ c2 d2 e2, cell? y1 ⟨z1, a2 + 1, none⟩ = some (.slice c2 d2 e2) ∧
∃ f2, cell? y1 ⟨z1, a2 + 1 + 1, none⟩ = some (.int .i64 f2) ∧
 iP f0 0 fun g2 i2 => ∃ j2, cI y1 g2 i2 .i64 j2 ∧
 R (.returned (.tuple #[.agg #[.bool b2, .slice c2 d2 e2, .int .i64 f2], .int .i64 j2])) y1) (pk R) w1 x1) v1)) o0)
(fun k2 l2 => Enters Tryz.prog 52 ∧ FnD Tryz.prog B 52 #[.pointer (some ⟨f0, 0, none⟩)] (.panicking k2) (dfE fun m2 n2 => lvW (fun o2 => iP d0 0 fun p2 q2 =>
∃ r2, cell? o2 ⟨p2, q2, none⟩ = some (.bool r2) ∧
∃ s2 t2 u2, cell? o2 ⟨p2, q2 + 1, none⟩ = some (.slice s2 t2 u2) ∧
∃ v2, cell? o2 ⟨p2, q2 + 1 + 1, none⟩ = some (.int .i64 v2) ∧
 iP f0 0 fun w2 x2 => ∃ y2, cI o2 w2 x2 .i64 y2 ∧
 R (.returned (.tuple #[.agg #[.bool r2, .slice s2 t2 u2, .int .i64 v2], .int .i64 y2])) o2) (pk R) m2 n2) l2)) j0)
(fun z2 a3 => Enters Tryz.prog 52 ∧ FnD Tryz.prog B 52 #[.pointer (some ⟨f0, 0, none⟩)] (.panicking z2) (dfE fun b3 c3 => lvW (fun d3 => iP d0 0 fun e3 f3 =>
∃ g3, cell? d3 ⟨e3, f3, none⟩ = some (.bool g3) ∧
∃ i3 j3 k3, cell? d3 ⟨e3, f3 + 1, none⟩ = some (.slice i3 j3 k3) ∧
∃ l3, cell? d3 ⟨e3, f3 + 1 + 1, none⟩ = some (.int .i64 l3) ∧
 iP f0 0 fun m3 n3 => ∃ o3, cI d3 m3 n3 .i64 o3 ∧
 R (.returned (.tuple #[.agg #[.bool g3, .slice i3 j3 k3, .int .i64 l3], .int .i64 o3])) d3) (pk R) b3 c3) a3)) g0
def F119_L : Nat → List (Nat × TypeDesc) := fun _ => []
theorem F119_ok {B : World} {R : Ending → Heap → Prop} (a0 : OA) (b0 c0 : Nat) {h : Heap} (H : F119 B R a0 b0 c0 h) : Ec B 117 #[.slice a0 b0 c0] R h :=
 Ed Tryz.func117 (by kernel_rfl) (by kernel_rfl) (by kernel_rfl) F119_L [] (by kernel_rfl) H

/-- plumb/eft.num -/
def F60 (B : World) (R : Po) (a0 : Nat) (h : Heap) : Prop :=
 alW h (.cells #[.bool false, .slice none 0 0, .int .i64 0] 24) fun b0 c0 =>
 Ec B 68 #[.float .f64 a0] (retE (fun d0 e0 => ∃ f0, d0 = .int .i64 f0 ∧
 Ec B 30 #[.int .i64 f0] (retE (fun g0 i0 => ∃ j0 k0 l0 m0 n0 o0, g0 = .tuple #[.agg #[.bool j0, .slice k0 l0 m0, .int .i64 n0], .int .i64 o0] ∧
 alW i0 (.cells #[.bool false, .slice none 0 0, .int .i64 0] 24) fun p0 q0 =>
 iP p0 0 fun r0 s0 => stC q0 r0 s0 (.bool j0) fun t0 =>
 stC t0 r0 (s0 + 1) (.slice k0 l0 m0) fun u0 =>
 stC u0 r0 (s0 + 1 + 1) (.int .i64 n0) fun v0 =>
 iP p0 0 fun w0 x0 =>
∃ y0, cell? v0 ⟨w0, x0, none⟩ = some (.bool y0) ∧
∃ z0 a1 b1, cell? v0 ⟨w0, x0 + 1, none⟩ = some (.slice z0 a1 b1) ∧
∃ c1, cell? v0 ⟨w0, x0 + 1 + 1, none⟩ = some (.int .i64 c1) ∧
 iP b0 0 fun d1 e1 => stC v0 d1 e1 (.bool y0) fun f1 =>
 stC f1 d1 (e1 + 1) (.slice z0 a1 b1) fun g1 =>
 stC g1 d1 (e1 + 1 + 1) (.int .i64 c1) fun i1 =>
 iP b0 0 fun j1 k1 =>
∃ l1, cell? i1 ⟨j1, k1, none⟩ = some (.bool l1) ∧
∃ m1 n1 o1, cell? i1 ⟨j1, k1 + 1, none⟩ = some (.slice m1 n1 o1) ∧
∃ p1, cell? i1 ⟨j1, k1 + 1 + 1, none⟩ = some (.int .i64 p1) ∧
 R (.returned (.agg #[.bool l1, .slice m1 n1 o1, .int .i64 p1])) i1)
(pk R)) e0)
(pk R)) c0
def F60_L : Nat → List (Nat × TypeDesc) := fun _ => []
theorem F60_ok {B : World} {R : Ending → Heap → Prop} (a0 : Nat) {h : Heap} (H : F60 B R a0 h) : Ec B 73 #[.float .f64 a0] R h :=
 Ek Tryz.func73 (by kernel_rfl) (by kernel_rfl) (by kernel_rfl) F60_L [] (by kernel_rfl) H

/-- plumb/eft.just -/
def F61_j62 (B : World) (R : Po) (a0 : Bool) (b0 : Heap) : Prop :=
 R (.returned (.bool a0)) b0
def F61 (B : World) (R : Po) (c0 d0 : Nat) (e0 : Bool) (f0 : OA) (g0 i0 : Nat) (j0 : Int) (h : Heap) : Prop :=
 alW h (.cells #[.bool e0, .slice f0 g0 i0, .int .i64 j0] 24) fun k0 l0 =>
 alW l0 (.cells #[.float .f64 c0, .float .f64 d0] 49) fun m0 n0 =>
 Ec B 71 #[.slice (some ⟨m0, 0, none⟩) 2 2] (retE (fun o0 p0 => ∃ q0, o0 = .bool q0 ∧
((!q0) = true →
 R (.returned (.bool false)) p0) ∧
((!q0) = false →
 Ec B 73 #[.float .f64 c0] (retE (fun r0 s0 => ∃ t0 u0 v0 w0 x0, r0 = .agg #[.bool t0, .slice u0 v0 w0, .int .i64 x0] ∧
 Ec B 73 #[.float .f64 d0] (retE (fun y0 z0 => ∃ a1 b1 c1 d1 e1, y0 = .agg #[.bool a1, .slice b1 c1 d1, .int .i64 e1] ∧
 alW z0 (.cells #[.bool t0, .slice u0 v0 w0, .int .i64 x0, .bool a1, .slice b1 c1 d1, .int .i64 e1] 24) fun f1 g1 =>
 Ec B 117 #[.slice (some ⟨f1, 0, none⟩) 2 2] (retE (fun i1 j1 => ∃ k1 l1 m1 n1 o1 p1, i1 = .tuple #[.agg #[.bool k1, .slice l1 m1 n1, .int .i64 o1], .int .i64 p1] ∧
 alW j1 (.cells #[.bool false, .slice none 0 0, .int .i64 0] 24) fun q1 r1 =>
 iP q1 0 fun s1 t1 => stC r1 s1 t1 (.bool k1) fun u1 =>
 stC u1 s1 (t1 + 1) (.slice l1 m1 n1) fun v1 =>
 stC v1 s1 (t1 + 1 + 1) (.int .i64 o1) fun w1 =>
 iP q1 0 fun x1 y1 =>
∃ z1, cell? w1 ⟨x1, y1, none⟩ = some (.bool z1) ∧
∃ a2 b2 c2, cell? w1 ⟨x1, y1 + 1, none⟩ = some (.slice a2 b2 c2) ∧
∃ d2, cell? w1 ⟨x1, y1 + 1 + 1, none⟩ = some (.int .i64 d2) ∧
 iP k0 0 fun e2 f2 =>
∃ g2, cell? w1 ⟨e2, f2, none⟩ = some (.bool g2) ∧
∃ i2 j2 k2, cell? w1 ⟨e2, f2 + 1, none⟩ = some (.slice i2 j2 k2) ∧
∃ l2, cell? w1 ⟨e2, f2 + 1 + 1, none⟩ = some (.int .i64 l2) ∧
 Ec B 118 #[.agg #[.bool z1, .slice a2 b2 c2, .int .i64 d2], .agg #[.bool g2, .slice i2 j2 k2, .int .i64 l2]] (retE (fun m2 n2 => ∃ o2 p2, m2 = .tuple #[.int .i64 o2, .int .i64 p2] ∧
((decide (p2 = (0 : Int))) = true →
 F61_j62 B R (decide (o2 = (0 : Int))) n2) ∧
((decide (p2 = (0 : Int))) = false →
 F61_j62 B R false n2))
(pk R)) w1)
(pk R)) g1)
(pk R)) s0)
(pk R)) p0))
(pk R)) n0
def F61_L : Nat → List (Nat × TypeDesc) := fun _ => []
theorem F61_ok {B : World} {R : Ending → Heap → Prop} (c0 d0 : Nat) (e0 : Bool) (f0 : OA) (g0 i0 : Nat) (j0 : Int) {h : Heap} (H : F61 B R c0 d0 e0 f0 g0 i0 j0 h) : Ec B 74 #[.float .f64 c0, .float .f64 d0, .agg #[.bool e0, .slice f0 g0 i0, .int .i64 j0]] R h :=
 Ek Tryz.func74 (by kernel_rfl) (by kernel_rfl) (by kernel_rfl) F61_L [] (by kernel_rfl) H

/-- plumb/bits.Parts -/
def F63 (B : World) (R : Po) (a0 : Int) (h : Heap) : Prop :=
  0 ≤ (52 : Int) ∧
((decide ((bitsI .and .i64 (Int.fdiv a0 (2 ^ min (Int.toNat (52 : Int)) IntKind.i64.bits)) (2047 : Int)) = (2047 : Int))) = true →
 R (.returned (.tuple #[.bool false, .int .i64 (0 : Int), .int .i64 (0 : Int), .bool false])) h) ∧
((decide ((bitsI .and .i64 (Int.fdiv a0 (2 ^ min (Int.toNat (52 : Int)) IntKind.i64.bits)) (2047 : Int)) = (2047 : Int))) = false →
((decide ((bitsI .and .i64 (Int.fdiv a0 (2 ^ min (Int.toNat (52 : Int)) IntKind.i64.bits)) (2047 : Int)) = (0 : Int))) = true →
 R (.returned (.tuple #[.bool (decide (a0 < (0 : Int))), .int .i64 (bitsI .and .i64 a0 (4503599627370495 : Int)), .int .i64 (-1074 : Int), .bool true])) h) ∧
((decide ((bitsI .and .i64 (Int.fdiv a0 (2 ^ min (Int.toNat (52 : Int)) IntKind.i64.bits)) (2047 : Int)) = (0 : Int))) = false →
 R (.returned (.tuple #[.bool (decide (a0 < (0 : Int))), .int .i64 (bitsI .or .i64 (bitsI .and .i64 a0 (4503599627370495 : Int)) (4503599627370496 : Int)), .int .i64 (IntKind.i64.wrap ((bitsI .and .i64 (Int.fdiv a0 (2 ^ min (Int.toNat (52 : Int)) IntKind.i64.bits)) (2047 : Int)) - (1075 : Int))), .bool true])) h))
def F63_L : Nat → List (Nat × TypeDesc) := fun _ => []
theorem F63_ok {B : World} {R : Ending → Heap → Prop} (a0 : Int) {h : Heap} (H : F63 B R a0 h) : Ec B 24 #[.int .i64 a0] R h :=
 Ek Tryz.func24 (by kernel_rfl) (by kernel_rfl) (by kernel_rfl) F63_L [] (by kernel_rfl) H

/-- plumb/dyadic.of -/
def F64_j7 (B : World) (R : Po) (a0 b0 : Int) (c0 : OA) (d0 : Heap) : Prop :=
 Ec B 90 #[.int .i64 a0] (retE (fun e0 f0 => ∃ g0, e0 = .pointer g0 ∧
 Ec B 56 #[.agg #[.pointer g0, .int .i64 b0]] (retE (fun i0 j0 => ∃ k0 l0 m0 n0 o0, i0 = .agg #[.bool k0, .slice l0 m0 n0, .int .i64 o0] ∧
 isP c0 fun p0 q0 => stC j0 p0 q0 (.bool k0) fun r0 =>
 stC r0 p0 (q0 + 1) (.slice l0 m0 n0) fun s0 =>
 stC s0 p0 (q0 + 1 + 1) (.int .i64 o0) fun t0 =>
 isP c0 fun u0 v0 =>
∃ w0, cell? t0 ⟨u0, v0, none⟩ = some (.bool w0) ∧
∃ x0 y0 z0, cell? t0 ⟨u0, v0 + 1, none⟩ = some (.slice x0 y0 z0) ∧
∃ a1, cell? t0 ⟨u0, v0 + 1 + 1, none⟩ = some (.int .i64 a1) ∧
 R (.returned (.agg #[.bool w0, .slice x0 y0 z0, .int .i64 a1])) t0)
(pk R)) f0)
(pk R)) d0
def F64 (B : World) (R : Po) (b1 : Bool) (c1 d1 : Int) (e1 : Bool) (h : Heap) : Prop :=
 alW h (.cells #[.bool false, .slice none 0 0, .int .i64 0] 24) fun f1 g1 =>
((!e1) = true →
 R (.panicked [{ v := .iface 143 (.agg #[.int .i64 (10 : Int)]), recovered := false }]) g1) ∧
((!e1) = false →
(b1 = true →
 F64_j7 B R (IntKind.i64.wrap (0 - c1)) d1 (some ⟨f1, 0, none⟩) g1) ∧
(b1 = false →
 F64_j7 B R c1 d1 (some ⟨f1, 0, none⟩) g1))
def F64_L : Nat → List (Nat × TypeDesc) := fun _ => []
theorem F64_ok {B : World} {R : Ending → Heap → Prop} (b1 : Bool) (c1 d1 : Int) (e1 : Bool) {h : Heap} (H : F64 B R b1 c1 d1 e1 h) : Ec B 53 #[.bool b1, .int .i64 c1, .int .i64 d1, .bool e1] R h :=
 Ek Tryz.func53 (by kernel_rfl) (by kernel_rfl) (by kernel_rfl) F64_L [] (by kernel_rfl) H

/-- plumb/dyadic.told -/
def F65_j66 (B : World) (R : Po) (a0 b0 c0 : OA) (d0 : Int) (e0 : Bool) (f0 : Heap) : Prop :=
(e0 = true →
 R (.panicked [{ v := .iface 143 (.agg #[.int .i64 (2 : Int)]), recovered := false }]) f0) ∧
(e0 = false →
 Ec B 102 #[.pointer c0] (retE (fun g0 i0 => ∃ j0, g0 = .int .i64 j0 ∧
(30 : Int) ≠ 0 ∧
0 ≤ (0 : Int) ∧ (0 : Int) ≤ (IntKind.i64.wrap ((IntKind.i64.wrap (Int.tdiv j0 (30 : Int))) + (1 : Int))) ∧ 8 * (IntKind.i64.wrap ((IntKind.i64.wrap (Int.tdiv j0 (30 : Int))) + (1 : Int))) ≤ 281474976710656 ∧ (IntKind.i64.wrap ((IntKind.i64.wrap (Int.tdiv j0 (30 : Int))) + (1 : Int))) < 9223372036854775808 ∧
 alW i0 (.cells (mkCells #[.int .i64 0] (Int.toNat (IntKind.i64.wrap ((IntKind.i64.wrap (Int.tdiv j0 (30 : Int))) + (1 : Int))) * 1)) 3) fun k0 l0 =>
 Ec B 90 #[.int .i64 (1073741823 : Int)] (retE (fun m0 n0 => ∃ o0, m0 = .pointer o0 ∧
∃ p0 : Lp, ∃ q0, p0 q0 [.pointer a0, .pointer b0, .pointer c0, .int .i64 d0, .slice (some ⟨k0, 0, none⟩) (Int.toNat (0 : Int)) (Int.toNat (IntKind.i64.wrap ((IntKind.i64.wrap (Int.tdiv j0 (30 : Int))) + (1 : Int)))), .pointer o0] n0 ∧
∀ (r0 : Nat) (s0 : Heap) (t0 u0 v0 : OA) (w0 : Int) (x0 : OA) (y0 z0 : Nat) (a1 : OA), p0 r0 [.pointer t0, .pointer u0, .pointer v0, .int .i64 w0, .slice x0 y0 z0, .pointer a1] s0 → ∀ _r : Nat → Value,
 Ec B 86 #[.pointer v0] (retE (fun b1 c1 => ∃ d1, b1 = .int .i64 d1 ∧
((decide ((0 : Int) < d1)) = true →
 alW c1 (.cells #[.bool false, .slice none 0 0] 148) fun e1 f1 =>
 Ec B 103 #[.pointer (some ⟨e1, 0, none⟩), .pointer v0, .pointer a1] (retE (fun g1 i1 => ∃ j1, g1 = .pointer j1 ∧
 Ec B 104 #[.pointer j1] (retE (fun k1 l1 => ∃ m1, k1 = .int .i64 m1 ∧
 alW l1 (.cells #[.int .i64 m1] 3) fun n1 o1 =>
 apW o1 x0 y0 z0 (some ⟨n1, 0, none⟩) 1 1 8 3 #[.int .i64 0] fun p1 q1 r1 s1 =>
 Ec B 100 #[.pointer v0, .pointer v0, .int .u64 (30 : Int)] (retE (fun t1 u1 => ∃ v1, t1 = .pointer v1 ∧
∃ w1, w1 < r0 ∧ p0 w1 [.pointer t0, .pointer u0, .pointer v0, .int .i64 w0, .slice p1 q1 r1, .pointer a1] u1)
(pk R)) s1)
(pk R)) i1)
(pk R)) f1) ∧
((decide ((0 : Int) < d1)) = false →
 isP t0 fun x1 y1 =>
 iP x1 y1 fun z1 a2 => ∃ b2, cell? c1 ⟨z1, a2, none⟩ = some (.pointer b2) ∧
 Ec B 86 #[.pointer b2] (retE (fun c2 d2 => ∃ e2, c2 = .int .i64 e2 ∧
 isP u0 fun f2 g2 => stC d2 f2 g2 (.bool (decide (e2 < (0 : Int)))) fun i2 =>
 stC i2 f2 (g2 + 1) (.slice x0 y0 z0) fun j2 =>
 stC j2 f2 (g2 + 1 + 1) (.int .i64 w0) fun k2 =>
 isP u0 fun l2 m2 =>
∃ n2, cell? k2 ⟨l2, m2, none⟩ = some (.bool n2) ∧
∃ o2 p2 q2, cell? k2 ⟨l2, m2 + 1, none⟩ = some (.slice o2 p2 q2) ∧
∃ r2, cell? k2 ⟨l2, m2 + 1 + 1, none⟩ = some (.int .i64 r2) ∧
 R (.returned (.agg #[.bool n2, .slice o2 p2 q2, .int .i64 r2])) k2)
(pk R)) c1))
(pk R)) s0)
(pk R)) l0)
(pk R)) f0)
def F65 (B : World) (R : Po) (s2 : OA) (t2 : Int) (h : Heap) : Prop :=
 alW h (.cells #[.pointer s2, .int .i64 t2] 89) fun u2 v2 =>
 alW v2 (.cells #[.bool false, .slice none 0 0, .int .i64 0] 24) fun w2 x2 =>
 iP u2 0 fun y2 z2 =>
 iP y2 z2 fun a3 b3 => ∃ c3, cell? x2 ⟨a3, b3, none⟩ = some (.pointer c3) ∧
 Ec B 86 #[.pointer c3] (retE (fun d3 e3 => ∃ f3, d3 = .int .i64 f3 ∧
((decide (f3 = (0 : Int))) = true →
 iP w2 0 fun g3 i3 => stC e3 g3 i3 (.bool false) fun j3 =>
 stC j3 g3 (i3 + 1) (.slice none 0 0) fun k3 =>
 stC k3 g3 (i3 + 1 + 1) (.int .i64 0) fun l3 =>
 iP w2 0 fun m3 n3 =>
∃ o3, cell? l3 ⟨m3, n3, none⟩ = some (.bool o3) ∧
∃ p3 q3 r3, cell? l3 ⟨m3, n3 + 1, none⟩ = some (.slice p3 q3 r3) ∧
∃ s3, cell? l3 ⟨m3, n3 + 1 + 1, none⟩ = some (.int .i64 s3) ∧
 R (.returned (.agg #[.bool o3, .slice p3 q3 r3, .int .i64 s3])) l3) ∧
((decide (f3 = (0 : Int))) = false →
 iP u2 0 fun t3 u3 =>
 iP t3 u3 fun v3 w3 => ∃ x3, cell? e3 ⟨v3, w3, none⟩ = some (.pointer x3) ∧
 Ec B 99 #[.pointer x3] (retE (fun y3 z3 => ∃ a4, y3 = .int .u64 a4 ∧
 alW z3 (.cells #[.bool false, .slice none 0 0] 148) fun b4 c4 =>
 alW c4 (.cells #[.bool false, .slice none 0 0] 148) fun d4 e4 =>
 iP u2 0 fun f4 g4 =>
 iP f4 g4 fun i4 j4 => ∃ k4, cell? e4 ⟨i4, j4, none⟩ = some (.pointer k4) ∧
 Ec B 101 #[.pointer (some ⟨d4, 0, none⟩), .pointer k4] (retE (fun l4 m4 => ∃ n4, l4 = .pointer n4 ∧
 Ec B 100 #[.pointer (some ⟨b4, 0, none⟩), .pointer n4, .int .u64 (IntKind.u64.wrap (IntKind.i64.wrap a4))] (retE (fun o4 p4 => ∃ q4, o4 = .pointer q4 ∧
 iP u2 0 fun r4 s4 =>
 isP (some ⟨r4, s4 + 1, none⟩) fun t4 u4 => ∃ v4, cI p4 t4 u4 .i64 v4 ∧
 Ec B 102 #[.pointer q4] (retE (fun w4 x4 => ∃ y4, w4 = .int .i64 y4 ∧
((decide ((60000 : Int) < y4)) = true →
(true = true →
 F65_j66 B R (some ⟨u2, 0, none⟩) (some ⟨w2, 0, none⟩) q4 (IntKind.i64.wrap (v4 + (IntKind.i64.wrap a4))) true x4) ∧
(true = false →
 F65_j66 B R (some ⟨u2, 0, none⟩) (some ⟨w2, 0, none⟩) q4 (IntKind.i64.wrap (v4 + (IntKind.i64.wrap a4))) (decide ((1048576 : Int) < (IntKind.i64.wrap (v4 + (IntKind.i64.wrap a4))))) x4)) ∧
((decide ((60000 : Int) < y4)) = false →
((decide ((IntKind.i64.wrap (v4 + (IntKind.i64.wrap a4))) < (-1048576 : Int))) = true →
 F65_j66 B R (some ⟨u2, 0, none⟩) (some ⟨w2, 0, none⟩) q4 (IntKind.i64.wrap (v4 + (IntKind.i64.wrap a4))) true x4) ∧
((decide ((IntKind.i64.wrap (v4 + (IntKind.i64.wrap a4))) < (-1048576 : Int))) = false →
 F65_j66 B R (some ⟨u2, 0, none⟩) (some ⟨w2, 0, none⟩) q4 (IntKind.i64.wrap (v4 + (IntKind.i64.wrap a4))) (decide ((1048576 : Int) < (IntKind.i64.wrap (v4 + (IntKind.i64.wrap a4))))) x4)))
(pk R)) p4)
(pk R)) m4)
(pk R)) e4)
(pk R)) e3))
(pk R)) x2
def F65_L : Nat → List (Nat × TypeDesc) := fun i => match i with
  | 10 => [(1, .pointer 0), (2, .pointer 0), (4, .pointer 0), (5, .int .i64), (6, .slice 0), (7, .pointer 0)]
  | _ => []
theorem F65_ok {B : World} {R : Ending → Heap → Prop} (s2 : OA) (t2 : Int) {h : Heap} (H : F65 B R s2 t2 h) : Ec B 56 #[.agg #[.pointer s2, .int .i64 t2]] R h :=
 Ek Tryz.func56 (by kernel_rfl) (by kernel_rfl) (by kernel_rfl) F65_L [] (by kernel_rfl) H

/-- plumb/dyadic.plus -/
def F66_j43 (B : World) (R : Po) (a0 : Lp) (b0 : Nat) (c0 d0 e0 : OA) (f0 g0 : Nat) (i0 j0 : Int) (k0 : Heap) : Prop :=
 ∃ l0, l0 < b0 ∧ a0 l0 [.pointer c0, .pointer d0, .slice e0 f0 g0, .int .i64 i0, .int .i64 (IntKind.i64.wrap (j0 + (1 : Int)))] k0
def F66_j69 (B : World) (R : Po) (a0 : Lp) (b0 : Nat) (m0 n0 o0 : OA) (p0 q0 : Nat) (r0 s0 : Int) (t0 : Heap) : Prop :=
 F66_j43 B R a0 b0 m0 n0 o0 p0 q0 r0 s0 t0
def F66_j136 (B : World) (R : Po) (a0 : Lp) (b0 : Nat) (u0 v0 w0 : OA) (x0 y0 : Nat) (z0 a1 : Int) (b1 : Heap) : Prop :=
 F66_j69 B R a0 b0 u0 v0 w0 x0 y0 z0 a1 b1
def F66_j129 (B : World) (R : Po) (a0 : Lp) (b0 : Nat) (c1 d1 e1 : OA) (f1 g1 : Nat) (i1 j1 : Int) (k1 : Heap) : Prop :=
 F66_j136 B R a0 b0 c1 d1 e1 f1 g1 i1 j1 k1
def F66_j220 (B : World) (R : Po) (a0 : Lp) (b0 : Nat) (l1 m1 n1 : OA) (o1 p1 : Nat) (q1 r1 : Int) (s1 : Heap) : Prop :=
 F66_j136 B R a0 b0 l1 m1 n1 o1 p1 q1 r1 s1
def F66 (B : World) (R : Po) (t1 : OA) (u1 v1 : Nat) (h : Heap) : Prop :=
 alW h (.cells #[.pointer none, .int .i64 0] 89) fun w1 x1 =>
 alW x1 (.cells #[.bool false, .slice none 0 0] 148) fun y1 z1 =>
 alW z1 (.cells #[.pointer none, .int .i64 0] 89) fun a2 b2 =>
 iP a2 0 fun c2 d2 => stC b2 c2 d2 (.pointer (some ⟨y1, 0, none⟩)) fun e2 =>
 stC e2 c2 (d2 + 1) (.int .i64 (0 : Int)) fun f2 =>
∃ a0 : Lp, ∃ g2, a0 g2 [.pointer (some ⟨w1, 0, none⟩), .pointer (some ⟨a2, 0, none⟩), .slice t1 u1 v1, .int .i64 (u1 : Int), .int .i64 (0 : Int)] f2 ∧
∀ (b0 : Nat) (i2 : Heap) (j2 k2 l2 : OA) (m2 n2 : Nat) (o2 p2 : Int), a0 b0 [.pointer j2, .pointer k2, .slice l2 m2 n2, .int .i64 o2, .int .i64 p2] i2 → ∀ _r : Nat → Value,
((decide (p2 < o2)) = true →
 ixW l2 m2 p2 2 fun q2 r2 =>
 iP q2 r2 fun s2 t2 =>
∃ u2, cell? i2 ⟨s2, t2, none⟩ = some (.pointer u2) ∧
∃ v2, cell? i2 ⟨s2, t2 + 1, none⟩ = some (.int .i64 v2) ∧
 alW i2 (.cells #[.pointer none, .int .i64 0] 89) fun w2 x2 =>
 iP w2 0 fun y2 z2 => stC x2 y2 z2 (.pointer u2) fun a3 =>
 stC a3 y2 (z2 + 1) (.int .i64 v2) fun b3 =>
 iP w2 0 fun c3 d3 =>
 iP c3 d3 fun e3 f3 => ∃ g3, cell? b3 ⟨e3, f3, none⟩ = some (.pointer g3) ∧
 Ec B 86 #[.pointer g3] (retE (fun i3 j3 => ∃ k3, i3 = .int .i64 k3 ∧
((decide (k3 = (0 : Int))) = true →
 F66_j43 B R a0 b0 j2 k2 l2 m2 n2 o2 p2 j3) ∧
((decide (k3 = (0 : Int))) = false →
 isP k2 fun l3 m3 =>
 iP l3 m3 fun n3 o3 => ∃ p3, cell? j3 ⟨n3, o3, none⟩ = some (.pointer p3) ∧
 Ec B 86 #[.pointer p3] (retE (fun q3 r3 => ∃ s3, q3 = .int .i64 s3 ∧
((decide (s3 = (0 : Int))) = true →
 iP w2 0 fun t3 u3 =>
∃ v3, cell? r3 ⟨t3, u3, none⟩ = some (.pointer v3) ∧
∃ w3, cell? r3 ⟨t3, u3 + 1, none⟩ = some (.int .i64 w3) ∧
 isP k2 fun x3 y3 => stC r3 x3 y3 (.pointer v3) fun z3 =>
 stC z3 x3 (y3 + 1) (.int .i64 w3) fun a4 =>
 F66_j69 B R a0 b0 j2 k2 l2 m2 n2 o2 p2 a4) ∧
((decide (s3 = (0 : Int))) = false →
 iP w2 0 fun b4 c4 =>
 isP (some ⟨b4, c4 + 1, none⟩) fun d4 e4 => ∃ f4, cI r3 d4 e4 .i64 f4 ∧
 isP k2 fun g4 i4 =>
 isP (some ⟨g4, i4 + 1, none⟩) fun j4 k4 => ∃ l4, cI r3 j4 k4 .i64 l4 ∧
((decide (l4 ≤ f4)) = true →
 isP k2 fun m4 n4 =>
 iP m4 n4 fun o4 p4 => ∃ q4, cell? r3 ⟨o4, p4, none⟩ = some (.pointer q4) ∧
 iP w2 0 fun r4 s4 =>
 iP r4 s4 fun t4 u4 => ∃ v4, cell? r3 ⟨t4, u4, none⟩ = some (.pointer v4) ∧
 iP w2 0 fun w4 x4 =>
 isP (some ⟨w4, x4 + 1, none⟩) fun y4 z4 => ∃ a5, cI r3 y4 z4 .i64 a5 ∧
 isP k2 fun b5 c5 =>
 isP (some ⟨b5, c5 + 1, none⟩) fun d5 e5 => ∃ f5, cI r3 d5 e5 .i64 f5 ∧
 isP k2 fun g5 i5 =>
 isP (some ⟨g5, i5 + 1, none⟩) fun j5 k5 => ∃ l5, cI r3 j5 k5 .i64 l5 ∧
(alW r3 (.cells #[.bool false, .slice none 0 0] 148) fun m5 n5 =>
 sameCells r3 n5 j5 k5 1 ∧ sameCells r3 n5 d5 e5 1 ∧ sameCells r3 n5 y4 z4 1 ∧ sameCells r3 n5 t4 u4 1 ∧ sameCells r3 n5 o4 p4 1 ∧ alW n5 (.cells #[.bool false, .slice none 0 0] 148) fun o5 p5 =>
 sameCells n5 p5 j5 k5 1 ∧ sameCells n5 p5 d5 e5 1 ∧ sameCells n5 p5 y4 z4 1 ∧ sameCells n5 p5 t4 u4 1 ∧ sameCells n5 p5 o4 p4 1 ∧ Ec B 106 #[.pointer (some ⟨o5, 0, none⟩), .pointer v4, .int .u64 (IntKind.u64.wrap (IntKind.i64.wrap (a5 - f5)))] (retE (fun q5 r5 => ∃ s5, q5 = .pointer s5 ∧
 sameCells p5 r5 j5 k5 1 ∧ sameCells p5 r5 o4 p4 1 ∧ Ec B 105 #[.pointer (some ⟨m5, 0, none⟩), .pointer q4, .pointer s5] (retE (fun t5 u5 => ∃ v5, t5 = .pointer v5 ∧
 sameCells r5 u5 j5 k5 1 ∧ isP k2 fun w5 x5 => stC u5 w5 x5 (.pointer v5) fun y5 =>
 stC y5 w5 (x5 + 1) (.int .i64 l5) fun z5 =>
 F66_j129 B R a0 b0 j2 k2 l2 m2 n2 o2 p2 z5)
(fun _ _ => False)) r5)
(fun _ _ => False)) p5) ∧
(alW r3 (.cells #[.bool false, .slice none 0 0] 148) fun a6 b6 =>
 sameCells r3 b6 j5 k5 1 ∧ sameCells r3 b6 d5 e5 1 ∧ sameCells r3 b6 y4 z4 1 ∧ sameCells r3 b6 t4 u4 1 ∧ sameCells r3 b6 o4 p4 1 ∧ (alW b6 (.cells #[.bool false, .slice none 0 0] 148) fun c6 d6 =>
 sameCells b6 d6 j5 k5 1 ∧ sameCells b6 d6 d5 e5 1 ∧ sameCells b6 d6 y4 z4 1 ∧ sameCells b6 d6 t4 u4 1 ∧ sameCells b6 d6 o4 p4 1 ∧ Ec B 106 #[.pointer (some ⟨a6, 0, none⟩), .pointer v4, .int .u64 (IntKind.u64.wrap (IntKind.i64.wrap (a5 - f5)))] (retE (fun e6 f6 => ∃ g6, e6 = .pointer g6 ∧
 sameCells d6 f6 j5 k5 1 ∧ sameCells d6 f6 o4 p4 1 ∧ Ec B 105 #[.pointer (some ⟨c6, 0, none⟩), .pointer q4, .pointer g6] (retE (fun i6 j6 => ∃ k6, i6 = .pointer k6 ∧
 sameCells f6 j6 j5 k5 1 ∧ isP k2 fun l6 m6 => stC j6 l6 m6 (.pointer k6) fun n6 =>
 stC n6 l6 (m6 + 1) (.int .i64 l5) fun o6 =>
 F66_j129 B R a0 b0 j2 k2 l2 m2 n2 o2 p2 o6)
(fun _ _ => False)) f6)
(fun _ _ => False)) d6) ∧
(Ec B 106 #[.pointer (some ⟨a6, 0, none⟩), .pointer v4, .int .u64 (IntKind.u64.wrap (IntKind.i64.wrap (a5 - f5)))] (retE (fun p6 q6 => ∃ r6, p6 = .pointer r6 ∧
 sameCells b6 q6 j5 k5 1 ∧ sameCells b6 q6 o4 p4 1 ∧ alW q6 (.cells #[.bool false, .slice none 0 0] 148) fun s6 t6 =>
 sameCells q6 t6 j5 k5 1 ∧ sameCells q6 t6 d5 e5 1 ∧ sameCells q6 t6 y4 z4 1 ∧ sameCells q6 t6 t4 u4 1 ∧ sameCells q6 t6 o4 p4 1 ∧ Ec B 105 #[.pointer (some ⟨s6, 0, none⟩), .pointer q4, .pointer r6] (retE (fun u6 v6 => ∃ w6, u6 = .pointer w6 ∧
 sameCells t6 v6 j5 k5 1 ∧ isP k2 fun x6 y6 => stC v6 x6 y6 (.pointer w6) fun z6 =>
 stC z6 x6 (y6 + 1) (.int .i64 l5) fun a7 =>
 F66_j129 B R a0 b0 j2 k2 l2 m2 n2 o2 p2 a7)
(fun _ _ => False)) t6)
(fun _ _ => False)) b6))) ∧
((decide (l4 ≤ f4)) = false →
 iP w2 0 fun b7 c7 =>
 iP b7 c7 fun d7 e7 => ∃ f7, cell? r3 ⟨d7, e7, none⟩ = some (.pointer f7) ∧
 isP k2 fun g7 i7 =>
 iP g7 i7 fun j7 k7 => ∃ l7, cell? r3 ⟨j7, k7, none⟩ = some (.pointer l7) ∧
 isP k2 fun m7 n7 =>
 isP (some ⟨m7, n7 + 1, none⟩) fun o7 p7 => ∃ q7, cI r3 o7 p7 .i64 q7 ∧
 iP w2 0 fun r7 s7 =>
 isP (some ⟨r7, s7 + 1, none⟩) fun t7 u7 => ∃ v7, cI r3 t7 u7 .i64 v7 ∧
 iP w2 0 fun w7 x7 =>
 isP (some ⟨w7, x7 + 1, none⟩) fun y7 z7 => ∃ a8, cI r3 y7 z7 .i64 a8 ∧
(alW r3 (.cells #[.bool false, .slice none 0 0] 148) fun b8 c8 =>
 sameCells r3 c8 y7 z7 1 ∧ sameCells r3 c8 t7 u7 1 ∧ sameCells r3 c8 o7 p7 1 ∧ sameCells r3 c8 j7 k7 1 ∧ sameCells r3 c8 d7 e7 1 ∧ alW c8 (.cells #[.bool false, .slice none 0 0] 148) fun d8 e8 =>
 sameCells c8 e8 y7 z7 1 ∧ sameCells c8 e8 t7 u7 1 ∧ sameCells c8 e8 o7 p7 1 ∧ sameCells c8 e8 j7 k7 1 ∧ sameCells c8 e8 d7 e7 1 ∧ Ec B 106 #[.pointer (some ⟨d8, 0, none⟩), .pointer l7, .int .u64 (IntKind.u64.wrap (IntKind.i64.wrap (q7 - v7)))] (retE (fun f8 g8 => ∃ i8, f8 = .pointer i8 ∧
 sameCells e8 g8 y7 z7 1 ∧ sameCells e8 g8 d7 e7 1 ∧ Ec B 105 #[.pointer (some ⟨b8, 0, none⟩), .pointer f7, .pointer i8] (retE (fun j8 k8 => ∃ l8, j8 = .pointer l8 ∧
 sameCells g8 k8 y7 z7 1 ∧ isP k2 fun m8 n8 => stC k8 m8 n8 (.pointer l8) fun o8 =>
 stC o8 m8 (n8 + 1) (.int .i64 a8) fun p8 =>
 F66_j220 B R a0 b0 j2 k2 l2 m2 n2 o2 p2 p8)
(fun _ _ => False)) g8)
(fun _ _ => False)) e8) ∧
(alW r3 (.cells #[.bool false, .slice none 0 0] 148) fun q8 r8 =>
 sameCells r3 r8 y7 z7 1 ∧ sameCells r3 r8 t7 u7 1 ∧ sameCells r3 r8 o7 p7 1 ∧ sameCells r3 r8 j7 k7 1 ∧ sameCells r3 r8 d7 e7 1 ∧ (alW r8 (.cells #[.bool false, .slice none 0 0] 148) fun s8 t8 =>
 sameCells r8 t8 y7 z7 1 ∧ sameCells r8 t8 t7 u7 1 ∧ sameCells r8 t8 o7 p7 1 ∧ sameCells r8 t8 j7 k7 1 ∧ sameCells r8 t8 d7 e7 1 ∧ Ec B 106 #[.pointer (some ⟨q8, 0, none⟩), .pointer l7, .int .u64 (IntKind.u64.wrap (IntKind.i64.wrap (q7 - v7)))] (retE (fun u8 v8 => ∃ w8, u8 = .pointer w8 ∧
 sameCells t8 v8 y7 z7 1 ∧ sameCells t8 v8 d7 e7 1 ∧ Ec B 105 #[.pointer (some ⟨s8, 0, none⟩), .pointer f7, .pointer w8] (retE (fun x8 y8 => ∃ z8, x8 = .pointer z8 ∧
 sameCells v8 y8 y7 z7 1 ∧ isP k2 fun a9 b9 => stC y8 a9 b9 (.pointer z8) fun c9 =>
 stC c9 a9 (b9 + 1) (.int .i64 a8) fun d9 =>
 F66_j220 B R a0 b0 j2 k2 l2 m2 n2 o2 p2 d9)
(fun _ _ => False)) v8)
(fun _ _ => False)) t8) ∧
(Ec B 106 #[.pointer (some ⟨q8, 0, none⟩), .pointer l7, .int .u64 (IntKind.u64.wrap (IntKind.i64.wrap (q7 - v7)))] (retE (fun e9 f9 => ∃ g9, e9 = .pointer g9 ∧
 sameCells r8 f9 y7 z7 1 ∧ sameCells r8 f9 d7 e7 1 ∧ alW f9 (.cells #[.bool false, .slice none 0 0] 148) fun i9 j9 =>
 sameCells f9 j9 y7 z7 1 ∧ sameCells f9 j9 t7 u7 1 ∧ sameCells f9 j9 o7 p7 1 ∧ sameCells f9 j9 j7 k7 1 ∧ sameCells f9 j9 d7 e7 1 ∧ Ec B 105 #[.pointer (some ⟨i9, 0, none⟩), .pointer f7, .pointer g9] (retE (fun k9 l9 => ∃ m9, k9 = .pointer m9 ∧
 sameCells j9 l9 y7 z7 1 ∧ isP k2 fun n9 o9 => stC l9 n9 o9 (.pointer m9) fun p9 =>
 stC p9 n9 (o9 + 1) (.int .i64 a8) fun q9 =>
 F66_j220 B R a0 b0 j2 k2 l2 m2 n2 o2 p2 q9)
(fun _ _ => False)) j9)
(fun _ _ => False)) r8)))))
(pk R)) j3))
(pk R)) b3) ∧
((decide (p2 < o2)) = false →
 isP k2 fun r9 s9 =>
∃ t9, cell? i2 ⟨r9, s9, none⟩ = some (.pointer t9) ∧
∃ u9, cell? i2 ⟨r9, s9 + 1, none⟩ = some (.int .i64 u9) ∧
 isP j2 fun v9 w9 => stC i2 v9 w9 (.pointer t9) fun x9 =>
 stC x9 v9 (w9 + 1) (.int .i64 u9) fun y9 =>
 isP j2 fun z9 a10 =>
∃ b10, cell? y9 ⟨z9, a10, none⟩ = some (.pointer b10) ∧
∃ c10, cell? y9 ⟨z9, a10 + 1, none⟩ = some (.int .i64 c10) ∧
 R (.returned (.agg #[.pointer b10, .int .i64 c10])) y9)
def F66_L : Nat → List (Nat × TypeDesc) := fun i => match i with
  | 3 => [(2, .pointer 0), (3, .pointer 0), (8, .slice 0), (9, .int .i64), (10, .int .i64)]
  | _ => []
theorem F66_ok {B : World} {R : Ending → Heap → Prop} (t1 : OA) (u1 v1 : Nat) {h : Heap} (H : F66 B R t1 u1 v1 h) : Ec B 57 #[.slice t1 u1 v1] R h :=
 Ek Tryz.func57 (by kernel_rfl) (by kernel_rfl) (by kernel_rfl) F66_L [] (by kernel_rfl) H

/-- plumb/dyadic.open -/
def F67_j62 (B : World) (R : Po) (a0 : Lp) (b0 : Nat) (c0 : OA) (d0 e0 : Nat) (f0 : OA) (g0 i0 : Nat) (j0 k0 : Int) (l0 : Heap) : Prop :=
 ∃ m0, m0 < b0 ∧ a0 m0 [.slice c0 d0 e0, .slice f0 g0 i0, .int .i64 j0, .int .i64 (IntKind.i64.wrap (k0 + (1 : Int)))] l0
def F67 (B : World) (R : Po) (n0 : OA) (o0 p0 : Nat) (h : Heap) : Prop :=
  0 ≤ (o0 : Int) ∧ (o0 : Int) ≤ (o0 : Int) ∧ 16 * (o0 : Int) ≤ 281474976710656 ∧ (o0 : Int) < 9223372036854775808 ∧
 alW h (.cells (mkCells #[.pointer none, .int .i64 0] (Int.toNat (o0 : Int) * 2)) 89) fun q0 r0 =>
∃ a0 : Lp, ∃ s0, a0 s0 [.slice (some ⟨q0, 0, none⟩) (Int.toNat (o0 : Int)) (Int.toNat (o0 : Int)), .slice n0 o0 p0, .int .i64 (o0 : Int), .int .i64 (0 : Int)] r0 ∧
∀ (b0 : Nat) (t0 : Heap) (u0 : OA) (v0 w0 : Nat) (x0 : OA) (y0 z0 : Nat) (a1 b1 : Int), a0 b0 [.slice u0 v0 w0, .slice x0 y0 z0, .int .i64 a1, .int .i64 b1] t0 → ∀ _r : Nat → Value,
((decide (b1 < a1)) = true →
 ixW x0 y0 b1 3 fun c1 d1 =>
 iP c1 d1 fun e1 f1 =>
∃ g1, cell? t0 ⟨e1, f1, none⟩ = some (.bool g1) ∧
∃ i1 j1 k1, cell? t0 ⟨e1, f1 + 1, none⟩ = some (.slice i1 j1 k1) ∧
∃ l1, cell? t0 ⟨e1, f1 + 1 + 1, none⟩ = some (.int .i64 l1) ∧
 alW t0 (.cells #[.bool false, .slice none 0 0, .int .i64 0] 24) fun m1 n1 =>
 iP m1 0 fun o1 p1 => stC n1 o1 p1 (.bool g1) fun q1 =>
 stC q1 o1 (p1 + 1) (.slice i1 j1 k1) fun r1 =>
 stC r1 o1 (p1 + 1 + 1) (.int .i64 l1) fun s1 =>
 iP m1 0 fun t1 u1 =>
∃ v1, cell? s1 ⟨t1, u1, none⟩ = some (.bool v1) ∧
∃ w1 x1 y1, cell? s1 ⟨t1, u1 + 1, none⟩ = some (.slice w1 x1 y1) ∧
∃ z1, cell? s1 ⟨t1, u1 + 1 + 1, none⟩ = some (.int .i64 z1) ∧
 Ec B 28 #[.agg #[.bool v1, .slice w1 x1 y1, .int .i64 z1]] (retE (fun a2 b2 => ∃ c2, a2 = .bool c2 ∧
((!c2) = true →
 R (.panicked [{ v := .iface 143 (.agg #[.int .i64 (11 : Int)]), recovered := false }]) b2) ∧
((!c2) = false →
 iP m1 0 fun d2 e2 =>
 iP d2 e2 fun f2 g2 => ∃ i2, cell? b2 ⟨f2, g2, none⟩ = some (.bool i2) ∧
 iP m1 0 fun j2 k2 =>
 isP (some ⟨j2, k2 + 1, none⟩) fun l2 m2 => ∃ n2 o2 p2, cS b2 l2 m2 n2 o2 p2 ∧
 iP m1 0 fun q2 r2 =>
 isP (some ⟨q2, r2 + 2, none⟩) fun s2 t2 => ∃ u2, cI b2 s2 t2 .i64 u2 ∧
 Ec B 91 #[.bool i2, .slice n2 o2 p2] (retE (fun v2 w2 => ∃ x2, v2 = .pointer x2 ∧
 sameCells b2 w2 s2 t2 1 ∧ ixW u0 v0 b1 2 fun y2 z2 =>
 iP y2 z2 fun a3 b3 => stC w2 a3 b3 (.pointer x2) fun c3 =>
 stC c3 a3 (b3 + 1) (.int .i64 u2) fun d3 =>
 F67_j62 B R a0 b0 u0 v0 w0 x0 y0 z0 a1 b1 d3)
(fun _ _ => False)) b2))
(pk R)) s1) ∧
((decide (b1 < a1)) = false →
 R (.returned (.slice u0 v0 w0)) t0)
def F67_L : Nat → List (Nat × TypeDesc) := fun i => match i with
  | 3 => [(3, .slice 0), (9, .slice 0), (10, .int .i64), (11, .int .i64)]
  | _ => []
theorem F67_ok {B : World} {R : Ending → Heap → Prop} (n0 : OA) (o0 p0 : Nat) {h : Heap} (H : F67 B R n0 o0 p0 h) : Ec B 54 #[.slice n0 o0 p0] R h :=
 Ek Tryz.func54 (by kernel_rfl) (by kernel_rfl) (by kernel_rfl) F67_L [] (by kernel_rfl) H

/-- plumb/dyadic.times -/
def F68_j42 (B : World) (R : Po) (a0 : OA) (b0 : Heap) : Prop :=
 isP a0 fun c0 d0 =>
∃ e0, cell? b0 ⟨c0, d0, none⟩ = some (.pointer e0) ∧
∃ f0, cell? b0 ⟨c0, d0 + 1, none⟩ = some (.int .i64 f0) ∧
 R (.returned (.agg #[.pointer e0, .int .i64 f0])) b0
def F68 (B : World) (R : Po) (g0 : OA) (i0 : Int) (j0 : OA) (k0 : Int) (h : Heap) : Prop :=
 alW h (.cells #[.pointer g0, .int .i64 i0] 89) fun l0 m0 =>
 alW m0 (.cells #[.pointer j0, .int .i64 k0] 89) fun n0 o0 =>
 alW o0 (.cells #[.pointer none, .int .i64 0] 89) fun p0 q0 =>
 iP l0 0 fun r0 s0 =>
 iP r0 s0 fun t0 u0 => ∃ v0, cell? q0 ⟨t0, u0, none⟩ = some (.pointer v0) ∧
 iP n0 0 fun w0 x0 =>
 iP w0 x0 fun y0 z0 => ∃ a1, cell? q0 ⟨y0, z0, none⟩ = some (.pointer a1) ∧
 iP l0 0 fun b1 c1 =>
 isP (some ⟨b1, c1 + 1, none⟩) fun d1 e1 => ∃ f1, cI q0 d1 e1 .i64 f1 ∧
 iP n0 0 fun g1 i1 =>
 isP (some ⟨g1, i1 + 1, none⟩) fun j1 k1 => ∃ l1, cI q0 j1 k1 .i64 l1 ∧
 alW q0 (.cells #[.bool false, .slice none 0 0] 148) fun m1 n1 =>
 sameCells q0 n1 j1 k1 1 ∧ sameCells q0 n1 d1 e1 1 ∧ sameCells q0 n1 y0 z0 1 ∧ sameCells q0 n1 t0 u0 1 ∧ Ec B 147 #[.pointer (some ⟨m1, 0, none⟩), .pointer v0, .pointer a1] (retE (fun o1 p1 => ∃ q1, o1 = .pointer q1 ∧
 sameCells n1 p1 j1 k1 1 ∧ sameCells n1 p1 d1 e1 1 ∧ iP p0 0 fun r1 s1 => stC p1 r1 s1 (.pointer q1) fun t1 =>
 stC t1 r1 (s1 + 1) (.int .i64 (IntKind.i64.wrap (f1 + l1))) fun u1 =>
 F68_j42 B R (some ⟨p0, 0, none⟩) u1)
(fun _ _ => False)) n1
def F68_L : Nat → List (Nat × TypeDesc) := fun _ => []
theorem F68_ok {B : World} {R : Ending → Heap → Prop} (g0 : OA) (i0 : Int) (j0 : OA) (k0 : Int) {h : Heap} (H : F68 B R g0 i0 j0 k0 h) : Ec B 116 #[.agg #[.pointer g0, .int .i64 i0], .agg #[.pointer j0, .int .i64 k0]] R h :=
 Ek Tryz.func116 (by kernel_rfl) (by kernel_rfl) (by kernel_rfl) F68_L [] (by kernel_rfl) H

/-- plumb/dyadic.Valid -/
def F129_j21 (B : World) (R : Po) (a0 : Bool) (b0 : Heap) : Prop :=
 R (.returned (.bool a0)) b0
def F129_j54 (B : World) (R : Po) (c0 : Bool) (d0 : Heap) : Prop :=
 R (.returned (.bool c0)) d0
def F129 (B : World) (R : Po) (e0 : Bool) (f0 : OA) (g0 i0 : Nat) (j0 : Int) (h : Heap) : Prop :=
 alW h (.cells #[.bool e0, .slice f0 g0 i0, .int .i64 j0] 24) fun k0 l0 =>
 iP k0 0 fun m0 n0 =>
 isP (some ⟨m0, n0 + 1, none⟩) fun o0 p0 => ∃ q0 r0 s0, cS l0 o0 p0 q0 r0 s0 ∧
((decide ((r0 : Int) = (0 : Int))) = true →
 iP k0 0 fun t0 u0 =>
 iP t0 u0 fun v0 w0 => ∃ x0, cell? l0 ⟨v0, w0, none⟩ = some (.bool x0) ∧
((!x0) = true →
 iP k0 0 fun y0 z0 =>
 isP (some ⟨y0, z0 + 2, none⟩) fun a1 b1 => ∃ c1, cI l0 a1 b1 .i64 c1 ∧
 F129_j21 B R (decide (c1 = (0 : Int))) l0) ∧
((!x0) = false →
 F129_j21 B R false l0)) ∧
((decide ((r0 : Int) = (0 : Int))) = false →
 iP k0 0 fun d1 e1 =>
 isP (some ⟨d1, e1 + 1, none⟩) fun f1 g1 => ∃ i1 j1 k1, cS l0 f1 g1 i1 j1 k1 ∧
 Ec B 48 #[.slice i1 j1 k1] (retE (fun l1 m1 => ∃ n1, l1 = .bool n1 ∧
(n1 = true →
 iP k0 0 fun o1 p1 =>
 isP (some ⟨o1, p1 + 1, none⟩) fun q1 r1 => ∃ s1 t1 u1, cS m1 q1 r1 s1 t1 u1 ∧
 ixW s1 t1 (0 : Int) 1 fun v1 w1 =>
 iP v1 w1 fun x1 y1 => ∃ z1, cI m1 x1 y1 .i64 z1 ∧
((decide ((bitsI .and .i64 z1 (1 : Int)) = (1 : Int))) = true →
 iP k0 0 fun a2 b2 =>
 isP (some ⟨a2, b2 + 2, none⟩) fun c2 d2 => ∃ e2, cI m1 c2 d2 .i64 e2 ∧
((decide ((-1048576 : Int) ≤ e2)) = true →
 iP k0 0 fun f2 g2 =>
 isP (some ⟨f2, g2 + 2, none⟩) fun i2 j2 => ∃ k2, cI m1 i2 j2 .i64 k2 ∧
 F129_j54 B R (decide (k2 ≤ (1048576 : Int))) m1) ∧
((decide ((-1048576 : Int) ≤ e2)) = false →
 F129_j54 B R false m1)) ∧
((decide ((bitsI .and .i64 z1 (1 : Int)) = (1 : Int))) = false →
(false = true →
 iP k0 0 fun l2 m2 =>
 isP (some ⟨l2, m2 + 2, none⟩) fun n2 o2 => ∃ p2, cI m1 n2 o2 .i64 p2 ∧
 F129_j54 B R (decide (p2 ≤ (1048576 : Int))) m1) ∧
(false = false →
 F129_j54 B R false m1))) ∧
(n1 = false →
(false = true →
 iP k0 0 fun q2 r2 =>
 isP (some ⟨q2, r2 + 2, none⟩) fun s2 t2 => ∃ u2, cI m1 s2 t2 .i64 u2 ∧
((decide ((-1048576 : Int) ≤ u2)) = true →
 iP k0 0 fun v2 w2 =>
 isP (some ⟨v2, w2 + 2, none⟩) fun x2 y2 => ∃ z2, cI m1 x2 y2 .i64 z2 ∧
 F129_j54 B R (decide (z2 ≤ (1048576 : Int))) m1) ∧
((decide ((-1048576 : Int) ≤ u2)) = false →
 F129_j54 B R false m1)) ∧
(false = false →
(false = true →
 iP k0 0 fun a3 b3 =>
 isP (some ⟨a3, b3 + 2, none⟩) fun c3 d3 => ∃ e3, cI m1 c3 d3 .i64 e3 ∧
 F129_j54 B R (decide (e3 ≤ (1048576 : Int))) m1) ∧
(false = false →
 F129_j54 B R false m1))))
(pk R)) l0)
def F129_L : Nat → List (Nat × TypeDesc) := fun _ => []
theorem F129_ok {B : World} {R : Ending → Heap → Prop} (e0 : Bool) (f0 : OA) (g0 i0 : Nat) (j0 : Int) {h : Heap} (H : F129 B R e0 f0 g0 i0 j0 h) : Ec B 28 #[.agg #[.bool e0, .slice f0 g0 i0, .int .i64 j0]] R h :=
 Ek Tryz.func28 (by kernel_rfl) (by kernel_rfl) (by kernel_rfl) F129_L [] (by kernel_rfl) H

/-- plumb/dyadic.whole -/
def F130_j40 (B : World) (R : Po) (a0 : Lp) (b0 : Nat) (c0 : OA) (d0 : Heap) : Prop :=
 R (.returned (.pointer c0)) d0
def F130 (B : World) (R : Po) (e0 : Bool) (f0 : OA) (g0 i0 : Nat) (h : Heap) : Prop :=
 alW h (.cells #[.bool false, .slice none 0 0] 148) fun j0 k0 =>
∃ a0 : Lp, ∃ l0, a0 l0 [.bool e0, .slice f0 g0 i0, .pointer (some ⟨j0, 0, none⟩), .int .i64 (g0 : Int), .int .i64 (0 : Int)] k0 ∧
∀ (b0 : Nat) (m0 : Heap) (n0 : Bool) (o0 : OA) (p0 q0 : Nat) (r0 : OA) (s0 t0 : Int), a0 b0 [.bool n0, .slice o0 p0 q0, .pointer r0, .int .i64 s0, .int .i64 t0] m0 → ∀ _r : Nat → Value,
((decide (t0 < s0)) = true →
 Ec B 106 #[.pointer r0, .pointer r0, .int .u64 (30 : Int)] (retE (fun u0 v0 => ∃ w0, u0 = .pointer w0 ∧
 ixW o0 p0 (IntKind.i64.wrap ((IntKind.i64.wrap ((p0 : Int) - (1 : Int))) - t0)) 1 fun x0 y0 =>
 iP x0 y0 fun z0 a1 => ∃ b1, cI v0 z0 a1 .i64 b1 ∧
 Ec B 90 #[.int .i64 b1] (retE (fun c1 d1 => ∃ e1, c1 = .pointer e1 ∧
 Ec B 120 #[.pointer r0, .pointer r0, .pointer e1] (retE (fun f1 g1 => ∃ i1, f1 = .pointer i1 ∧
∃ j1, j1 < b0 ∧ a0 j1 [.bool n0, .slice o0 p0 q0, .pointer r0, .int .i64 s0, .int .i64 (IntKind.i64.wrap (t0 + (1 : Int)))] g1)
(pk R)) d1)
(pk R)) v0)
(pk R)) m0) ∧
((decide (t0 < s0)) = false →
(n0 = true →
 Ec B 55 #[.pointer r0, .pointer r0] (retE (fun k1 l1 => ∃ m1, k1 = .pointer m1 ∧
 F130_j40 B R a0 b0 r0 l1)
(pk R)) m0) ∧
(n0 = false →
 F130_j40 B R a0 b0 r0 m0))
def F130_L : Nat → List (Nat × TypeDesc) := fun i => match i with
  | 3 => [(0, .bool), (1, .slice 0), (5, .pointer 0), (9, .int .i64), (10, .int .i64)]
  | _ => []
theorem F130_ok {B : World} {R : Ending → Heap → Prop} (e0 : Bool) (f0 : OA) (g0 i0 : Nat) {h : Heap} (H : F130 B R e0 f0 g0 i0 h) : Ec B 91 #[.bool e0, .slice f0 g0 i0] R h :=
 Ek Tryz.func91 (by kernel_rfl) (by kernel_rfl) (by kernel_rfl) F130_L [] (by kernel_rfl) H

/-- plumb/nat.Valid -/
def F174_j15 (B : World) (R : Po) (a0 : Lp) (b0 : Nat) (c0 : OA) (d0 e0 : Nat) (f0 : OA) (g0 i0 : Nat) (j0 k0 : Int) (l0 : Bool) (m0 : Heap) : Prop :=
(l0 = true →
 R (.returned (.bool false)) m0) ∧
(l0 = false →
 ∃ n0, n0 < b0 ∧ a0 n0 [.slice c0 d0 e0, .slice f0 g0 i0, .int .i64 j0, .int .i64 (IntKind.i64.wrap (k0 + (1 : Int)))] m0)
def F174_j23 (B : World) (R : Po) (a0 : Lp) (b0 : Nat) (o0 : Bool) (p0 : Heap) : Prop :=
 R (.returned (.bool o0)) p0
def F174 (B : World) (R : Po) (q0 : OA) (r0 s0 : Nat) (h : Heap) : Prop :=
 ∃ a0 : Lp, ∃ t0, a0 t0 [.slice q0 r0 s0, .slice q0 r0 s0, .int .i64 (r0 : Int), .int .i64 (0 : Int)] h ∧
∀ (b0 : Nat) (u0 : Heap) (v0 : OA) (w0 x0 : Nat) (y0 : OA) (z0 a1 : Nat) (b1 c1 : Int), a0 b0 [.slice v0 w0 x0, .slice y0 z0 a1, .int .i64 b1, .int .i64 c1] u0 → ∀ _r : Nat → Value,
((decide (c1 < b1)) = true →
 ixW y0 z0 c1 1 fun d1 e1 =>
 iP d1 e1 fun f1 g1 => ∃ i1, cI u0 f1 g1 .i64 i1 ∧
((decide (i1 < (0 : Int))) = true →
 F174_j15 B R a0 b0 v0 w0 x0 y0 z0 a1 b1 c1 true u0) ∧
((decide (i1 < (0 : Int))) = false →
 F174_j15 B R a0 b0 v0 w0 x0 y0 z0 a1 b1 c1 (decide ((1073741824 : Int) ≤ i1)) u0)) ∧
((decide (c1 < b1)) = false →
((decide ((w0 : Int) ≤ (2000 : Int))) = true →
((decide ((w0 : Int) = (0 : Int))) = true →
 F174_j23 B R a0 b0 true u0) ∧
((decide ((w0 : Int) = (0 : Int))) = false →
 ixW v0 w0 (IntKind.i64.wrap ((w0 : Int) - (1 : Int))) 1 fun j1 k1 =>
 iP j1 k1 fun l1 m1 => ∃ n1, cI u0 l1 m1 .i64 n1 ∧
 F174_j23 B R a0 b0 (!decide (n1 = (0 : Int))) u0)) ∧
((decide ((w0 : Int) ≤ (2000 : Int))) = false →
 F174_j23 B R a0 b0 false u0))
def F174_L : Nat → List (Nat × TypeDesc) := fun i => match i with
  | 2 => [(0, .slice 0), (5, .slice 0), (6, .int .i64), (7, .int .i64)]
  | _ => []
theorem F174_ok {B : World} {R : Ending → Heap → Prop} (q0 : OA) (r0 s0 : Nat) {h : Heap} (H : F174 B R q0 r0 s0 h) : Ec B 48 #[.slice q0 r0 s0] R h :=
 Ek Tryz.func48 (by kernel_rfl) (by kernel_rfl) (by kernel_rfl) F174_L [] (by kernel_rfl) H

/-- plumb/bits.Class -/
def F17 (B : World) (R : Po) (a0 : Int) (h : Heap) : Prop :=
  0 ≤ (52 : Int) ∧
 Ec B 43 #[.int .i64 (bitsI .and .i64 (Int.fdiv a0 (2 ^ min (Int.toNat (52 : Int)) IntKind.i64.bits)) (2047 : Int)), .int .i64 (bitsI .and .i64 a0 (4503599627370495 : Int)), .int .i64 (2047 : Int)] (retE (fun b0 c0 => ∃ d0, b0 = .int .i64 d0 ∧
 R (.returned (.int .i64 d0)) c0)
(pk R)) h
def F17_L : Nat → List (Nat × TypeDesc) := fun _ => []
theorem F17_ok {B : World} {R : Ending → Heap → Prop} (a0 : Int) {h : Heap} (H : F17 B R a0 h) : Ec B 23 #[.int .i64 a0] R h :=
 Ek Tryz.func23 (by kernel_rfl) (by kernel_rfl) (by kernel_rfl) F17_L [] (by kernel_rfl) H

/-- plumb/bits.classed -/
def F53_j11 (B : World) (R : Po) (a0 : Int) (b0 : Heap) : Prop :=
 R (.returned (.int .i64 a0)) b0
def F53_j14 (B : World) (R : Po) (c0 : Int) (d0 : Heap) : Prop :=
 F53_j11 B R c0 d0
def F53_j22 (B : World) (R : Po) (e0 : Int) (f0 : Heap) : Prop :=
 F53_j14 B R e0 f0
def F53_j25 (B : World) (R : Po) (g0 : Int) (i0 : Heap) : Prop :=
 F53_j22 B R g0 i0
def F53_j17 (B : World) (R : Po) (j0 k0 : Int) (l0 : Bool) (m0 : Heap) : Prop :=
(l0 = true →
 F53_j22 B R (0 : Int) m0) ∧
(l0 = false →
((decide (j0 = (0 : Int))) = true →
 F53_j25 B R (1 : Int) m0) ∧
((decide (j0 = (0 : Int))) = false →
 F53_j25 B R k0 m0))
def F53_j4 (B : World) (R : Po) (n0 o0 p0 q0 : Int) (r0 : Bool) (s0 : Heap) : Prop :=
(r0 = true →
 F53_j11 B R (4 : Int) s0) ∧
(r0 = false →
((decide (n0 = p0)) = true →
 F53_j14 B R (3 : Int) s0) ∧
((decide (n0 = p0)) = false →
((decide (n0 = (0 : Int))) = true →
 F53_j17 B R n0 q0 (decide (o0 = (0 : Int))) s0) ∧
((decide (n0 = (0 : Int))) = false →
 F53_j17 B R n0 q0 false s0)))
def F53 (B : World) (R : Po) (t0 u0 v0 : Int) (h : Heap) : Prop :=
((decide (t0 = v0)) = true →
 F53_j4 B R t0 u0 v0 (2 : Int) (!decide (u0 = (0 : Int))) h) ∧
((decide (t0 = v0)) = false →
 F53_j4 B R t0 u0 v0 (2 : Int) false h)
def F53_L : Nat → List (Nat × TypeDesc) := fun _ => []
theorem F53_ok {B : World} {R : Ending → Heap → Prop} (t0 u0 v0 : Int) {h : Heap} (H : F53 B R t0 u0 v0 h) : Ec B 43 #[.int .i64 t0, .int .i64 u0, .int .i64 v0] R h :=
 Ek Tryz.func43 (by kernel_rfl) (by kernel_rfl) (by kernel_rfl) F53_L [] (by kernel_rfl) H

/-- plumb/bits.Float -/
def F54 (B : World) (R : Po) (a0 : Int) (h : Heap) : Prop :=
 Ec B 46 #[.int .u64 (IntKind.u64.wrap a0)] (retE (fun b0 c0 => ∃ d0, b0 = .float .f64 d0 ∧
 R (.returned (.float .f64 d0)) c0)
(pk R)) h
def F54_L : Nat → List (Nat × TypeDesc) := fun _ => []
theorem F54_ok {B : World} {R : Ending → Heap → Prop} (a0 : Int) {h : Heap} (H : F54 B R a0 h) : Ec B 27 #[.int .i64 a0] R h :=
 Ek Tryz.func27 (by kernel_rfl) (by kernel_rfl) (by kernel_rfl) F54_L [] (by kernel_rfl) H

/-- plumb/eft.twoSum -/
def F55 (B : World) (R : Po) (a0 b0 : Nat) (h : Heap) : Prop :=
 flW .f64 (FloatKind.f64.format.add a0 b0) a0 b0 fun c0 =>
 flW .f64 (FloatKind.f64.format.sub c0 a0) c0 a0 fun d0 =>
 flW .f64 (FloatKind.f64.format.sub c0 d0) c0 d0 fun e0 =>
 flW .f64 (FloatKind.f64.format.sub a0 e0) a0 e0 fun f0 =>
 flW .f64 (FloatKind.f64.format.sub b0 d0) b0 d0 fun g0 =>
 flW .f64 (FloatKind.f64.format.add f0 g0) f0 g0 fun i0 =>
 R (.returned (.tuple #[.float .f64 c0, .float .f64 i0])) h
def F55_L : Nat → List (Nat × TypeDesc) := fun _ => []
theorem F55_ok {B : World} {R : Ending → Heap → Prop} (a0 b0 : Nat) {h : Heap} (H : F55 B R a0 b0 h) : Ec B 67 #[.float .f64 a0, .float .f64 b0] R h :=
 Ek Tryz.func67 (by kernel_rfl) (by kernel_rfl) (by kernel_rfl) F55_L [] (by kernel_rfl) H

/-- plumb/bits.Of -/
def F56 (B : World) (R : Po) (a0 : Nat) (h : Heap) : Prop :=
((FloatKind.f64.format.order a0 a0 != some .eq) = true →
 R (.returned (.int .i64 (9221120237041090561 : Int))) h) ∧
((FloatKind.f64.format.order a0 a0 != some .eq) = false →
 Ec B 47 #[.float .f64 a0] (retE (fun b0 c0 => ∃ d0, b0 = .int .u64 d0 ∧
 R (.returned (.int .i64 (IntKind.i64.wrap d0))) c0)
(pk R)) h)
def F56_L : Nat → List (Nat × TypeDesc) := fun _ => []
theorem F56_ok {B : World} {R : Ending → Heap → Prop} (a0 : Nat) {h : Heap} (H : F56 B R a0 h) : Ec B 68 #[.float .f64 a0] R h :=
 Ek Tryz.func68 (by kernel_rfl) (by kernel_rfl) (by kernel_rfl) F56_L [] (by kernel_rfl) H

/-- plumb/eft.sum -/
def F57 (B : World) (R : Po) (a0 b0 c0 d0 : Nat) (h : Heap) : Prop :=
 alW h (.cells #[.float .f64 c0, .float .f64 d0, .float .f64 a0, .float .f64 b0] 49) fun e0 f0 =>
 Ec B 71 #[.slice (some ⟨e0, 0, none⟩) 4 4] (retE (fun g0 i0 => ∃ j0, g0 = .bool j0 ∧
((!j0) = true →
 R (.returned (.bool false)) i0) ∧
((!j0) = false →
 Ec B 73 #[.float .f64 c0] (retE (fun k0 l0 => ∃ m0 n0 o0 p0 q0, k0 = .agg #[.bool m0, .slice n0 o0 p0, .int .i64 q0] ∧
 Ec B 73 #[.float .f64 d0] (retE (fun r0 s0 => ∃ t0 u0 v0 w0 x0, r0 = .agg #[.bool t0, .slice u0 v0 w0, .int .i64 x0] ∧
 Ec B 115 #[.agg #[.bool m0, .slice n0 o0 p0, .int .i64 q0], .agg #[.bool t0, .slice u0 v0 w0, .int .i64 x0]] (retE (fun y0 z0 => ∃ a1 b1 c1 d1 e1 f1, y0 = .tuple #[.agg #[.bool a1, .slice b1 c1 d1, .int .i64 e1], .int .i64 f1] ∧
 alW z0 (.cells #[.bool false, .slice none 0 0, .int .i64 0] 24) fun g1 i1 =>
 iP g1 0 fun j1 k1 => stC i1 j1 k1 (.bool a1) fun l1 =>
 stC l1 j1 (k1 + 1) (.slice b1 c1 d1) fun m1 =>
 stC m1 j1 (k1 + 1 + 1) (.int .i64 e1) fun n1 =>
 iP g1 0 fun o1 p1 =>
∃ q1, cell? n1 ⟨o1, p1, none⟩ = some (.bool q1) ∧
∃ r1 s1 t1, cell? n1 ⟨o1, p1 + 1, none⟩ = some (.slice r1 s1 t1) ∧
∃ u1, cell? n1 ⟨o1, p1 + 1 + 1, none⟩ = some (.int .i64 u1) ∧
 Ec B 74 #[.float .f64 a0, .float .f64 b0, .agg #[.bool q1, .slice r1 s1 t1, .int .i64 u1]] (retE (fun v1 w1 => ∃ x1, v1 = .bool x1 ∧
 R (.returned (.bool x1)) w1)
(pk R)) n1)
(pk R)) s0)
(pk R)) l0)
(pk R)) i0))
(pk R)) f0
def F57_L : Nat → List (Nat × TypeDesc) := fun _ => []
theorem F57_ok {B : World} {R : Ending → Heap → Prop} (a0 b0 c0 d0 : Nat) {h : Heap} (H : F57 B R a0 b0 c0 d0 h) : Ec B 69 #[.float .f64 a0, .float .f64 b0, .float .f64 c0, .float .f64 d0] R h :=
 Ek Tryz.func69 (by kernel_rfl) (by kernel_rfl) (by kernel_rfl) F57_L [] (by kernel_rfl) H

/-- plumb/eft.split -/
def F58 (B : World) (R : Po) (a0 : Nat) (h : Heap) : Prop :=
 flW .f64 (FloatKind.f64.format.mul 4728779608772575232 a0) 4728779608772575232 a0 fun b0 =>
 flW .f64 (FloatKind.f64.format.sub b0 a0) b0 a0 fun c0 =>
 flW .f64 (FloatKind.f64.format.sub b0 c0) b0 c0 fun d0 =>
 flW .f64 (FloatKind.f64.format.sub a0 d0) a0 d0 fun e0 =>
 R (.returned (.tuple #[.float .f64 d0, .float .f64 e0])) h
def F58_L : Nat → List (Nat × TypeDesc) := fun _ => []
theorem F58_ok {B : World} {R : Ending → Heap → Prop} (a0 : Nat) {h : Heap} (H : F58 B R a0 h) : Ec B 70 #[.float .f64 a0] R h :=
 Ek Tryz.func70 (by kernel_rfl) (by kernel_rfl) (by kernel_rfl) F58_L [] (by kernel_rfl) H

/-- plumb/eft.finite -/
def F59_j14 (B : World) (R : Po) (a0 : Lp) (b0 : Nat) (c0 : OA) (d0 e0 : Nat) (f0 g0 : Int) (i0 : Bool) (j0 : Heap) : Prop :=
(i0 = true →
 R (.returned (.bool false)) j0) ∧
(i0 = false →
 ∃ k0, k0 < b0 ∧ a0 k0 [.slice c0 d0 e0, .int .i64 f0, .int .i64 (IntKind.i64.wrap (g0 + (1 : Int)))] j0)
def F59 (B : World) (R : Po) (l0 : OA) (m0 n0 : Nat) (h : Heap) : Prop :=
 ∃ a0 : Lp, ∃ o0, a0 o0 [.slice l0 m0 n0, .int .i64 (m0 : Int), .int .i64 (0 : Int)] h ∧
∀ (b0 : Nat) (p0 : Heap) (q0 : OA) (r0 s0 : Nat) (t0 u0 : Int), a0 b0 [.slice q0 r0 s0, .int .i64 t0, .int .i64 u0] p0 → ∀ _r : Nat → Value,
((decide (u0 < t0)) = true →
 ixW q0 r0 u0 1 fun v0 w0 =>
 iP v0 w0 fun x0 y0 => ∃ z0, cell? p0 ⟨x0, y0, none⟩ = some (.float .f64 z0) ∧
((FloatKind.f64.format.order z0 z0 != some .eq) = true →
 F59_j14 B R a0 b0 q0 r0 s0 t0 u0 true p0) ∧
((FloatKind.f64.format.order z0 z0 != some .eq) = false →
 Ec B 75 #[.float .f64 z0, .int .i64 (0 : Int)] (retE (fun a1 b1 => ∃ c1, a1 = .bool c1 ∧
 F59_j14 B R a0 b0 q0 r0 s0 t0 u0 c1 b1)
(pk R)) p0)) ∧
((decide (u0 < t0)) = false →
 R (.returned (.bool true)) p0)
def F59_L : Nat → List (Nat × TypeDesc) := fun i => match i with
  | 2 => [(5, .slice 0), (6, .int .i64), (7, .int .i64)]
  | _ => []
theorem F59_ok {B : World} {R : Ending → Heap → Prop} (l0 : OA) (m0 n0 : Nat) {h : Heap} (H : F59 B R l0 m0 n0 h) : Ec B 71 #[.slice l0 m0 n0] R h :=
 Ek Tryz.func71 (by kernel_rfl) (by kernel_rfl) (by kernel_rfl) F59_L [] (by kernel_rfl) H

/-- plumb/bits.Neg -/
def F99 (B : World) (R : Po) (a0 : Int) (h : Heap) : Prop :=
 Ec B 23 #[.int .i64 a0] (retE (fun b0 c0 => ∃ d0, b0 = .int .i64 d0 ∧
((decide (d0 = (4 : Int))) = true →
 R (.returned (.int .i64 (9221120237041090561 : Int))) c0) ∧
((decide (d0 = (4 : Int))) = false →
 R (.returned (.int .i64 (bitsI .xor .i64 a0 (-9223372036854775808 : Int)))) c0))
(pk R)) h
def F99_L : Nat → List (Nat × TypeDesc) := fun _ => []
theorem F99_ok {B : World} {R : Ending → Heap → Prop} (a0 : Int) {h : Heap} (H : F99 B R a0 h) : Ec B 130 #[.int .i64 a0] R h :=
 Ek Tryz.func130 (by kernel_rfl) (by kernel_rfl) (by kernel_rfl) F99_L [] (by kernel_rfl) H

/-- plumb/eft.TwoProd -/
def F19_j80 (B : World) (R : Po) (a0 : Bool) (b0 c0 : Nat) (d0 : Heap) : Prop :=
 Ec B 68 #[.float .f64 b0] (retE (fun e0 f0 => ∃ g0, e0 = .int .i64 g0 ∧
 Ec B 68 #[.float .f64 c0] (retE (fun i0 j0 => ∃ k0, i0 = .int .i64 k0 ∧
 R (.returned (.tuple #[.int .i64 g0, .int .i64 k0, .bool a0])) j0)
(pk R)) f0)
(pk R)) d0
def F19 (B : World) (R : Po) (l0 m0 : Int) (h : Heap) : Prop :=
 Ec B 27 #[.int .i64 l0] (retE (fun n0 o0 => ∃ p0, n0 = .float .f64 p0 ∧
 Ec B 27 #[.int .i64 m0] (retE (fun q0 r0 => ∃ s0, q0 = .float .f64 s0 ∧
 flW .f64 (FloatKind.f64.format.mul p0 s0) p0 s0 fun t0 =>
 Ec B 70 #[.float .f64 p0] (retE (fun u0 v0 => ∃ w0 x0, u0 = .tuple #[.float .f64 w0, .float .f64 x0] ∧
 Ec B 70 #[.float .f64 s0] (retE (fun y0 z0 => ∃ a1 b1, y0 = .tuple #[.float .f64 a1, .float .f64 b1] ∧
 flW .f64 (FloatKind.f64.format.mul x0 b1) x0 b1 fun c1 =>
 flW .f64 (FloatKind.f64.format.mul w0 a1) w0 a1 fun d1 =>
 flW .f64 (FloatKind.f64.format.sub t0 d1) t0 d1 fun e1 =>
 flW .f64 (FloatKind.f64.format.mul x0 a1) x0 a1 fun f1 =>
 flW .f64 (FloatKind.f64.format.sub e1 f1) e1 f1 fun g1 =>
 flW .f64 (FloatKind.f64.format.mul w0 b1) w0 b1 fun i1 =>
 flW .f64 (FloatKind.f64.format.sub g1 i1) g1 i1 fun j1 =>
 flW .f64 (FloatKind.f64.format.sub c1 j1) c1 j1 fun k1 =>
 alW z0 (.cells #[.float .f64 p0, .float .f64 s0] 49) fun l1 m1 =>
 Ec B 71 #[.slice (some ⟨l1, 0, none⟩) 2 2] (retE (fun n1 o1 => ∃ p1, n1 = .bool p1 ∧
(p1 = true →
 Ec B 73 #[.float .f64 p0] (retE (fun q1 r1 => ∃ s1 t1 u1 v1 w1, q1 = .agg #[.bool s1, .slice t1 u1 v1, .int .i64 w1] ∧
 Ec B 73 #[.float .f64 s0] (retE (fun x1 y1 => ∃ z1 a2 b2 c2 d2, x1 = .agg #[.bool z1, .slice a2 b2 c2, .int .i64 d2] ∧
 Ec B 72 #[.agg #[.bool s1, .slice t1 u1 v1, .int .i64 w1], .agg #[.bool z1, .slice a2 b2 c2, .int .i64 d2]] (retE (fun e2 f2 => ∃ g2 i2 j2 k2 l2 m2, e2 = .tuple #[.agg #[.bool g2, .slice i2 j2 k2, .int .i64 l2], .int .i64 m2] ∧
 alW f2 (.cells #[.bool false, .slice none 0 0, .int .i64 0] 24) fun n2 o2 =>
 iP n2 0 fun p2 q2 => stC o2 p2 q2 (.bool g2) fun r2 =>
 stC r2 p2 (q2 + 1) (.slice i2 j2 k2) fun s2 =>
 stC s2 p2 (q2 + 1 + 1) (.int .i64 l2) fun t2 =>
 iP n2 0 fun u2 v2 =>
∃ w2, cell? t2 ⟨u2, v2, none⟩ = some (.bool w2) ∧
∃ x2 y2 z2, cell? t2 ⟨u2, v2 + 1, none⟩ = some (.slice x2 y2 z2) ∧
∃ a3, cell? t2 ⟨u2, v2 + 1 + 1, none⟩ = some (.int .i64 a3) ∧
 Ec B 74 #[.float .f64 t0, .float .f64 k1, .agg #[.bool w2, .slice x2 y2 z2, .int .i64 a3]] (retE (fun b3 c3 => ∃ d3, b3 = .bool d3 ∧
 F19_j80 B R d3 t0 k1 c3)
(pk R)) t2)
(pk R)) y1)
(pk R)) r1)
(pk R)) o1) ∧
(p1 = false →
 F19_j80 B R false t0 k1 o1))
(pk R)) m1)
(pk R)) v0)
(pk R)) r0)
(pk R)) o0)
(pk R)) h
def F19_L : Nat → List (Nat × TypeDesc) := fun _ => []
theorem F19_ok {B : World} {R : Ending → Heap → Prop} (l0 m0 : Int) {h : Heap} (H : F19 B R l0 m0 h) : Ec B 41 #[.int .i64 l0, .int .i64 m0] R h :=
 Ek Tryz.func41 (by kernel_rfl) (by kernel_rfl) (by kernel_rfl) F19_L [] (by kernel_rfl) H

/-- plumb/eft.TwoSum -/
def F18 (B : World) (R : Po) (a0 b0 : Int) (h : Heap) : Prop :=
 Ec B 27 #[.int .i64 a0] (retE (fun c0 d0 => ∃ e0, c0 = .float .f64 e0 ∧
 Ec B 27 #[.int .i64 b0] (retE (fun f0 g0 => ∃ i0, f0 = .float .f64 i0 ∧
 Ec B 67 #[.float .f64 e0, .float .f64 i0] (retE (fun j0 k0 => ∃ l0 m0, j0 = .tuple #[.float .f64 l0, .float .f64 m0] ∧
 Ec B 68 #[.float .f64 l0] (retE (fun n0 o0 => ∃ p0, n0 = .int .i64 p0 ∧
 Ec B 68 #[.float .f64 m0] (retE (fun q0 r0 => ∃ s0, q0 = .int .i64 s0 ∧
 Ec B 69 #[.float .f64 l0, .float .f64 m0, .float .f64 e0, .float .f64 i0] (retE (fun t0 u0 => ∃ v0, t0 = .bool v0 ∧
 R (.returned (.tuple #[.int .i64 p0, .int .i64 s0, .bool v0])) u0)
(pk R)) r0)
(pk R)) o0)
(pk R)) k0)
(pk R)) g0)
(pk R)) d0)
(pk R)) h
def F18_L : Nat → List (Nat × TypeDesc) := fun _ => []
theorem F18_ok {B : World} {R : Ending → Heap → Prop} (a0 b0 : Int) {h : Heap} (H : F18 B R a0 b0 h) : Ec B 39 #[.int .i64 a0, .int .i64 b0] R h :=
 Ek Tryz.func39 (by kernel_rfl) (by kernel_rfl) (by kernel_rfl) F18_L [] (by kernel_rfl) H

/-- math.IsInf -/
def F118_j8 (B : World) (R : Po) (a0 : Nat) (b0 : Heap) : Prop :=
 R (.returned (.bool (FloatKind.f64.format.order a0 9218868437227405311 == some .gt))) b0
def F118_j11 (B : World) (R : Po) (c0 : Nat) (d0 : Heap) : Prop :=
 F118_j8 B R c0 d0
def F118 (B : World) (R : Po) (e0 : Nat) (f0 : Int) (h : Heap) : Prop :=
((decide (f0 = (0 : Int))) = true →
 Ec B 26 #[.float .f64 e0] (retE (fun g0 i0 => ∃ j0, g0 = .float .f64 j0 ∧
 F118_j8 B R j0 i0)
(pk R)) h) ∧
((decide (f0 = (0 : Int))) = false →
((decide (f0 < (0 : Int))) = true →
 F118_j11 B R (Op.negFloat .f64 e0) h) ∧
((decide (f0 < (0 : Int))) = false →
 F118_j11 B R e0 h))
def F118_L : Nat → List (Nat × TypeDesc) := fun _ => []
theorem F118_ok {B : World} {R : Ending → Heap → Prop} (e0 : Nat) (f0 : Int) {h : Heap} (H : F118 B R e0 f0 h) : Ec B 75 #[.float .f64 e0, .int .i64 f0] R h :=
 Ek Tryz.func75 (by kernel_rfl) (by kernel_rfl) (by kernel_rfl) F118_L [] (by kernel_rfl) H
end Go.Proofs
