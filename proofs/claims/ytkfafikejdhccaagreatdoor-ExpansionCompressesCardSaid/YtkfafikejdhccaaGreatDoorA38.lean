import Derived.Test.YtkfafikejdhccaaGreatDoorA20
/- Here stand lemmas: what made, value and the sums come to (written by program). -/
set_option linter.unusedVariables false
namespace Go.Proofs
open Go Go.Eng
/-- plumb/plumblaw7.made -/
def F38_j28 (B : World) (R : Po) (a0 : Lp) (b0 : Nat) (c0 : OA) (d0 e0 : Nat) (f0 : Int) (g0 : OA) (i0 j0 : Nat) (k0 l0 : Int) (m0 : Heap) : Prop :=
 Ec B 34 #[.slice g0 i0 j0, .int .i64 l0] (retE (fun n0 o0 => ∃ p0 q0 r0 s0, n0 = .tuple #[.slice p0 q0 r0, .int .i64 s0] ∧
((!decide (s0 = (0 : Int))) = true →
 R (.returned (.tuple #[.slice none 0 0, .bool false])) o0) ∧
((!decide (s0 = (0 : Int))) = false →
 ∃ t0, t0 < b0 ∧ a0 t0 [.slice c0 d0 e0, .int .i64 f0, .slice p0 q0 r0, .int .i64 (IntKind.i64.wrap (k0 + (1 : Int)))] o0))
(pk R)) m0
def F38_j11 (B : World) (R : Po) (a0 : Lp) (b0 : Nat) (u0 : OA) (v0 w0 : Nat) (x0 : Int) (y0 : OA) (z0 a1 : Nat) (b1 : Int) (c1 : Bool) (d1 : Heap) : Prop :=
(c1 = true →
 ixW u0 v0 b1 1 fun e1 f1 =>
 iP e1 f1 fun g1 i1 => ∃ j1, cI d1 g1 i1 .i64 j1 ∧
 ixW u0 v0 b1 1 fun k1 l1 =>
 iP k1 l1 fun m1 n1 => ∃ o1, cI d1 m1 n1 .i64 o1 ∧
0 ≤ (52 : Int) ∧
0 ≤ (52 : Int) ∧
 F38_j28 B R a0 b0 u0 v0 w0 x0 y0 z0 a1 b1 (bitsI .or .i64 (bitsI .andNot .i64 j1 (9218868437227405312 : Int)) (IntKind.i64.wrap ((IntKind.i64.wrap ((823 : Int) + (bitsI .and .i64 (Int.fdiv o1 (2 ^ min (Int.toNat (52 : Int)) IntKind.i64.bits)) (255 : Int)))) * 2 ^ min (Int.toNat (52 : Int)) IntKind.i64.bits))) d1) ∧
(c1 = false →
 R (.returned (.tuple #[.slice y0 z0 a1, .bool true])) d1)
def F38 (B : World) (R : Po) (p1 : OA) (q1 r1 : Nat) (s1 : Int) (h : Heap) : Prop :=
 ∃ a0 : Lp, ∃ t1, a0 t1 [.slice p1 q1 r1, .int .i64 s1, .slice none 0 0, .int .i64 (0 : Int)] h ∧
∀ (b0 : Nat) (u1 : Heap) (v1 : OA) (w1 x1 : Nat) (y1 : Int) (z1 : OA) (a2 b2 : Nat) (c2 : Int), a0 b0 [.slice v1 w1 x1, .int .i64 y1, .slice z1 a2 b2, .int .i64 c2] u1 → ∀ _r : Nat → Value,
((decide (c2 < (w1 : Int))) = true →
 F38_j11 B R a0 b0 v1 w1 x1 y1 z1 a2 b2 c2 (decide (c2 < y1)) u1) ∧
((decide (c2 < (w1 : Int))) = false →
 F38_j11 B R a0 b0 v1 w1 x1 y1 z1 a2 b2 c2 false u1)
def F38_L : Nat → List (Nat × TypeDesc) := fun i => match i with
  | 3 => [(0, .slice 0), (1, .int .i64), (6, .slice 0), (7, .int .i64)]
  | _ => []
theorem F38_ok {B : World} {R : Ending → Heap → Prop} (p1 : OA) (q1 r1 : Nat) (s1 : Int) {h : Heap} (H : F38 B R p1 q1 r1 s1 h) : Ec B 38 #[.slice p1 q1 r1, .int .i64 s1] R h :=
 Ek Tryz.func38 (by kernel_rfl) (by kernel_rfl) (by kernel_rfl) F38_L [] (by kernel_rfl) H

/-- plumb/plumblaw7.value -/
def F39_j42 (B : World) (R : Po) (a0 : OA) (b0 : Bool) (c0 : Heap) : Prop :=
 isP a0 fun d0 e0 =>
∃ f0, cell? c0 ⟨d0, e0, none⟩ = some (.bool f0) ∧
∃ g0 i0 j0, cell? c0 ⟨d0, e0 + 1, none⟩ = some (.slice g0 i0 j0) ∧
∃ k0, cell? c0 ⟨d0, e0 + 1 + 1, none⟩ = some (.int .i64 k0) ∧
 R (.returned (.tuple #[.agg #[.bool f0, .slice g0 i0 j0, .int .i64 k0], .bool b0])) c0
def F39_j29 (B : World) (R : Po) (l0 : OA) (m0 n0 : Bool) (o0 : OA) (p0 q0 : Nat) (r0 : Int) (s0 : Bool) (t0 : Heap) : Prop :=
 isP l0 fun u0 v0 => stC t0 u0 v0 (.bool n0) fun w0 =>
 stC w0 u0 (v0 + 1) (.slice o0 p0 q0) fun x0 =>
 stC x0 u0 (v0 + 1 + 1) (.int .i64 r0) fun y0 =>
 F39_j42 B R l0 s0 y0
def F39 (B : World) (R : Po) (z0 : OA) (a1 b1 : Nat) (h : Heap) : Prop :=
 alW h (.cells #[.bool false, .slice none 0 0, .int .i64 0] 29) fun c1 d1 =>
 Ec B 95 #[.slice z0 a1 b1] (retE (fun e1 f1 => ∃ g1 i1 j1 k1 l1 m1, e1 = .tuple #[.agg #[.bool g1, .slice i1 j1 k1, .int .i64 l1], .int .i64 m1] ∧
 alW f1 (.cells #[.bool false, .slice none 0 0, .int .i64 0] 29) fun n1 o1 =>
 iP n1 0 fun p1 q1 => stC o1 p1 q1 (.bool g1) fun r1 =>
 stC r1 p1 (q1 + 1) (.slice i1 j1 k1) fun s1 =>
 stC s1 p1 (q1 + 1 + 1) (.int .i64 l1) fun t1 =>
 iP n1 0 fun u1 v1 =>
∃ w1, cell? t1 ⟨u1, v1, none⟩ = some (.bool w1) ∧
∃ x1 y1 z1, cell? t1 ⟨u1, v1 + 1, none⟩ = some (.slice x1 y1 z1) ∧
∃ a2, cell? t1 ⟨u1, v1 + 1 + 1, none⟩ = some (.int .i64 a2) ∧
((decide (m1 = (0 : Int))) = true →
 Ec B 37 #[.slice z0 a1 b1] (retE (fun b2 c2 => ∃ d2, b2 = .bool d2 ∧
 sameCells t1 c2 u1 v1 3 ∧ F39_j29 B R (some ⟨c1, 0, none⟩) false w1 x1 y1 z1 a2 d2 c2)
(fun _ _ => False)) t1) ∧
((decide (m1 = (0 : Int))) = false →
 F39_j29 B R (some ⟨c1, 0, none⟩) false w1 x1 y1 z1 a2 false t1))
(pk R)) d1
def F39_L : Nat → List (Nat × TypeDesc) := fun _ => []
theorem F39_ok {B : World} {R : Ending → Heap → Prop} (z0 : OA) (a1 b1 : Nat) {h : Heap} (H : F39 B R z0 a1 b1 h) : Ec B 39 #[.slice z0 a1 b1] R h :=
 Ek Tryz.func39 (by kernel_rfl) (by kernel_rfl) (by kernel_rfl) F39_L [] (by kernel_rfl) H

/-- plumb/plumblaw7.same -/
def F41 (B : World) (R : Po) (a0 : Bool) (b0 : OA) (c0 d0 : Nat) (e0 : Int) (f0 : Bool) (g0 : OA) (i0 j0 : Nat) (k0 : Int) (h : Heap) : Prop :=
 alW h (.cells #[.bool a0, .slice b0 c0 d0, .int .i64 e0] 29) fun l0 m0 =>
 alW m0 (.cells #[.bool f0, .slice g0 i0 j0, .int .i64 k0] 29) fun n0 o0 =>
 iP l0 0 fun p0 q0 =>
∃ r0, cell? o0 ⟨p0, q0, none⟩ = some (.bool r0) ∧
∃ s0 t0 u0, cell? o0 ⟨p0, q0 + 1, none⟩ = some (.slice s0 t0 u0) ∧
∃ v0, cell? o0 ⟨p0, q0 + 1 + 1, none⟩ = some (.int .i64 v0) ∧
 iP n0 0 fun w0 x0 =>
∃ y0, cell? o0 ⟨w0, x0, none⟩ = some (.bool y0) ∧
∃ z0 a1 b1, cell? o0 ⟨w0, x0 + 1, none⟩ = some (.slice z0 a1 b1) ∧
∃ c1, cell? o0 ⟨w0, x0 + 1 + 1, none⟩ = some (.int .i64 c1) ∧
 Ec B 28 #[.agg #[.bool r0, .slice s0 t0 u0, .int .i64 v0], .agg #[.bool y0, .slice z0 a1 b1, .int .i64 c1]] (retE (fun d1 e1 => ∃ f1 g1, d1 = .tuple #[.int .i64 f1, .int .i64 g1] ∧
 R (.returned (.bool (decide (f1 = (0 : Int))))) e1)
(pk R)) o0
def F41_L : Nat → List (Nat × TypeDesc) := fun _ => []
theorem F41_ok {B : World} {R : Ending → Heap → Prop} (a0 : Bool) (b0 : OA) (c0 d0 : Nat) (e0 : Int) (f0 : Bool) (g0 : OA) (i0 j0 : Nat) (k0 : Int) {h : Heap} (H : F41 B R a0 b0 c0 d0 e0 f0 g0 i0 j0 k0 h) : Ec B 41 #[.agg #[.bool a0, .slice b0 c0 d0, .int .i64 e0], .agg #[.bool f0, .slice g0 i0 j0, .int .i64 k0]] R h :=
 Ek Tryz.func41 (by kernel_rfl) (by kernel_rfl) (by kernel_rfl) F41_L [] (by kernel_rfl) H

/-- plumb/dyadic.Sub -/
def F44_j64 (B : World) (R : Po) (a0 b0 c0 : OA) (d0 e0 : Nat) (f0 : OA) (g0 : Heap) : Prop :=
 Ec B 66 #[.slice c0 d0 e0] (retE (fun i0 j0 => ∃ k0 l0, i0 = .agg #[.pointer k0, .int .i64 l0] ∧
 Ec B 65 #[.agg #[.pointer k0, .int .i64 l0]] (retE (fun m0 n0 => ∃ o0 p0 q0 r0 s0, m0 = .agg #[.bool o0, .slice p0 q0 r0, .int .i64 s0] ∧
 isP a0 fun t0 u0 => stC n0 t0 u0 (.bool o0) fun v0 =>
 stC v0 t0 (u0 + 1) (.slice p0 q0 r0) fun w0 =>
 stC w0 t0 (u0 + 1 + 1) (.int .i64 s0) fun x0 =>
 isP b0 fun y0 z0 => stC x0 y0 z0 (.int .i64 (0 : Int)) fun a1 =>
 Enters Tryz.prog 62 ∧ FnD Tryz.prog B 62 #[.pointer f0] .returning (dfE fun b1 c1 => lvW (fun d1 => isP a0 fun e1 f1 =>
∃ g1, cell? d1 ⟨e1, f1, none⟩ = some (.bool g1) ∧
∃ i1 j1 k1, cell? d1 ⟨e1, f1 + 1, none⟩ = some (.slice i1 j1 k1) ∧
∃ l1, cell? d1 ⟨e1, f1 + 1 + 1, none⟩ = some (.int .i64 l1) ∧
 isP b0 fun m1 n1 => ∃ o1, cI d1 m1 n1 .i64 o1 ∧
 R (.returned (.tuple #[.agg #[.bool g1, .slice i1 j1 k1, .int .i64 l1], .int .i64 o1])) d1) (pk R) b1 c1) a1)
(fun p1 q1 => Enters Tryz.prog 62 ∧ FnD Tryz.prog B 62 #[.pointer f0] (.panicking p1) (dfE fun r1 s1 => lvW (fun t1 => isP a0 fun u1 v1 =>
∃ w1, cell? t1 ⟨u1, v1, none⟩ = some (.bool w1) ∧
∃ x1 y1 z1, cell? t1 ⟨u1, v1 + 1, none⟩ = some (.slice x1 y1 z1) ∧
∃ a2, cell? t1 ⟨u1, v1 + 1 + 1, none⟩ = some (.int .i64 a2) ∧
 isP b0 fun b2 c2 => ∃ d2, cI t1 b2 c2 .i64 d2 ∧
 R (.returned (.tuple #[.agg #[.bool w1, .slice x1 y1 z1, .int .i64 a2], .int .i64 d2])) t1) (pk R) r1 s1) q1)) j0)
(fun e2 f2 => Enters Tryz.prog 62 ∧ FnD Tryz.prog B 62 #[.pointer f0] (.panicking e2) (dfE fun g2 i2 => lvW (fun j2 => isP a0 fun k2 l2 =>
∃ m2, cell? j2 ⟨k2, l2, none⟩ = some (.bool m2) ∧
∃ n2 o2 p2, cell? j2 ⟨k2, l2 + 1, none⟩ = some (.slice n2 o2 p2) ∧
∃ q2, cell? j2 ⟨k2, l2 + 1 + 1, none⟩ = some (.int .i64 q2) ∧
 isP b0 fun r2 s2 => ∃ t2, cI j2 r2 s2 .i64 t2 ∧
 R (.returned (.tuple #[.agg #[.bool m2, .slice n2 o2 p2, .int .i64 q2], .int .i64 t2])) j2) (pk R) g2 i2) f2)) g0
def F44 (B : World) (R : Po) (u2 : Bool) (v2 : OA) (w2 x2 : Nat) (y2 : Int) (z2 : Bool) (a3 : OA) (b3 c3 : Nat) (d3 : Int) (h : Heap) : Prop :=
 alW h (.cells #[.bool u2, .slice v2 w2 x2, .int .i64 y2] 29) fun e3 f3 =>
 alW f3 (.cells #[.bool z2, .slice a3 b3 c3, .int .i64 d3] 29) fun g3 i3 =>
 alW i3 (.cells #[.bool false, .slice none 0 0, .int .i64 0] 29) fun j3 k3 =>
 alW k3 (.cells #[.int .i64 0] 30) fun l3 m3 =>
 iP e3 0 fun n3 o3 =>
∃ p3, cell? m3 ⟨n3, o3, none⟩ = some (.bool p3) ∧
∃ q3 r3 s3, cell? m3 ⟨n3, o3 + 1, none⟩ = some (.slice q3 r3 s3) ∧
∃ t3, cell? m3 ⟨n3, o3 + 1 + 1, none⟩ = some (.int .i64 t3) ∧
 iP g3 0 fun u3 v3 =>
∃ w3, cell? m3 ⟨u3, v3, none⟩ = some (.bool w3) ∧
∃ x3 y3 z3, cell? m3 ⟨u3, v3 + 1, none⟩ = some (.slice x3 y3 z3) ∧
∃ a4, cell? m3 ⟨u3, v3 + 1 + 1, none⟩ = some (.int .i64 a4) ∧
 alW m3 (.cells #[.bool p3, .slice q3 r3 s3, .int .i64 t3, .bool w3, .slice x3 y3 z3, .int .i64 a4] 29) fun b4 c4 =>
 Ec B 67 #[.slice (some ⟨b4, 0, none⟩) 2 2] (retE (fun d4 e4 => ∃ f4 g4 i4, d4 = .slice f4 g4 i4 ∧
 ixW f4 g4 (1 : Int) 2 fun j4 k4 =>
 iP j4 k4 fun l4 m4 =>
 iP l4 m4 fun n4 o4 => ∃ p4, cell? e4 ⟨n4, o4, none⟩ = some (.pointer p4) ∧
 ixW f4 g4 (1 : Int) 2 fun q4 r4 =>
 iP q4 r4 fun s4 t4 =>
 iP s4 t4 fun u4 v4 => ∃ w4, cell? e4 ⟨u4, v4, none⟩ = some (.pointer w4) ∧
 Ec B 74 #[.pointer p4, .pointer w4] (retE (fun x4 y4 => ∃ z4, x4 = .pointer z4 ∧
 F44_j64 B R (some ⟨j3, 0, none⟩) (some ⟨l3, 0, none⟩) f4 g4 i4 (some ⟨l3, 0, none⟩) y4)
(fun _ _ => False)) e4)
(fun a5 b5 => Enters Tryz.prog 62 ∧ FnD Tryz.prog B 62 #[.pointer (some ⟨l3, 0, none⟩)] (.panicking a5) (dfE fun c5 d5 => lvW (fun e5 => iP j3 0 fun f5 g5 =>
∃ i5, cell? e5 ⟨f5, g5, none⟩ = some (.bool i5) ∧
∃ j5 k5 l5, cell? e5 ⟨f5, g5 + 1, none⟩ = some (.slice j5 k5 l5) ∧
∃ m5, cell? e5 ⟨f5, g5 + 1 + 1, none⟩ = some (.int .i64 m5) ∧
 iP l3 0 fun n5 o5 => ∃ p5, cI e5 n5 o5 .i64 p5 ∧
 R (.returned (.tuple #[.agg #[.bool i5, .slice j5 k5 l5, .int .i64 m5], .int .i64 p5])) e5) (pk R) c5 d5) b5)) c4
def F44_L : Nat → List (Nat × TypeDesc) := fun _ => []
theorem F44_ok {B : World} {R : Ending → Heap → Prop} (u2 : Bool) (v2 : OA) (w2 x2 : Nat) (y2 : Int) (z2 : Bool) (a3 : OA) (b3 c3 : Nat) (d3 : Int) {h : Heap} (H : F44 B R u2 v2 w2 x2 y2 z2 a3 b3 c3 d3 h) : Ec B 44 #[.agg #[.bool u2, .slice v2 w2 x2, .int .i64 y2], .agg #[.bool z2, .slice a3 b3 c3, .int .i64 d3]] R h :=
 Ed Tryz.func44 (by kernel_rfl) (by kernel_rfl) (by kernel_rfl) F44_L [] (by kernel_rfl) H

/-- plumb/dyadic.Sign -/
def F48 (B : World) (R : Po) (a0 : Bool) (b0 : OA) (c0 d0 : Nat) (e0 : Int) (h : Heap) : Prop :=
 alW h (.cells #[.bool a0, .slice b0 c0 d0, .int .i64 e0] 29) fun f0 g0 =>
 alW g0 (.cells #[.int .i64 0] 30) fun i0 j0 =>
 iP f0 0 fun k0 l0 =>
∃ m0, cell? j0 ⟨k0, l0, none⟩ = some (.bool m0) ∧
∃ n0 o0 p0, cell? j0 ⟨k0, l0 + 1, none⟩ = some (.slice n0 o0 p0) ∧
∃ q0, cell? j0 ⟨k0, l0 + 1 + 1, none⟩ = some (.int .i64 q0) ∧
 alW j0 (.cells #[.bool m0, .slice n0 o0 p0, .int .i64 q0] 29) fun r0 s0 =>
 Ec B 67 #[.slice (some ⟨r0, 0, none⟩) 1 1] (retE (fun t0 u0 => ∃ v0 w0 x0, t0 = .slice v0 w0 x0 ∧
 ixW v0 w0 (0 : Int) 2 fun y0 z0 =>
 iP y0 z0 fun a1 b1 =>
 iP a1 b1 fun c1 d1 => ∃ e1, cell? u0 ⟨c1, d1, none⟩ = some (.pointer e1) ∧
 Ec B 75 #[.pointer e1] (retE (fun f1 g1 => ∃ i1, f1 = .int .i64 i1 ∧
 iP i0 0 fun j1 k1 => stC g1 j1 k1 (.int .i64 (0 : Int)) fun l1 =>
 Enters Tryz.prog 62 ∧ FnD Tryz.prog B 62 #[.pointer (some ⟨i0, 0, none⟩)] .returning (dfE fun m1 n1 => lvW (fun o1 => iP i0 0 fun p1 q1 => ∃ r1, cI o1 p1 q1 .i64 r1 ∧
 R (.returned (.tuple #[.int .i64 i1, .int .i64 r1])) o1) (pk R) m1 n1) l1)
(fun s1 t1 => Enters Tryz.prog 62 ∧ FnD Tryz.prog B 62 #[.pointer (some ⟨i0, 0, none⟩)] (.panicking s1) (dfE fun u1 v1 => lvW (fun w1 => iP i0 0 fun x1 y1 => ∃ z1, cI w1 x1 y1 .i64 z1 ∧
 R (.returned (.tuple #[.int .i64 (0 : Int), .int .i64 z1])) w1) (pk R) u1 v1) t1)) u0)
(fun a2 b2 => Enters Tryz.prog 62 ∧ FnD Tryz.prog B 62 #[.pointer (some ⟨i0, 0, none⟩)] (.panicking a2) (dfE fun c2 d2 => lvW (fun e2 => iP i0 0 fun f2 g2 => ∃ i2, cI e2 f2 g2 .i64 i2 ∧
 R (.returned (.tuple #[.int .i64 (0 : Int), .int .i64 i2])) e2) (pk R) c2 d2) b2)) s0
def F48_L : Nat → List (Nat × TypeDesc) := fun _ => []
theorem F48_ok {B : World} {R : Ending → Heap → Prop} (a0 : Bool) (b0 : OA) (c0 d0 : Nat) (e0 : Int) {h : Heap} (H : F48 B R a0 b0 c0 d0 e0 h) : Ec B 48 #[.agg #[.bool a0, .slice b0 c0 d0, .int .i64 e0]] R h :=
 Ed Tryz.func48 (by kernel_rfl) (by kernel_rfl) (by kernel_rfl) F48_L [] (by kernel_rfl) H

/-- plumb/plumblaw7.ExpansionCompresses -/
def F14_j210 (B : World) (R : Po) (a0 : Bool) (b0 : Heap) : Prop :=
 R (.returned (.bool a0)) b0
def F14_j207 (B : World) (R : Po) (c0 : Bool) (d0 : Heap) : Prop :=
 F14_j210 B R c0 d0
def F14_j115 (B : World) (R : Po) (e0 : OA) (f0 g0 : Nat) (i0 : OA) (j0 : Int) (k0 : Bool) (l0 : Heap) : Prop :=
(k0 = true →
 R (.returned (.bool false)) l0) ∧
(k0 = false →
((decide ((f0 : Int) = (0 : Int))) = true →
 R (.returned (.bool (decide (j0 = (0 : Int))))) l0) ∧
((decide ((f0 : Int) = (0 : Int))) = false →
 ixW e0 f0 (IntKind.i64.wrap ((f0 : Int) - (1 : Int))) 1 fun m0 n0 =>
 iP m0 n0 fun o0 p0 => ∃ q0, cI l0 o0 p0 .i64 q0 ∧
 Ec B 21 #[.int .i64 q0] (retE (fun r0 s0 => ∃ t0 u0 v0 w0 x0 y0, r0 = .tuple #[.agg #[.bool t0, .slice u0 v0 w0, .int .i64 x0], .int .i64 y0] ∧
 alW s0 (.cells #[.bool false, .slice none 0 0, .int .i64 0] 29) fun z0 a1 =>
 iP z0 0 fun b1 c1 => stC a1 b1 c1 (.bool t0) fun d1 =>
 stC d1 b1 (c1 + 1) (.slice u0 v0 w0) fun e1 =>
 stC e1 b1 (c1 + 1 + 1) (.int .i64 x0) fun f1 =>
 isP i0 fun g1 i1 =>
∃ j1, cell? f1 ⟨g1, i1, none⟩ = some (.bool j1) ∧
∃ k1 l1 m1, cell? f1 ⟨g1, i1 + 1, none⟩ = some (.slice k1 l1 m1) ∧
∃ n1, cell? f1 ⟨g1, i1 + 1 + 1, none⟩ = some (.int .i64 n1) ∧
 iP z0 0 fun o1 p1 =>
∃ q1, cell? f1 ⟨o1, p1, none⟩ = some (.bool q1) ∧
∃ r1 s1 t1, cell? f1 ⟨o1, p1 + 1, none⟩ = some (.slice r1 s1 t1) ∧
∃ u1, cell? f1 ⟨o1, p1 + 1 + 1, none⟩ = some (.int .i64 u1) ∧
 Ec B 44 #[.agg #[.bool j1, .slice k1 l1 m1, .int .i64 n1], .agg #[.bool q1, .slice r1 s1 t1, .int .i64 u1]] (retE (fun v1 w1 => ∃ x1 y1 z1 a2 b2 c2, v1 = .tuple #[.agg #[.bool x1, .slice y1 z1 a2, .int .i64 b2], .int .i64 c2] ∧
 alW w1 (.cells #[.bool false, .slice none 0 0, .int .i64 0] 29) fun d2 e2 =>
 iP d2 0 fun f2 g2 => stC e2 f2 g2 (.bool x1) fun i2 =>
 stC i2 f2 (g2 + 1) (.slice y1 z1 a2) fun j2 =>
 stC j2 f2 (g2 + 1 + 1) (.int .i64 b2) fun k2 =>
 iP d2 0 fun l2 m2 =>
 iP l2 m2 fun n2 o2 => stC k2 n2 o2 (.bool false) fun p2 =>
 Ec B 49 #[.int .i64 q0] (retE (fun q2 r2 => ∃ s2, q2 = .int .i64 s2 ∧
 Ec B 21 #[.int .i64 s2] (retE (fun t2 u2 => ∃ v2 w2 x2 y2 z2 a3, t2 = .tuple #[.agg #[.bool v2, .slice w2 x2 y2, .int .i64 z2], .int .i64 a3] ∧
 alW u2 (.cells #[.bool false, .slice none 0 0, .int .i64 0] 29) fun b3 c3 =>
 iP b3 0 fun d3 e3 => stC c3 d3 e3 (.bool v2) fun f3 =>
 stC f3 d3 (e3 + 1) (.slice w2 x2 y2) fun g3 =>
 stC g3 d3 (e3 + 1 + 1) (.int .i64 z2) fun i3 =>
 iP d2 0 fun j3 k3 =>
∃ l3, cell? i3 ⟨j3, k3, none⟩ = some (.bool l3) ∧
∃ m3 n3 o3, cell? i3 ⟨j3, k3 + 1, none⟩ = some (.slice m3 n3 o3) ∧
∃ p3, cell? i3 ⟨j3, k3 + 1 + 1, none⟩ = some (.int .i64 p3) ∧
 iP b3 0 fun q3 r3 =>
∃ s3, cell? i3 ⟨q3, r3, none⟩ = some (.bool s3) ∧
∃ t3 u3 v3, cell? i3 ⟨q3, r3 + 1, none⟩ = some (.slice t3 u3 v3) ∧
∃ w3, cell? i3 ⟨q3, r3 + 1 + 1, none⟩ = some (.int .i64 w3) ∧
 Ec B 28 #[.agg #[.bool l3, .slice m3 n3 o3, .int .i64 p3], .agg #[.bool s3, .slice t3 u3 v3, .int .i64 w3]] (retE (fun x3 y3 => ∃ z3 a4, x3 = .tuple #[.int .i64 z3, .int .i64 a4] ∧
((decide (z3 < (0 : Int))) = true →
 F14_j207 B R ((decide (q0 < (0 : Int))) == (decide (j0 < (0 : Int)))) y3) ∧
((decide (z3 < (0 : Int))) = false →
 F14_j207 B R false y3))
(pk R)) i3)
(pk R)) r2)
(pk R)) p2)
(pk R)) f1)
(pk R)) l0))
def F14_j108 (B : World) (R : Po) (b4 : OA) (c4 d4 : Nat) (e4 : OA) (f4 g4 : Int) (i4 : Bool) (j4 : Heap) : Prop :=
(i4 = true →
 F14_j115 B R b4 c4 d4 e4 g4 true j4) ∧
(i4 = false →
 F14_j115 B R b4 c4 d4 e4 g4 (!decide (f4 = g4)) j4)
def F14_j100 (B : World) (R : Po) (k4 : OA) (l4 m4 : Nat) (n4 : OA) (o4 p4 : Nat) (q4 : OA) (r4 s4 : Int) (t4 : Bool) (u4 : Heap) : Prop :=
(t4 = true →
 F14_j108 B R n4 o4 p4 q4 r4 s4 true u4) ∧
(t4 = false →
 F14_j108 B R n4 o4 p4 q4 r4 s4 (decide ((l4 : Int) < (o4 : Int))) u4)
def F14_j91 (B : World) (R : Po) (v4 : OA) (w4 x4 : Nat) (y4 : OA) (z4 a5 : Nat) (b5 c5 : OA) (d5 e5 : Int) (f5 : Bool) (g5 : Heap) : Prop :=
(f5 = true →
 F14_j100 B R v4 w4 x4 y4 z4 a5 b5 d5 e5 true g5) ∧
(f5 = false →
 isP b5 fun i5 j5 =>
∃ k5, cell? g5 ⟨i5, j5, none⟩ = some (.bool k5) ∧
∃ l5 m5 n5, cell? g5 ⟨i5, j5 + 1, none⟩ = some (.slice l5 m5 n5) ∧
∃ o5, cell? g5 ⟨i5, j5 + 1 + 1, none⟩ = some (.int .i64 o5) ∧
 isP c5 fun p5 q5 =>
∃ r5, cell? g5 ⟨p5, q5, none⟩ = some (.bool r5) ∧
∃ s5 t5 u5, cell? g5 ⟨p5, q5 + 1, none⟩ = some (.slice s5 t5 u5) ∧
∃ v5, cell? g5 ⟨p5, q5 + 1 + 1, none⟩ = some (.int .i64 v5) ∧
 Ec B 41 #[.agg #[.bool k5, .slice l5 m5 n5, .int .i64 o5], .agg #[.bool r5, .slice s5 t5 u5, .int .i64 v5]] (retE (fun w5 x5 => ∃ y5, w5 = .bool y5 ∧
 F14_j100 B R v4 w4 x4 y4 z4 a5 b5 d5 e5 (!y5) x5)
(pk R)) g5)
def F14_j81 (B : World) (R : Po) (z5 : OA) (a6 b6 : Nat) (c6 : OA) (d6 e6 : Nat) (f6 g6 : OA) (i6 : Bool) (j6 k6 : Int) (l6 : Bool) (m6 : Heap) : Prop :=
(l6 = true →
 F14_j91 B R z5 a6 b6 c6 d6 e6 f6 g6 j6 k6 true m6) ∧
(l6 = false →
 F14_j91 B R z5 a6 b6 c6 d6 e6 f6 g6 j6 k6 (!i6) m6)
def F14_j70 (B : World) (R : Po) (n6 : OA) (o6 p6 : Nat) (q6 : OA) (r6 s6 : Nat) (t6 : OA) (u6 : Bool) (v6 : OA) (w6 : Bool) (x6 y6 : Int) (z6 : Bool) (a7 : Heap) : Prop :=
(z6 = true →
 F14_j81 B R n6 o6 p6 q6 r6 s6 t6 v6 w6 x6 y6 true a7) ∧
(z6 = false →
 F14_j81 B R n6 o6 p6 q6 r6 s6 t6 v6 w6 x6 y6 (!u6) a7)
def F14_j13 (B : World) (R : Po) (b7 : OA) (c7 d7 : Nat) (e7 : Bool) (f7 : Heap) : Prop :=
(e7 = true →
 R (.returned (.bool false)) f7) ∧
(e7 = false →
 Ec B 46 #[.slice b7 c7 d7] (retE (fun g7 i7 => ∃ j7 k7 l7 m7, g7 = .tuple #[.slice j7 k7 l7, .int .i64 m7] ∧
 Ec B 39 #[.slice b7 c7 d7] (retE (fun n7 o7 => ∃ p7 q7 r7 s7 t7 u7, n7 = .tuple #[.agg #[.bool p7, .slice q7 r7 s7, .int .i64 t7], .bool u7] ∧
 alW o7 (.cells #[.bool false, .slice none 0 0, .int .i64 0] 29) fun v7 w7 =>
 iP v7 0 fun x7 y7 => stC w7 x7 y7 (.bool p7) fun z7 =>
 stC z7 x7 (y7 + 1) (.slice q7 r7 s7) fun a8 =>
 stC a8 x7 (y7 + 1 + 1) (.int .i64 t7) fun b8 =>
 Ec B 39 #[.slice j7 k7 l7] (retE (fun c8 d8 => ∃ e8 f8 g8 i8 j8 k8, c8 = .tuple #[.agg #[.bool e8, .slice f8 g8 i8, .int .i64 j8], .bool k8] ∧
 alW d8 (.cells #[.bool false, .slice none 0 0, .int .i64 0] 29) fun l8 m8 =>
 iP l8 0 fun n8 o8 => stC m8 n8 o8 (.bool e8) fun p8 =>
 stC p8 n8 (o8 + 1) (.slice f8 g8 i8) fun q8 =>
 stC q8 n8 (o8 + 1 + 1) (.int .i64 j8) fun r8 =>
 Ec B 47 #[.slice b7 c7 d7] (retE (fun s8 t8 => ∃ u8 v8, s8 = .tuple #[.int .i64 u8, .int .i64 v8] ∧
 iP v7 0 fun w8 x8 =>
∃ y8, cell? t8 ⟨w8, x8, none⟩ = some (.bool y8) ∧
∃ z8 a9 b9, cell? t8 ⟨w8, x8 + 1, none⟩ = some (.slice z8 a9 b9) ∧
∃ c9, cell? t8 ⟨w8, x8 + 1 + 1, none⟩ = some (.int .i64 c9) ∧
 Ec B 48 #[.agg #[.bool y8, .slice z8 a9 b9, .int .i64 c9]] (retE (fun d9 e9 => ∃ f9 g9, d9 = .tuple #[.int .i64 f9, .int .i64 g9] ∧
((!decide (m7 = (0 : Int))) = true →
 F14_j70 B R b7 c7 d7 j7 k7 l7 (some ⟨v7, 0, none⟩) u7 (some ⟨l8, 0, none⟩) k8 u8 f9 true e9) ∧
((!decide (m7 = (0 : Int))) = false →
 F14_j70 B R b7 c7 d7 j7 k7 l7 (some ⟨v7, 0, none⟩) u7 (some ⟨l8, 0, none⟩) k8 u8 f9 (!decide (v8 = (0 : Int))) e9))
(pk R)) t8)
(pk R)) r8)
(pk R)) b8)
(pk R)) i7)
(pk R)) f7)
def F14 (B : World) (R : Po) (i9 : OA) (j9 k9 : Nat) (h : Heap) : Prop :=
 Ec B 38 #[.slice i9 j9 k9, .int .i64 (20 : Int)] (retE (fun l9 m9 => ∃ n9 o9 p9 q9, l9 = .tuple #[.slice n9 o9 p9, .bool q9] ∧
 Ec B 29 #[] (retE (fun r9 s9 => ∃ t9, r9 = .bool t9 ∧
((!t9) = true →
 F14_j13 B R n9 o9 p9 true s9) ∧
((!t9) = false →
 F14_j13 B R n9 o9 p9 (!q9) s9))
(pk R)) m9)
(pk R)) h
def F14_L : Nat → List (Nat × TypeDesc) := fun _ => []
theorem F14_ok {B : World} {R : Ending → Heap → Prop} (i9 : OA) (j9 k9 : Nat) {h : Heap} (H : F14 B R i9 j9 k9 h) : Ec B 14 #[.slice i9 j9 k9] R h :=
 Ek Tryz.func14 (by kernel_rfl) (by kernel_rfl) (by kernel_rfl) F14_L [] (by kernel_rfl) H
end Go.Proofs
