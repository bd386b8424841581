import Derived.Test.YtkfafikejdhccaaGreatDoorA20
/- Here stand lemmas: what made, value and the sums come to (written by program). -/
set_option linter.unusedVariables false
namespace Go.Proofs
open Go Go.Eng
/-- plumb/plumblaw7.made -/
def F38_j28 (B : World) (R : Po) (a0 : Lp) (b0 : Nat) (c0 : OA) (d0 e0 : Nat) (f0 : Int) (g0 : OA) (i0 j0 : Nat) (k0 l0 : Int) (m0 : Heap) : Prop :=
 Ec B 34 #[.slice g0 i0 j0, .int .i64 l0] (retE (fun n0 o0 => ∃ p0 q0 r0 s0, n0 = .tuple #[.slice p0 q0 r0, .int .i64 s0] ∧
((!decide (s0 = (0 : Int))) = true →
 R (.returned (.tuple #[.slice none 0 0, .bool false])) o0) ∧
((!decide (s0 = (0 : Int))) = false →
 ∃ t0, t0 < b0 ∧ a0 t0 [.slice c0 d0 e0, .int .i64 f0, .slice p0 q0 r0, .int .i64 (IntKind.i64.wrap (k0 + (1 : Int)))] o0))
(pk R)) m0
def F38_j11 (B : World) (R : Po) (a0 : Lp) (b0 : Nat) (u0 : OA) (v0 w0 : Nat) (x0 : Int) (y0 : OA) (z0 a1 : Nat) (b1 : Int) (c1 : Bool) (d1 : Heap) : Prop :=
(c1 = true →
 ixW u0 v0 b1 1 fun e1 f1 =>
 iP e1 f1 fun g1 i1 => ∃ j1, cI d1 g1 i1 .i64 j1 ∧
 ixW u0 v0 b1 1 fun k1 l1 =>
 iP k1 l1 fun m1 n1 => ∃ o1, cI d1 m1 n1 .i64 o1 ∧
0 ≤ (52 : Int) ∧
0 ≤ (52 : Int) ∧
 F38_j28 B R a0 b0 u0 v0 w0 x0 y0 z0 a1 b1 (bitsI .or .i64 (bitsI .andNot .i64 j1 (9218868437227405312 : Int)) (IntKind.i64.wrap ((IntKind.i64.wrap ((823 : Int) + (bitsI .and .i64 (Int.fdiv o1 (2 ^ min (Int.toNat (52 : Int)) IntKind.i64.bits)) (255 : Int)))) * 2 ^ min (Int.toNat (52 : Int)) IntKind.i64.bits))) d1) ∧
(c1 = false →
 R (.returned (.tuple #[.slice y0 z0 a1, .bool true])) d1)
def F38 (B : World) (R : Po) (p1 : OA) (q1 r1 : Nat) (s1 : Int) (h : Heap) : Prop :=
 ∃ a0 : Lp, ∃ t1, a0 t1 [.slice p1 q1 r1, .int .i64 s1, .slice none 0 0, .int .i64 (0 : Int)] h ∧
∀ (b0 : Nat) (u1 : Heap) (v1 : OA) (w1 x1 : Nat) (y1 : Int) (z1 : OA) (a2 b2 : Nat) (c2 : Int), a0 b0 [.slice v1 w1 x1, .int .i64 y1, .slice z1 a2 b2, .int .i64 c2] u1 → ∀ _r : Nat → Value,
((decide (c2 < (w1 : Int))) = true →
 F38_j11 B R a0 b0 v1 w1 x1 y1 z1 a2 b2 c2 (decide (c2 < y1)) u1) ∧
((decide (c2 < (w1 : Int))) = false →
 F38_j11 B R a0 b0 v1 w1 x1 y1 z1 a2 b2 c2 false u1)
def F38_L : Nat → List (Nat × TypeDesc) := fun i => match i with
  | 3 => [(0, .slice 0), (1, .int .i64), (6, .slice 0), (7, .int .i64)]
  | _ => []
theorem F38_ok {B : World} {R : Ending → Heap → Prop} (p1 : OA) (q1 r1 : Nat) (s1 : Int) {h : Heap} (H : F38 B R p1 q1 r1 s1 h) : Ec B 38 #[.slice p1 q1 r1, .int .i64 s1] R h :=
 Ek Tryz.func38 (by kernel_rfl) (by kernel_rfl) (by kernel_rfl) F38_L [] (by kernel_rfl) H

/-- plumb/plumblaw7.value -/
def F39_j42 (B : World) (R : Po) (a0 : OA) (b0 : Bool) (c0 : Heap) : Prop :=
 isP a0 fun d0 e0 =>
∃ f0, cell? c0 ⟨d0, e0, none⟩ = some (.bool f0) ∧
∃ g0 i0 j0, cell? c0 ⟨d0, e0 + 1, none⟩ = some (.slice g0 i0 j0) ∧
∃ k0, cell? c0 ⟨d0, e0 + 1 + 1, none⟩ = some (.int .i64 k0) ∧
 R (.returned (.tuple #[.agg #[.bool f0, .slice g0 i0 j0, .int .i64 k0], .bool b0])) c0
def F39_j29 (B : World) (R : Po) (l0 : OA) (m0 n0 : Bool) (o0 : OA) (p0 q0 : Nat) (r0 : Int) (s0 : Bool) (t0 : Heap) : Prop :=
 isP l0 fun u0 v0 => stC t0 u0 v0 (.bool n0) fun w0 =>
 stC w0 u0 (v0 + 1) (.slice o0 p0 q0) fun x0 =>
 stC x0 u0 (v0 + 1 + 1) (.int .i64 r0) fun y0 =>
 F39_j42 B R l0 s0 y0
def F39 (B : World) (R : Po) (z0 : OA) (a1 b1 : Nat) (h : Heap) : Prop :=
 alW h (.cells #[.bool false, .slice none 0 0, .int .i64 0] 29) fun c1 d1 =>
 Ec B 95 #[.slice z0 a1 b1] (retE (fun e1 f1 => ∃ g1 i1 j1 k1 l1 m1, e1 = .tuple #[.agg #[.bool g1, .slice i1 j1 k1, .int .i64 l1], .int .i64 m1] ∧
 alW f1 (.cells #[.bool false, .slice none 0 0, .int .i64 0] 29) fun n1 o1 =>
 iP n1 0 fun p1 q1 => stC o1 p1 q1 (.bool g1) fun r1 =>
 stC r1 p1 (q1 + 1) (.slice i1 j1 k1) fun s1 =>
 stC s1 p1 (q1 + 1 + 1) (.int .i64 l1) fun t1 =>
 iP n1 0 fun u1 v1 =>
∃ w1, cell? t1 ⟨u1, v1, none⟩ = some (.bool w1) ∧
∃ x1 y1 z1, cell? t1 ⟨u1, v1 + 1, none⟩ = some (.slice x1 y1 z1) ∧
∃ a2, cell? t1 ⟨u1, v1 + 1 + 1, none⟩ = some (.int .i64 a2) ∧
((decide (m1 = (0 : Int))) = true →
 Ec B 37 #[.slice z0 a1 b1] (retE (fun b2 c2 => ∃ d2, b2 = .bool d2 ∧
 sameCells t1 c2 u1 v1 3 ∧ F39_j29 B R (some ⟨c1, 0, none⟩) false w1 x1 y1 z1 a2 d2 c2)
(fun _ _ => False)) t1) ∧
((decide (m1 = (0 : Int))) = false →
 F39_j29 B R (some ⟨c1, 0, none⟩) false w1 x1 y1 z1 a2 false t1))
(pk R)) d1
def F39_L : Nat → List (Nat × TypeDesc) := fun _ => []
theorem F39_ok {B : World} {R : Ending → Heap → Prop} (z0 : OA) (a1 b1 : Nat) {h : Heap} (H : F39 B R z0 a1 b1 h) : Ec B 39 #[.slice z0 a1 b1] R h :=
 Ek Tryz.func39 (by kernel_rfl) (by kernel_rfl) (by kernel_rfl) F39_L [] (by kernel_rfl) H

/-- plumb/plumblaw7.same -/
def F41 (B : World) (R : Po) (a0 : Bool) (b0 : OA) (c0 d0 : Nat) (e0 : Int) (f0 : Bool) (g0 : OA) (i0 j0 : Nat) (k0 : Int) (h : Heap) : Prop :=
 alW h (.cells #[.bool a0, .slice b0 c0 d0, .int .i64 e0] 29) fun l0 m0 =>
 alW m0 (.cells #[.bool f0, .slice g0 i0 j0, .int .i64 k0] 29) fun n0 o0 =>
 iP l0 0 fun p0 q0 =>
∃ r0, cell? o0 ⟨p0, q0, none⟩ = some (.bool r0) ∧
∃ s0 t0 u0, cell? o0 ⟨p0, q0 + 1, none⟩ = some (.slice s0 t0 u0) ∧
∃ v0, cell? o0 ⟨p0, q0 + 1 + 1, none⟩ = some (.int .i64 v0) ∧
 iP n0 0 fun w0 x0 =>
∃ y0, cell? o0 ⟨w0, x0, none⟩ = some (.bool y0) ∧
∃ z0 a1 b1, cell? o0 ⟨w0, x0 + 1, none⟩ = some (.slice z0 a1 b1) ∧
∃ c1, cell? o0 ⟨w0, x0 + 1 + 1, none⟩ = some (.int .i64 c1) ∧
 Ec B 28 #[.agg #[.bool r0, .slice s0 t0 u0, .int .i64 v0], .agg #[.bool y0, .slice z0 a1 b1, .int .i64 c1]] (retE (fun d1 e1 => ∃ f1 g1, d1 = .tuple #[.int .i64 f1, .int .i64 g1] ∧
 R (.returned (.bool (decide (f1 = (0 : Int))))) e1)
(pk R)) o0
def F41_L : Nat → List (Nat × TypeDesc) := fun _ => []
theorem F41_ok {B : World} {R : Ending → Heap → Prop} (a0 : Bool) (b0 : OA) (c0 d0 : Nat) (e0 : Int) (f0 : Bool) (g0 : OA) (i0 j0 : Nat) (k0 : Int) {h : Heap} (H : F41 B R a0 b0 c0 d0 e0 f0 g0 i0 j0 k0 h) : Ec B 41 #[.agg #[.bool a0, .slice b0 c0 d0, .int .i64 e0], .agg #[.bool f0, .slice g0 i0 j0, .int .i64 k0]] R h :=
 Ek Tryz.func41 (by kernel_rfl) (by kernel_rfl) (by kernel_rfl) F41_L [] (by kernel_rfl) H

/-- plumb/dyadic.Sub -/
def F44_j64 (B : World) (R : Po) (a0 b0 c0 : OA) (d0 e0 : Nat) (f0 : OA) (g0 : Heap) : Prop :=
 Ec B 66 #[.slice c0 d0 e0] (retE (fun i0 j0 => ∃ k0 l0, i0 = .agg #[.pointer k0, .int .i64 l0] ∧
 Ec B 65 #[.agg #[.pointer k0, .int .i64 l0]] (retE (fun m0 n0 => ∃ o0 p0 q0 r0 s0, m0 = .agg #[.bool o0, .slice p0 q0 r0, .int .i64 s0] ∧
 isP a0 fun t0 u0 => stC n0 t0 u0 (.bool o0) fun v0 =>
 stC v0 t0 (u0 + 1) (.slice p0 q0 r0) fun w0 =>
 stC w0 t0 (u0 + 1 + 1) (.int .i64 s0) fun x0 =>
 isP b0 fun y0 z0 => stC x0 y0 z0 (.int .i64 (0 : Int)) fun a1 =>
 Enters Tryz.prog 62 ∧ FnD Tryz.prog B 62 #[.pointer f0] .returning (dfE fun b1 c1 => lvW (fun d1 => isP a0 fun e1 f1 =>
∃ g1, cell? d1 ⟨e1, f1, none⟩ = some (.bool g1) ∧
∃ i1 j1 k1, cell? d1 ⟨e1, f1 + 1, none⟩ = some (.slice i1 j1 k1) ∧
∃ l1, cell? d1 ⟨e1, f1 + 1 + 1, none⟩ = some (.int .i64 l1) ∧
 isP b0 fun m1 n1 => ∃ o1, cI d1 m1 n1 .i64 o1 ∧
 R (.returned (.tuple #[.agg #[.bool g1, .slice i1 j1 k1, .int .i64 l1], .int .i64 o1])) d1) (pk R) b1 c1) a1)
(fun p1 q1 => Enters Tryz.prog 62 ∧ FnD Tryz.prog B 62 #[.pointer f0] (.panicking p1) (dfE fun r1 s1 => lvW (fun t1 => isP a0 fun u1 v1 =>
∃ w1, cell? t1 ⟨u1, v1, none⟩ = some (.bool w1) ∧
∃ x1 y1 z1, cell? t1 ⟨u1, v1 + 1, none⟩ = some (.slice x1 y1 z1) ∧
∃ a2, cell? t1 ⟨u1, v1 + 1 + 1, none⟩ = some (.int .i64 a2) ∧
 isP b0 fun b2 c2 => ∃ d2, cI t1 b2 c2 .i64 d2 ∧
 R (.returned (.tuple #[.agg #[.bool w1, .slice x1 y1 z1, .int .i64 a2], .int .i64 d2])) t1) (pk R) r1 s1) q1)) j0)
(fun e2 f2 => Enters Tryz.prog 62 ∧ FnD Tryz.prog B 62 #[.pointer f0] (.panicking e2) (dfE fun g2 i2 => lvW (fun j2 => isP a0 fun k2 l2 =>
∃ m2, cell? j2 ⟨k2, l2, none⟩ = some (.bool m2) ∧
∃ n2 o2 p2, cell? j2 ⟨k2, l2 + 1, none⟩ = some (.slice n2 o2 p2) ∧
∃ q2, cell? j2 ⟨k2, l2 + 1 + 1, none⟩ = some (.int .i64 q2) ∧
 isP b0 fun r2 s2 => ∃ t2, cI j2 r2 s2 .i64 t2 ∧
 R (.returned (.tuple #[.agg #[.bool m2, .slice n2 o2 p2, .int .i64 q2], .int .i64 t2])) j2) (pk R) g2 i2) f2)) g0
def F44 (B : World) (R : Po) (u2 : Bool) (v2 : OA) (w2 x2 : Nat) (y2 : Int) (z2 : Bool) (a3 : OA) (b3 c3 : Nat) (d3 : Int) (h : Heap) : Prop :=
 alW h (.cells #[.bool u2, .slice v2 w2 x2, .int .i64 y2] 29) fun e3 f3 =>
 alW f3 (.cells #[.bool z2, .slice a3 b3 c3, .int .i64 d3] 29) fun g3 i3 =>
 alW i3 (.cells #[.bool false, .slice none 0 0, .int .i64 0] 29) fun j3 k3 =>
 alW k3 (.cells #[.int .i64 0] 30) fun l3 m3 =>
 iP e3 0 fun n3 o3 =>
∃ p3, cell? m3 ⟨n3, o3, none⟩ = some (.bool p3) ∧
∃ q3 r3 s3, cell? m3 ⟨n3, o3 + 1, none⟩ = some (.slice q3 r3 s3) ∧
∃ t3, cell? m3 ⟨n3, o3 + 1 + 1, none⟩ = some (.int .i64 t3) ∧
 iP g3 0 fun u3 v3 =>
∃ w3, cell? m3 ⟨u3, v3, none⟩ = some (.bool w3) ∧
∃ x3 y3 z3, cell? m3 ⟨u3, v3 + 1, none⟩ = some (.slice x3 y3 z3) ∧
∃ a4, cell? m3 ⟨u3, v3 + 1 + 1, none⟩ = some (.int .i64 a4) ∧
 alW m3 (.cells #[.bool p3, .slice q3 r3 s3, .int .i64 t3, .bool w3, .slice x3 y3 z3, .int .i64 a4] 29) fun b4 c4 =>
 Ec B 67 #[.slice (some ⟨b4, 0, none⟩) 2 2] (retE (fun d4 e4 => ∃ f4 g4 i4, d4 = .slice f4 g4 i4 ∧
 ixW f4 g4 (1 : Int) 2 fun j4 k4 =>
 iP j4 k4 fun l4 m4 =>
 iP l4 m4 fun n4 o4 => ∃ p4, cell? e4 ⟨n4, o4, none⟩ = some (.pointer p4) ∧
 ixW f4 g4 (1 : Int) 2 fun q4 r4 =>
 iP q4 r4 fun s4 t4 =>
 iP s4 t4 fun u4 v4 => ∃ w4, cell? e4 ⟨u4, v4, none⟩ = some (.pointer w4) ∧
 Ec B 74 #[.pointer p4, .pointer w4] (retE (fun x4 y4 => ∃ z4, x4 = .pointer z4 ∧
 F44_j64 B R (some ⟨j3, 0, none⟩) (some ⟨l3, 0, none⟩) f4 g4 i4 (some ⟨l3, 0, none⟩) y4)
(fun _ _ => False)) e4)
(fun a5 b5 => Enters Tryz.prog 62 ∧ FnD Tryz.prog B 62 #[.pointer (some ⟨l3, 0, none⟩)] (.panicking a5) (dfE fun c5 d5 => lvW (fun e5 => iP j3 0 fun f5 g5 =>
∃ i5, cell? e5 ⟨f5, g5, none⟩ = some (.bool i5) ∧
∃ j5 k5 l5, cell? e5 ⟨f5, g5 + 1, none⟩ = some (.slice j5 k5 l5) ∧
∃ m5, cell? e5 ⟨f5, g5 + 1 + 1, none⟩ = some (.int .i64 m5) ∧
 iP l3 0 fun n5 o5 => ∃ p5, cI e5 n5 o5 .i64 p5 ∧
 R (.returned (.tuple #[.agg #[.bool i5, .slice j5 k5 l5, .int .i64 m5], .int .i64 p5])) e5) (pk R) c5 d5) b5)) c4
def F44_L : Nat → List (Nat × TypeDesc) := fun _ => []
theorem F44_ok {B : World} {R : Ending → Heap → Prop} (u2 : Bool) (v2 : OA) (w2 x2 : Nat) (y2 : Int) (z2 : Bool) (a3 : OA) (b3 c3 : Nat) (d3 : Int) {h : Heap} (H : F44 B R u2 v2 w2 x2 y2 z2 a3 b3 c3 d3 h) : Ec B 44 #[.agg #[.bool u2, .slice v2 w2 x2, .int .i64 y2], .agg #[.bool z2, .slice a3 b3 c3, .int .i64 d3]] R h :=
 Ed Tryz.func44 (by kernel_rfl) (by kernel_rfl) (by kernel_rfl) F44_L [] (by kernel_rfl) H

/-- plumb/plumblaw7.ExpansionSums -/
def F12_j240 (B : World) (R : Po) (a0 : Bool) (b0 : Heap) : Prop :=
 R (.returned (.bool a0)) b0
def F12_j237 (B : World) (R : Po) (c0 : Bool) (d0 : Heap) : Prop :=
 F12_j240 B R c0 d0
def F12_j233 (B : World) (R : Po) (e0 : OA) (f0 g0 : Nat) (i0 : Bool) (j0 : Heap) : Prop :=
(i0 = true →
 F12_j237 B R (decide ((f0 : Int) = (0 : Int))) j0) ∧
(i0 = false →
 F12_j237 B R false j0)
def F12_j228 (B : World) (R : Po) (k0 : OA) (l0 m0 : Nat) (n0 : Int) (o0 : Bool) (p0 : Heap) : Prop :=
(o0 = true →
 F12_j233 B R k0 l0 m0 (decide (n0 = (0 : Int))) p0) ∧
(o0 = false →
 F12_j233 B R k0 l0 m0 false p0)
def F12_j134 (B : World) (R : Po) (q0 : OA) (r0 s0 : Nat) (t0 u0 v0 w0 : OA) (x0 : Bool) (y0 : Heap) : Prop :=
(x0 = true →
 R (.returned (.bool false)) y0) ∧
(x0 = false →
 isP t0 fun z0 a1 =>
∃ b1, cell? y0 ⟨z0, a1, none⟩ = some (.bool b1) ∧
∃ c1 d1 e1, cell? y0 ⟨z0, a1 + 1, none⟩ = some (.slice c1 d1 e1) ∧
∃ f1, cell? y0 ⟨z0, a1 + 1 + 1, none⟩ = some (.int .i64 f1) ∧
 isP u0 fun g1 i1 =>
∃ j1, cell? y0 ⟨g1, i1, none⟩ = some (.bool j1) ∧
∃ k1 l1 m1, cell? y0 ⟨g1, i1 + 1, none⟩ = some (.slice k1 l1 m1) ∧
∃ n1, cell? y0 ⟨g1, i1 + 1 + 1, none⟩ = some (.int .i64 n1) ∧
 Ec B 22 #[.agg #[.bool b1, .slice c1 d1 e1, .int .i64 f1], .agg #[.bool j1, .slice k1 l1 m1, .int .i64 n1]] (retE (fun o1 p1 => ∃ q1 r1 s1 t1 u1 v1, o1 = .tuple #[.agg #[.bool q1, .slice r1 s1 t1, .int .i64 u1], .int .i64 v1] ∧
 alW p1 (.cells #[.bool false, .slice none 0 0, .int .i64 0] 29) fun w1 x1 =>
 iP w1 0 fun y1 z1 => stC x1 y1 z1 (.bool q1) fun a2 =>
 stC a2 y1 (z1 + 1) (.slice r1 s1 t1) fun b2 =>
 stC b2 y1 (z1 + 1 + 1) (.int .i64 u1) fun c2 =>
 isP t0 fun d2 e2 =>
∃ f2, cell? c2 ⟨d2, e2, none⟩ = some (.bool f2) ∧
∃ g2 i2 j2, cell? c2 ⟨d2, e2 + 1, none⟩ = some (.slice g2 i2 j2) ∧
∃ k2, cell? c2 ⟨d2, e2 + 1 + 1, none⟩ = some (.int .i64 k2) ∧
 isP u0 fun l2 m2 =>
∃ n2, cell? c2 ⟨l2, m2, none⟩ = some (.bool n2) ∧
∃ o2 p2 q2, cell? c2 ⟨l2, m2 + 1, none⟩ = some (.slice o2 p2 q2) ∧
∃ r2, cell? c2 ⟨l2, m2 + 1 + 1, none⟩ = some (.int .i64 r2) ∧
 Ec B 44 #[.agg #[.bool f2, .slice g2 i2 j2, .int .i64 k2], .agg #[.bool n2, .slice o2 p2 q2, .int .i64 r2]] (retE (fun s2 t2 => ∃ u2 v2 w2 x2 y2 z2, s2 = .tuple #[.agg #[.bool u2, .slice v2 w2 x2, .int .i64 y2], .int .i64 z2] ∧
 alW t2 (.cells #[.bool false, .slice none 0 0, .int .i64 0] 29) fun a3 b3 =>
 iP a3 0 fun c3 d3 => stC b3 c3 d3 (.bool u2) fun e3 =>
 stC e3 c3 (d3 + 1) (.slice v2 w2 x2) fun f3 =>
 stC f3 c3 (d3 + 1 + 1) (.int .i64 y2) fun g3 =>
 Ec B 43 #[.slice q0 r0 s0, .slice q0 r0 s0] (retE (fun i3 j3 => ∃ k3 l3 m3 n3, i3 = .tuple #[.slice k3 l3 m3, .int .i64 n3] ∧
 isP v0 fun o3 p3 =>
∃ q3, cell? j3 ⟨o3, p3, none⟩ = some (.bool q3) ∧
∃ r3 s3 t3, cell? j3 ⟨o3, p3 + 1, none⟩ = some (.slice r3 s3 t3) ∧
∃ u3, cell? j3 ⟨o3, p3 + 1 + 1, none⟩ = some (.int .i64 u3) ∧
 iP w1 0 fun v3 w3 =>
∃ x3, cell? j3 ⟨v3, w3, none⟩ = some (.bool x3) ∧
∃ y3 z3 a4, cell? j3 ⟨v3, w3 + 1, none⟩ = some (.slice y3 z3 a4) ∧
∃ b4, cell? j3 ⟨v3, w3 + 1 + 1, none⟩ = some (.int .i64 b4) ∧
 Ec B 41 #[.agg #[.bool q3, .slice r3 s3 t3, .int .i64 u3], .agg #[.bool x3, .slice y3 z3 a4, .int .i64 b4]] (retE (fun c4 d4 => ∃ e4, c4 = .bool e4 ∧
(e4 = true →
 isP w0 fun f4 g4 =>
∃ i4, cell? d4 ⟨f4, g4, none⟩ = some (.bool i4) ∧
∃ j4 k4 l4, cell? d4 ⟨f4, g4 + 1, none⟩ = some (.slice j4 k4 l4) ∧
∃ m4, cell? d4 ⟨f4, g4 + 1 + 1, none⟩ = some (.int .i64 m4) ∧
 iP a3 0 fun n4 o4 =>
∃ p4, cell? d4 ⟨n4, o4, none⟩ = some (.bool p4) ∧
∃ q4 r4 s4, cell? d4 ⟨n4, o4 + 1, none⟩ = some (.slice q4 r4 s4) ∧
∃ t4, cell? d4 ⟨n4, o4 + 1 + 1, none⟩ = some (.int .i64 t4) ∧
 Ec B 41 #[.agg #[.bool i4, .slice j4 k4 l4, .int .i64 m4], .agg #[.bool p4, .slice q4 r4 s4, .int .i64 t4]] (retE (fun u4 v4 => ∃ w4, u4 = .bool w4 ∧
 F12_j228 B R k3 l3 m3 n3 w4 v4)
(pk R)) d4) ∧
(e4 = false →
 F12_j228 B R k3 l3 m3 n3 false d4))
(pk R)) j3)
(pk R)) g3)
(pk R)) c2)
(pk R)) y0)
def F12_j125 (B : World) (R : Po) (x4 : OA) (y4 z4 : Nat) (a5 b5 c5 d5 : OA) (e5 f5 : Bool) (g5 : Heap) : Prop :=
(f5 = true →
 F12_j134 B R x4 y4 z4 a5 b5 c5 d5 true g5) ∧
(f5 = false →
 F12_j134 B R x4 y4 z4 a5 b5 c5 d5 (!e5) g5)
def F12_j115 (B : World) (R : Po) (i5 : OA) (j5 k5 : Nat) (l5 m5 n5 : OA) (o5 : Bool) (p5 : OA) (q5 r5 : Bool) (s5 : Heap) : Prop :=
(r5 = true →
 F12_j125 B R i5 j5 k5 l5 m5 n5 p5 q5 true s5) ∧
(r5 = false →
 F12_j125 B R i5 j5 k5 l5 m5 n5 p5 q5 (!o5) s5)
def F12_j103 (B : World) (R : Po) (t5 : OA) (u5 v5 : Nat) (w5 x5 : OA) (y5 z5 : Int) (a6 : OA) (b6 : Bool) (c6 : OA) (d6 e6 : Bool) (f6 : Heap) : Prop :=
(e6 = true →
 F12_j115 B R t5 u5 v5 w5 x5 a6 b6 c6 d6 true f6) ∧
(e6 = false →
 F12_j115 B R t5 u5 v5 w5 x5 a6 b6 c6 d6 (!decide ((IntKind.i64.wrap (y5 + z5)) = (0 : Int))) f6)
def F12_j26 (B : World) (R : Po) (g6 : OA) (i6 j6 : Nat) (k6 : OA) (l6 m6 : Nat) (n6 : Bool) (o6 : Heap) : Prop :=
(n6 = true →
 R (.returned (.bool false)) o6) ∧
(n6 = false →
 Ec B 39 #[.slice g6 i6 j6] (retE (fun p6 q6 => ∃ r6 s6 t6 u6 v6 w6, p6 = .tuple #[.agg #[.bool r6, .slice s6 t6 u6, .int .i64 v6], .bool w6] ∧
 alW q6 (.cells #[.bool false, .slice none 0 0, .int .i64 0] 29) fun x6 y6 =>
 iP x6 0 fun z6 a7 => stC y6 z6 a7 (.bool r6) fun b7 =>
 stC b7 z6 (a7 + 1) (.slice s6 t6 u6) fun c7 =>
 stC c7 z6 (a7 + 1 + 1) (.int .i64 v6) fun d7 =>
 Ec B 39 #[.slice k6 l6 m6] (retE (fun e7 f7 => ∃ g7 i7 j7 k7 l7 m7, e7 = .tuple #[.agg #[.bool g7, .slice i7 j7 k7, .int .i64 l7], .bool m7] ∧
 alW f7 (.cells #[.bool false, .slice none 0 0, .int .i64 0] 29) fun n7 o7 =>
 iP n7 0 fun p7 q7 => stC o7 p7 q7 (.bool g7) fun r7 =>
 stC r7 p7 (q7 + 1) (.slice i7 j7 k7) fun s7 =>
 stC s7 p7 (q7 + 1 + 1) (.int .i64 l7) fun t7 =>
 Ec B 36 #[.slice g6 i6 j6, .slice k6 l6 m6] (retE (fun u7 v7 => ∃ w7 x7 y7 z7, u7 = .tuple #[.slice w7 x7 y7, .int .i64 z7] ∧
 Ec B 43 #[.slice g6 i6 j6, .slice k6 l6 m6] (retE (fun a8 b8 => ∃ c8 d8 e8 f8, a8 = .tuple #[.slice c8 d8 e8, .int .i64 f8] ∧
 Ec B 39 #[.slice w7 x7 y7] (retE (fun g8 i8 => ∃ j8 k8 l8 m8 n8 o8, g8 = .tuple #[.agg #[.bool j8, .slice k8 l8 m8, .int .i64 n8], .bool o8] ∧
 alW i8 (.cells #[.bool false, .slice none 0 0, .int .i64 0] 29) fun p8 q8 =>
 iP p8 0 fun r8 s8 => stC q8 r8 s8 (.bool j8) fun t8 =>
 stC t8 r8 (s8 + 1) (.slice k8 l8 m8) fun u8 =>
 stC u8 r8 (s8 + 1 + 1) (.int .i64 n8) fun v8 =>
 Ec B 39 #[.slice c8 d8 e8] (retE (fun w8 x8 => ∃ y8 z8 a9 b9 c9 d9, w8 = .tuple #[.agg #[.bool y8, .slice z8 a9 b9, .int .i64 c9], .bool d9] ∧
 alW x8 (.cells #[.bool false, .slice none 0 0, .int .i64 0] 29) fun e9 f9 =>
 iP e9 0 fun g9 i9 => stC f9 g9 i9 (.bool y8) fun j9 =>
 stC j9 g9 (i9 + 1) (.slice z8 a9 b9) fun k9 =>
 stC k9 g9 (i9 + 1 + 1) (.int .i64 c9) fun l9 =>
((!w6) = true →
 F12_j103 B R g6 i6 j6 (some ⟨x6, 0, none⟩) (some ⟨n7, 0, none⟩) z7 f8 (some ⟨p8, 0, none⟩) o8 (some ⟨e9, 0, none⟩) d9 true l9) ∧
((!w6) = false →
 F12_j103 B R g6 i6 j6 (some ⟨x6, 0, none⟩) (some ⟨n7, 0, none⟩) z7 f8 (some ⟨p8, 0, none⟩) o8 (some ⟨e9, 0, none⟩) d9 (!m7) l9))
(pk R)) v8)
(pk R)) b8)
(pk R)) v7)
(pk R)) t7)
(pk R)) d7)
(pk R)) o6)
def F12_j20 (B : World) (R : Po) (m9 : OA) (n9 o9 : Nat) (p9 : OA) (q9 r9 : Nat) (s9 t9 : Bool) (u9 : Heap) : Prop :=
(t9 = true →
 F12_j26 B R m9 n9 o9 p9 q9 r9 true u9) ∧
(t9 = false →
 F12_j26 B R m9 n9 o9 p9 q9 r9 (!s9) u9)
def F12 (B : World) (R : Po) (v9 : OA) (w9 x9 : Nat) (y9 : OA) (z9 a10 : Nat) (h : Heap) : Prop :=
 Ec B 38 #[.slice v9 w9 x9, .int .i64 (12 : Int)] (retE (fun b10 c10 => ∃ d10 e10 f10 g10, b10 = .tuple #[.slice d10 e10 f10, .bool g10] ∧
 Ec B 38 #[.slice y9 z9 a10, .int .i64 (12 : Int)] (retE (fun i10 j10 => ∃ k10 l10 m10 n10, i10 = .tuple #[.slice k10 l10 m10, .bool n10] ∧
 Ec B 29 #[] (retE (fun o10 p10 => ∃ q10, o10 = .bool q10 ∧
((!q10) = true →
 F12_j20 B R d10 e10 f10 k10 l10 m10 n10 true p10) ∧
((!q10) = false →
 F12_j20 B R d10 e10 f10 k10 l10 m10 n10 (!g10) p10))
(pk R)) j10)
(pk R)) c10)
(pk R)) h
def F12_L : Nat → List (Nat × TypeDesc) := fun _ => []
theorem F12_ok {B : World} {R : Ending → Heap → Prop} (v9 : OA) (w9 x9 : Nat) (y9 : OA) (z9 a10 : Nat) {h : Heap} (H : F12 B R v9 w9 x9 y9 z9 a10 h) : Ec B 12 #[.slice v9 w9 x9, .slice y9 z9 a10] R h :=
 Ek Tryz.func12 (by kernel_rfl) (by kernel_rfl) (by kernel_rfl) F12_L [] (by kernel_rfl) H

end Go.Proofs
