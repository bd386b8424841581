import Derived.Test.YtgeanmigldaniaaGreatFmtA03
/- Here stand lemmas: what further functions come to (written by program). -/
set_option linter.unusedVariables false
namespace Go.Proofs
open Go Go.Eng
/-- plumb/dyadic.Sub -/
def F44_j64 (B : World) (R : Po) (a0 b0 c0 : OA) (d0 e0 : Nat) (f0 : OA) (g0 : Heap) : Prop :=
 Ec B 39 #[.slice c0 d0 e0] (retE (fun i0 j0 => ∃ k0 l0, i0 = .agg #[.pointer k0, .int .i64 l0] ∧
 Ec B 38 #[.agg #[.pointer k0, .int .i64 l0]] (retE (fun m0 n0 => ∃ o0 p0 q0 r0 s0, m0 = .agg #[.bool o0, .slice p0 q0 r0, .int .i64 s0] ∧
 isP a0 fun t0 u0 => stC n0 t0 u0 (.bool o0) fun v0 =>
 stC v0 t0 (u0 + 1) (.slice p0 q0 r0) fun w0 =>
 stC w0 t0 (u0 + 1 + 1) (.int .i64 s0) fun x0 =>
 isP b0 fun y0 z0 => stC x0 y0 z0 (.int .i64 (0 : Int)) fun a1 =>
 Enters Tryz.prog 37 ∧ FnD Tryz.prog B 37 #[.pointer f0] .returning (dfE fun b1 c1 => lvW (fun d1 => isP a0 fun e1 f1 =>
∃ g1, cell? d1 ⟨e1, f1, none⟩ = some (.bool g1) ∧
∃ i1 j1 k1, cell? d1 ⟨e1, f1 + 1, none⟩ = some (.slice i1 j1 k1) ∧
∃ l1, cell? d1 ⟨e1, f1 + 1 + 1, none⟩ = some (.int .i64 l1) ∧
 isP b0 fun m1 n1 => ∃ o1, cI d1 m1 n1 .i64 o1 ∧
 R (.returned (.tuple #[.agg #[.bool g1, .slice i1 j1 k1, .int .i64 l1], .int .i64 o1])) d1) (pk R) b1 c1) a1)
(fun p1 q1 => Enters Tryz.prog 37 ∧ FnD Tryz.prog B 37 #[.pointer f0] (.panicking p1) (dfE fun r1 s1 => lvW (fun t1 => isP a0 fun u1 v1 =>
∃ w1, cell? t1 ⟨u1, v1, none⟩ = some (.bool w1) ∧
∃ x1 y1 z1, cell? t1 ⟨u1, v1 + 1, none⟩ = some (.slice x1 y1 z1) ∧
∃ a2, cell? t1 ⟨u1, v1 + 1 + 1, none⟩ = some (.int .i64 a2) ∧
 isP b0 fun b2 c2 => ∃ d2, cI t1 b2 c2 .i64 d2 ∧
 R (.returned (.tuple #[.agg #[.bool w1, .slice x1 y1 z1, .int .i64 a2], .int .i64 d2])) t1) (pk R) r1 s1) q1)) j0)
(fun e2 f2 => Enters Tryz.prog 37 ∧ FnD Tryz.prog B 37 #[.pointer f0] (.panicking e2) (dfE fun g2 i2 => lvW (fun j2 => isP a0 fun k2 l2 =>
∃ m2, cell? j2 ⟨k2, l2, none⟩ = some (.bool m2) ∧
∃ n2 o2 p2, cell? j2 ⟨k2, l2 + 1, none⟩ = some (.slice n2 o2 p2) ∧
∃ q2, cell? j2 ⟨k2, l2 + 1 + 1, none⟩ = some (.int .i64 q2) ∧
 isP b0 fun r2 s2 => ∃ t2, cI j2 r2 s2 .i64 t2 ∧
 R (.returned (.tuple #[.agg #[.bool m2, .slice n2 o2 p2, .int .i64 q2], .int .i64 t2])) j2) (pk R) g2 i2) f2)) g0
def F44 (B : World) (R : Po) (u2 : Bool) (v2 : OA) (w2 x2 : Nat) (y2 : Int) (z2 : Bool) (a3 : OA) (b3 c3 : Nat) (d3 : Int) (h : Heap) : Prop :=
 alW h (.cells #[.bool u2, .slice v2 w2 x2, .int .i64 y2] 26) fun e3 f3 =>
 alW f3 (.cells #[.bool z2, .slice a3 b3 c3, .int .i64 d3] 26) fun g3 i3 =>
 alW i3 (.cells #[.bool false, .slice none 0 0, .int .i64 0] 26) fun j3 k3 =>
 alW k3 (.cells #[.int .i64 0] 31) fun l3 m3 =>
 iP e3 0 fun n3 o3 =>
∃ p3, cell? m3 ⟨n3, o3, none⟩ = some (.bool p3) ∧
∃ q3 r3 s3, cell? m3 ⟨n3, o3 + 1, none⟩ = some (.slice q3 r3 s3) ∧
∃ t3, cell? m3 ⟨n3, o3 + 1 + 1, none⟩ = some (.int .i64 t3) ∧
 iP g3 0 fun u3 v3 =>
∃ w3, cell? m3 ⟨u3, v3, none⟩ = some (.bool w3) ∧
∃ x3 y3 z3, cell? m3 ⟨u3, v3 + 1, none⟩ = some (.slice x3 y3 z3) ∧
∃ a4, cell? m3 ⟨u3, v3 + 1 + 1, none⟩ = some (.int .i64 a4) ∧
 alW m3 (.cells #[.bool p3, .slice q3 r3 s3, .int .i64 t3, .bool w3, .slice x3 y3 z3, .int .i64 a4] 26) fun b4 c4 =>
 Ec B 40 #[.slice (some ⟨b4, 0, none⟩) 2 2] (retE (fun d4 e4 => ∃ f4 g4 i4, d4 = .slice f4 g4 i4 ∧
 ixW f4 g4 (1 : Int) 2 fun j4 k4 =>
 iP j4 k4 fun l4 m4 =>
 iP l4 m4 fun n4 o4 => ∃ p4, cell? e4 ⟨n4, o4, none⟩ = some (.pointer p4) ∧
 ixW f4 g4 (1 : Int) 2 fun q4 r4 =>
 iP q4 r4 fun s4 t4 =>
 iP s4 t4 fun u4 v4 => ∃ w4, cell? e4 ⟨u4, v4, none⟩ = some (.pointer w4) ∧
 Ec B 41 #[.pointer p4, .pointer w4] (retE (fun x4 y4 => ∃ z4, x4 = .pointer z4 ∧
 F44_j64 B R (some ⟨j3, 0, none⟩) (some ⟨l3, 0, none⟩) f4 g4 i4 (some ⟨l3, 0, none⟩) y4)
(fun _ _ => False)) e4)
(fun a5 b5 => Enters Tryz.prog 37 ∧ FnD Tryz.prog B 37 #[.pointer (some ⟨l3, 0, none⟩)] (.panicking a5) (dfE fun c5 d5 => lvW (fun e5 => iP j3 0 fun f5 g5 =>
∃ i5, cell? e5 ⟨f5, g5, none⟩ = some (.bool i5) ∧
∃ j5 k5 l5, cell? e5 ⟨f5, g5 + 1, none⟩ = some (.slice j5 k5 l5) ∧
∃ m5, cell? e5 ⟨f5, g5 + 1 + 1, none⟩ = some (.int .i64 m5) ∧
 iP l3 0 fun n5 o5 => ∃ p5, cI e5 n5 o5 .i64 p5 ∧
 R (.returned (.tuple #[.agg #[.bool i5, .slice j5 k5 l5, .int .i64 m5], .int .i64 p5])) e5) (pk R) c5 d5) b5)) c4
def F44_L : Nat → List (Nat × TypeDesc) := fun _ => []
theorem F44_ok {B : World} {R : Ending → Heap → Prop} (u2 : Bool) (v2 : OA) (w2 x2 : Nat) (y2 : Int) (z2 : Bool) (a3 : OA) (b3 c3 : Nat) (d3 : Int) {h : Heap} (H : F44 B R u2 v2 w2 x2 y2 z2 a3 b3 c3 d3 h) : Ec B 15 #[.agg #[.bool u2, .slice v2 w2 x2, .int .i64 y2], .agg #[.bool z2, .slice a3 b3 c3, .int .i64 d3]] R h :=
 Ed Tryz.func15 (by kernel_rfl) (by kernel_rfl) (by kernel_rfl) F44_L [] (by kernel_rfl) H

/-- plumb/dyadic.Sign -/
def F48 (B : World) (R : Po) (a0 : Bool) (b0 : OA) (c0 d0 : Nat) (e0 : Int) (h : Heap) : Prop :=
 alW h (.cells #[.bool a0, .slice b0 c0 d0, .int .i64 e0] 26) fun f0 g0 =>
 alW g0 (.cells #[.int .i64 0] 31) fun i0 j0 =>
 iP f0 0 fun k0 l0 =>
∃ m0, cell? j0 ⟨k0, l0, none⟩ = some (.bool m0) ∧
∃ n0 o0 p0, cell? j0 ⟨k0, l0 + 1, none⟩ = some (.slice n0 o0 p0) ∧
∃ q0, cell? j0 ⟨k0, l0 + 1 + 1, none⟩ = some (.int .i64 q0) ∧
 alW j0 (.cells #[.bool m0, .slice n0 o0 p0, .int .i64 q0] 26) fun r0 s0 =>
 Ec B 40 #[.slice (some ⟨r0, 0, none⟩) 1 1] (retE (fun t0 u0 => ∃ v0 w0 x0, t0 = .slice v0 w0 x0 ∧
 ixW v0 w0 (0 : Int) 2 fun y0 z0 =>
 iP y0 z0 fun a1 b1 =>
 iP a1 b1 fun c1 d1 => ∃ e1, cell? u0 ⟨c1, d1, none⟩ = some (.pointer e1) ∧
 Ec B 46 #[.pointer e1] (retE (fun f1 g1 => ∃ i1, f1 = .int .i64 i1 ∧
 iP i0 0 fun j1 k1 => stC g1 j1 k1 (.int .i64 (0 : Int)) fun l1 =>
 Enters Tryz.prog 37 ∧ FnD Tryz.prog B 37 #[.pointer (some ⟨i0, 0, none⟩)] .returning (dfE fun m1 n1 => lvW (fun o1 => iP i0 0 fun p1 q1 => ∃ r1, cI o1 p1 q1 .i64 r1 ∧
 R (.returned (.tuple #[.int .i64 i1, .int .i64 r1])) o1) (pk R) m1 n1) l1)
(fun s1 t1 => Enters Tryz.prog 37 ∧ FnD Tryz.prog B 37 #[.pointer (some ⟨i0, 0, none⟩)] (.panicking s1) (dfE fun u1 v1 => lvW (fun w1 => iP i0 0 fun x1 y1 => ∃ z1, cI w1 x1 y1 .i64 z1 ∧
 R (.returned (.tuple #[.int .i64 (0 : Int), .int .i64 z1])) w1) (pk R) u1 v1) t1)) u0)
(fun a2 b2 => Enters Tryz.prog 37 ∧ FnD Tryz.prog B 37 #[.pointer (some ⟨i0, 0, none⟩)] (.panicking a2) (dfE fun c2 d2 => lvW (fun e2 => iP i0 0 fun f2 g2 => ∃ i2, cI e2 f2 g2 .i64 i2 ∧
 R (.returned (.tuple #[.int .i64 (0 : Int), .int .i64 i2])) e2) (pk R) c2 d2) b2)) s0
def F48_L : Nat → List (Nat × TypeDesc) := fun _ => []
theorem F48_ok {B : World} {R : Ending → Heap → Prop} (a0 : Bool) (b0 : OA) (c0 d0 : Nat) (e0 : Int) {h : Heap} (H : F48 B R a0 b0 c0 d0 e0 h) : Ec B 23 #[.agg #[.bool a0, .slice b0 c0 d0, .int .i64 e0]] R h :=
 Ed Tryz.func23 (by kernel_rfl) (by kernel_rfl) (by kernel_rfl) F48_L [] (by kernel_rfl) H
end Go.Proofs
namespace Go.Proofs
open Go Go.Eng
/-- math/big.addMulVVWW_g -/
def F143_j8 (B : World) (R : Po) (a0 : Lp) (b0 : Nat) (c0 : OA) (d0 e0 : Nat) (f0 : OA) (g0 i0 : Nat) (j0 : OA) (k0 l0 : Nat) (m0 n0 o0 p0 q0 r0 s0 : Int) (t0 : Heap) : Prop :=
 Ec B 141 #[.int .u64 q0, .int .u64 n0, .int .u64 (0 : Int)] (retE (fun u0 v0 => ∃ w0 x0, u0 = .tuple #[.int .u64 w0, .int .u64 x0] ∧
 ixW c0 d0 o0 1 fun y0 z0 =>
 iP y0 z0 fun a1 b1 => stC v0 a1 b1 (.int .u64 w0) fun c1 =>
∃ d1, d1 < b0 ∧ a0 d1 [.slice c0 d0 e0, .slice f0 g0 i0, .slice j0 k0 l0, .int .u64 m0, .int .u64 (IntKind.u64.wrap (x0 + p0)), .int .i64 r0, .int .i64 (IntKind.i64.wrap (s0 + (1 : Int)))] c1)
(pk R)) t0
def F143_j2 (B : World) (R : Po) (e1 : OA) (f1 g1 : Nat) (i1 : OA) (j1 k1 : Nat) (l1 : OA) (m1 n1 : Nat) (o1 p1 : Int) (q1 : Bool) (r1 : Heap) : Prop :=
(q1 = true →
 R (.panicked [{ v := .iface 9 (.string ⟨#[97, 100, 100, 77, 117, 108, 86, 86, 87, 87, 32, 108, 101, 110]⟩), recovered := false }]) r1) ∧
(q1 = false →
 ∃ a0 : Lp, ∃ s1, a0 s1 [.slice e1 f1 g1, .slice i1 j1 k1, .slice l1 m1 n1, .int .u64 o1, .int .u64 p1, .int .i64 (f1 : Int), .int .i64 (0 : Int)] r1 ∧
∀ (b0 : Nat) (t1 : Heap) (u1 : OA) (v1 w1 : Nat) (x1 : OA) (y1 z1 : Nat) (a2 : OA) (b2 c2 : Nat) (d2 e2 f2 g2 : Int), a0 b0 [.slice u1 v1 w1, .slice x1 y1 z1, .slice a2 b2 c2, .int .u64 d2, .int .u64 e2, .int .i64 f2, .int .i64 g2] t1 → ∀ _r : Nat → Value,
((decide (g2 < f2)) = true →
 ixW a2 b2 g2 1 fun i2 j2 =>
 iP i2 j2 fun k2 l2 => ∃ m2, cI t1 k2 l2 .u64 m2 ∧
 ixW x1 y1 g2 1 fun n2 o2 =>
 iP n2 o2 fun p2 q2 => ∃ r2, cI t1 p2 q2 .u64 r2 ∧
 Ec B 186 #[.int .u64 m2, .int .u64 d2, .int .u64 r2] (retE (fun s2 t2 => ∃ u2 v2, s2 = .tuple #[.int .u64 u2, .int .u64 v2] ∧
 F143_j8 B R a0 b0 u1 v1 w1 x1 y1 z1 a2 b2 c2 d2 e2 g2 u2 v2 f2 g2 t2)
(fun _ _ => False)) t1) ∧
((decide (g2 < f2)) = false →
 R (.returned (.int .u64 e2)) t1))
def F143 (B : World) (R : Po) (w2 : OA) (x2 y2 : Nat) (z2 : OA) (a3 b3 : Nat) (c3 : OA) (d3 e3 : Nat) (f3 g3 : Int) (h : Heap) : Prop :=
((!decide ((a3 : Int) = (x2 : Int))) = true →
 F143_j2 B R w2 x2 y2 z2 a3 b3 c3 d3 e3 f3 g3 true h) ∧
((!decide ((a3 : Int) = (x2 : Int))) = false →
 F143_j2 B R w2 x2 y2 z2 a3 b3 c3 d3 e3 f3 g3 (!decide ((d3 : Int) = (x2 : Int))) h)
def F143_L : Nat → List (Nat × TypeDesc) := fun i => match i with
  | 5 => [(0, .slice 0), (1, .slice 0), (2, .slice 0), (3, .int .u64), (10, .int .u64), (31, .int .i64), (32, .int .i64)]
  | _ => []
def F143_J (B : World) (R : Po) : Nat → Option JT := fun i => match i with
  | 2 => some ⟨[(0, .slice 0), (1, .slice 0), (2, .slice 0), (3, .int .u64), (4, .int .u64), (27, .bool)], fun s v h => match s, v with
    | [], [.slice e1 f1 g1, .slice i1 j1 k1, .slice l1 m1 n1, .int _ o1, .int _ p1, .bool q1] => F143_j2 B R e1 f1 g1 i1 j1 k1 l1 m1 n1 o1 p1 q1 h
    | _, _ => False⟩
  | 8 => some ⟨[(0, .slice 0), (1, .slice 0), (2, .slice 0), (3, .int .u64), (10, .int .u64), (11, .int .i64), (12, .int .u64), (13, .int .u64), (31, .int .i64), (32, .int .i64)], fun s v h => match s, v with
    | [(a0, b0)], [.slice c0 d0 e0, .slice f0 g0 i0, .slice j0 k0 l0, .int _ m0, .int _ n0, .int _ o0, .int _ p0, .int _ q0, .int _ r0, .int _ s0] => F143_j8 B R a0 b0 c0 d0 e0 f0 g0 i0 j0 k0 l0 m0 n0 o0 p0 q0 r0 s0 h
    | _, _ => False⟩
  | _ => none
theorem F143_ok {B : World} {R : Ending → Heap → Prop} (w2 : OA) (x2 y2 : Nat) (z2 : OA) (a3 b3 : Nat) (c3 : OA) (d3 e3 : Nat) (f3 g3 : Int) {h : Heap} (H : F143 B R w2 x2 y2 z2 a3 b3 c3 d3 e3 f3 g3 h) : Ec B 80 #[.slice w2 x2 y2, .slice z2 a3 b3, .slice c3 d3 e3, .int .u64 f3, .int .u64 g3] R h :=
 Ej Tryz.func80 (by kernel_rfl) (by kernel_rfl) (by kernel_rfl) F143_L (F143_J B R) [] (by kernel_rfl) (by kernel_rfl) H

/-- math/big.basicMul -/
def F223_j6 (B : World) (R : Po) (a0 : Lp) (b0 : Nat) (c0 : OA) (d0 e0 : Nat) (f0 : OA) (g0 i0 : Nat) (j0 : OA) (k0 l0 : Nat) (m0 n0 : Int) (o0 : Heap) : Prop :=
 ∃ p0, p0 < b0 ∧ a0 p0 [.slice c0 d0 e0, .slice f0 g0 i0, .slice j0 k0 l0, .int .i64 m0, .int .i64 (IntKind.i64.wrap (n0 + (1 : Int)))] o0
def F223 (B : World) (R : Po) (q0 : OA) (r0 s0 : Nat) (t0 : OA) (u0 v0 : Nat) (w0 : OA) (x0 y0 : Nat) (h : Heap) : Prop :=
 slW r0 s0 (some (.int .i64 (0 : Int))) (some (.int .i64 (IntKind.i64.wrap ((u0 : Int) + (x0 : Int))))) none fun z0 a1 b1 =>
 clW h (slP q0 z0 b1 1) (a1 - z0) 1 #[.int .u64 0] fun c1 =>
∃ a0 : Lp, ∃ d1, a0 d1 [.slice q0 r0 s0, .slice t0 u0 v0, .slice w0 x0 y0, .int .i64 (x0 : Int), .int .i64 (0 : Int)] c1 ∧
∀ (b0 : Nat) (e1 : Heap) (f1 : OA) (g1 i1 : Nat) (j1 : OA) (k1 l1 : Nat) (m1 : OA) (n1 o1 : Nat) (p1 q1 : Int), a0 b0 [.slice f1 g1 i1, .slice j1 k1 l1, .slice m1 n1 o1, .int .i64 p1, .int .i64 q1] e1 → ∀ _r : Nat → Value,
((decide (q1 < p1)) = true →
 ixW m1 n1 q1 1 fun r1 s1 =>
 iP r1 s1 fun t1 u1 => ∃ v1, cI e1 t1 u1 .u64 v1 ∧
((!decide (v1 = (0 : Int))) = true →
 slW g1 i1 (some (.int .i64 q1)) (some (.int .i64 (IntKind.i64.wrap (q1 + (k1 : Int))))) none fun w1 x1 y1 =>
 slW g1 i1 (some (.int .i64 q1)) (some (.int .i64 (IntKind.i64.wrap (q1 + (k1 : Int))))) none fun z1 a2 b2 =>
 Ec B 185 #[.slice (slP f1 w1 y1 1) (x1 - w1) (y1 - w1), .slice (slP f1 z1 b2 1) (a2 - z1) (b2 - z1), .slice j1 k1 l1, .int .u64 v1, .int .u64 (0 : Int)] (retE (fun c2 d2 => ∃ e2, c2 = .int .u64 e2 ∧
 ixW f1 g1 (IntKind.i64.wrap ((k1 : Int) + q1)) 1 fun f2 g2 =>
 iP f2 g2 fun i2 j2 => stC d2 i2 j2 (.int .u64 e2) fun k2 =>
 F223_j6 B R a0 b0 f1 g1 i1 j1 k1 l1 m1 n1 o1 p1 q1 k2)
(fun _ _ => False)) e1) ∧
((!decide (v1 = (0 : Int))) = false →
 F223_j6 B R a0 b0 f1 g1 i1 j1 k1 l1 m1 n1 o1 p1 q1 e1)) ∧
((decide (q1 < p1)) = false →
 R (.returned (.tuple #[])) e1)
def F223_L : Nat → List (Nat × TypeDesc) := fun i => match i with
  | 2 => [(0, .slice 0), (1, .slice 0), (15, .slice 0), (16, .int .i64), (17, .int .i64)]
  | _ => []
def F223_J (B : World) (R : Po) : Nat → Option JT := fun i => match i with
  | 6 => some ⟨[(0, .slice 0), (1, .slice 0), (15, .slice 0), (16, .int .i64), (17, .int .i64)], fun s v h => match s, v with
    | [(a0, b0)], [.slice c0 d0 e0, .slice f0 g0 i0, .slice j0 k0 l0, .int _ m0, .int _ n0] => F223_j6 B R a0 b0 c0 d0 e0 f0 g0 i0 j0 k0 l0 m0 n0 h
    | _, _ => False⟩
  | _ => none
theorem F223_ok {B : World} {R : Ending → Heap → Prop} (q0 : OA) (r0 s0 : Nat) (t0 : OA) (u0 v0 : Nat) (w0 : OA) (x0 y0 : Nat) {h : Heap} (H : F223 B R q0 r0 s0 t0 u0 v0 w0 x0 y0 h) : Ec B 167 #[.slice q0 r0 s0, .slice t0 u0 v0, .slice w0 x0 y0] R h :=
 Ej Tryz.func167 (by kernel_rfl) (by kernel_rfl) (by kernel_rfl) F223_L (F223_J B R) [] (by kernel_rfl) (by kernel_rfl) H
end Go.Proofs
namespace Go.Proofs.Wide
open Go Go.Eng
/-- (math/big.nat).mul -/
def F208_j55 (B : World) (R : Po) (a0 : OA) (b0 c0 : Nat) (d0 e0 : OA) (f0 g0 : Nat) (i0 : OA) (j0 k0 : Nat) (l0 m0 : Int) (n0 : Heap) : Prop :=
 Ec B 131 #[.slice a0 b0 c0, .int .i64 (IntKind.i64.wrap (l0 + m0))] (retE (fun o0 p0 => ∃ q0 r0 s0, o0 = .slice q0 r0 s0 ∧
 iP 5 0 fun t0 u0 => ∃ v0, cI p0 t0 u0 .i64 v0 ∧
((decide (m0 < v0)) = true →
 Ec B 167 #[.slice q0 r0 s0, .slice e0 f0 g0, .slice i0 j0 k0] (retE (fun w0 x0 => w0 = .tuple #[] ∧
 Ec B 134 #[.slice q0 r0 s0] (retE (fun y0 z0 => ∃ a1 b1 c1, y0 = .slice a1 b1 c1 ∧
 R (.returned (.slice a1 b1 c1)) z0)
(pk R)) x0)
(pk R)) p0) ∧
((decide (m0 < v0)) = false →
 pEq p0 d0 none fun d1 =>
(d1 = true →
 Ec B 168 #[] (retE (fun e1 f1 => ∃ g1, e1 = .pointer g1 ∧
 False)
(pk R)) p0) ∧
(d1 = false →
 False)))
(pk R)) n0
def F208_j46 (B : World) (R : Po) (i1 : OA) (j1 k1 : Nat) (l1 m1 : OA) (n1 o1 : Nat) (p1 : OA) (q1 r1 : Nat) (s1 t1 : Int) (u1 : Bool) (v1 : Heap) : Prop :=
(u1 = true →
 F208_j55 B R none 0 0 l1 m1 n1 o1 p1 q1 r1 s1 t1 v1) ∧
(u1 = false →
 F208_j55 B R i1 j1 k1 l1 m1 n1 o1 p1 q1 r1 s1 t1 v1)
def F208_j19 (B : World) (R : Po) (w1 : OA) (x1 y1 : Nat) (z1 a2 : OA) (b2 c2 : Nat) (d2 : OA) (e2 f2 : Nat) (g2 i2 : Int) (j2 : Bool) (k2 : Heap) : Prop :=
(j2 = true →
 slW x1 y1 none (some (.int .i64 (0 : Int))) none fun l2 m2 n2 =>
 R (.returned (.slice (slP w1 l2 n2 1) (m2 - l2) (n2 - l2))) k2) ∧
(j2 = false →
((decide (i2 = (1 : Int))) = true →
 ixW d2 e2 (0 : Int) 1 fun o2 p2 =>
 iP o2 p2 fun q2 r2 => ∃ s2, cI k2 q2 r2 .u64 s2 ∧
 Ec B 172 #[.slice w1 x1 y1, .slice a2 b2 c2, .int .u64 s2, .int .u64 (0 : Int)] (retE (fun t2 u2 => ∃ v2 w2 x2, t2 = .slice v2 w2 x2 ∧
 R (.returned (.slice v2 w2 x2)) u2)
(pk R)) k2) ∧
((decide (i2 = (1 : Int))) = false →
 Ec B 137 #[.slice w1 x1 y1, .slice a2 b2 c2] (retE (fun y2 z2 => ∃ a3, y2 = .bool a3 ∧
(a3 = true →
 F208_j46 B R w1 x1 y1 z1 a2 b2 c2 d2 e2 f2 g2 i2 true z2) ∧
(a3 = false →
 Ec B 137 #[.slice w1 x1 y1, .slice d2 e2 f2] (retE (fun b3 c3 => ∃ d3, b3 = .bool d3 ∧
 F208_j46 B R w1 x1 y1 z1 a2 b2 c2 d2 e2 f2 g2 i2 d3 c3)
(pk R)) z2))
(pk R)) k2))
def F208_j10 (B : World) (R : Po) (e3 : OA) (f3 g3 : Nat) (i3 j3 : OA) (k3 l3 : Nat) (m3 : OA) (n3 o3 : Nat) (p3 q3 : Int) (r3 : Bool) (s3 : Heap) : Prop :=
 F208_j19 B R e3 f3 g3 i3 j3 k3 l3 m3 n3 o3 p3 q3 r3 s3
def F208 (B : World) (R : Po) (t3 : OA) (u3 v3 : Nat) (w3 x3 : OA) (y3 z3 : Nat) (a4 : OA) (b4 c4 : Nat) (h : Heap) : Prop :=
((decide ((y3 : Int) < (b4 : Int))) = true →
 Ec B 145 #[.slice t3 u3 v3, .pointer w3, .slice a4 b4 c4, .slice x3 y3 z3] (retE (fun d4 e4 => ∃ f4 g4 i4, d4 = .slice f4 g4 i4 ∧
 R (.returned (.slice f4 g4 i4)) e4)
(pk R)) h) ∧
((decide ((y3 : Int) < (b4 : Int))) = false →
((decide ((y3 : Int) = (0 : Int))) = true →
 F208_j10 B R t3 u3 v3 w3 x3 y3 z3 a4 b4 c4 (y3 : Int) (b4 : Int) true h) ∧
((decide ((y3 : Int) = (0 : Int))) = false →
 F208_j10 B R t3 u3 v3 w3 x3 y3 z3 a4 b4 c4 (y3 : Int) (b4 : Int) (decide ((b4 : Int) = (0 : Int))) h))
def F208_L : Nat → List (Nat × TypeDesc) := fun _ => []
theorem F208_ok {B : World} {R : Ending → Heap → Prop} (t3 : OA) (u3 v3 : Nat) (w3 x3 : OA) (y3 z3 : Nat) (a4 : OA) (b4 c4 : Nat) {h : Heap} (H : F208 B R t3 u3 v3 w3 x3 y3 z3 a4 b4 c4 h) : Ec B 145 #[.slice t3 u3 v3, .pointer w3, .slice x3 y3 z3, .slice a4 b4 c4] R h :=
 Ek Tryz.func145 (by kernel_rfl) (by kernel_rfl) (by kernel_rfl) F208_L [17, 18, 19, 20, 21, 22, 23, 24, 25, 26, 27, 28] (by kernel_rfl) H
end Go.Proofs.Wide
namespace Go.Proofs
open Go Go.Eng
/-- plumb/plumblaw8.around -/
def F1017 (B : World) (R : Po) (a0 b0 c0 : Int) (h : Heap) : Prop :=
 alW h (.cells #[.int .i64 0, .int .i64 0] 23) fun d0 e0 =>
 alW e0 (.cells #[.bool false, .slice none 0 0, .int .i64 0] 26) fun f0 g0 =>
 Ec B 25 #[.int .i64 a0] (retE (fun i0 j0 => ∃ k0 l0 m0 n0 o0 p0, i0 = .tuple #[.agg #[.bool k0, .slice l0 m0 n0, .int .i64 o0], .int .i64 p0] ∧
 alW j0 (.cells #[.bool false, .slice none 0 0, .int .i64 0] 26) fun q0 r0 =>
 iP q0 0 fun s0 t0 => stC r0 s0 t0 (.bool k0) fun u0 =>
 stC u0 s0 (t0 + 1) (.slice l0 m0 n0) fun v0 =>
 stC v0 s0 (t0 + 1 + 1) (.int .i64 o0) fun w0 =>
∃ x0 : Lp, ∃ y0, x0 y0 [.int .i64 b0, .int .i64 c0, .pointer (some ⟨d0, 0, none⟩), .pointer (some ⟨f0, 0, none⟩), .pointer (some ⟨q0, 0, none⟩), .int .i64 p0, .int .i64 a0, .int .i64 a0, .int .i64 (0 : Int)] w0 ∧
∀ (z0 : Nat) (a1 : Heap) (b1 c1 : Int) (d1 e1 f1 : OA) (g1 i1 j1 k1 : Int), x0 z0 [.int .i64 b1, .int .i64 c1, .pointer d1, .pointer e1, .pointer f1, .int .i64 g1, .int .i64 i1, .int .i64 j1, .int .i64 k1] a1 → ∀ _r : Nat → Value,
((decide (k1 < (bitsI .and .i64 b1 (7 : Int)))) = true →
 Ec B 26 #[.int .i64 i1] (retE (fun l1 m1 => ∃ n1, l1 = .int .i64 n1 ∧
∃ o1, o1 < z0 ∧ x0 o1 [.int .i64 b1, .int .i64 c1, .pointer d1, .pointer e1, .pointer f1, .int .i64 g1, .int .i64 n1, .int .i64 j1, .int .i64 (IntKind.i64.wrap (k1 + (1 : Int)))] m1)
(pk R)) a1) ∧
((decide (k1 < (bitsI .and .i64 b1 (7 : Int)))) = false →
 ∃ p1 : Lp, ∃ q1, p1 q1 [.int .i64 c1, .pointer d1, .pointer e1, .pointer f1, .int .i64 g1, .int .i64 i1, .int .i64 j1, .int .i64 (0 : Int)] a1 ∧
∀ (r1 : Nat) (s1 : Heap) (t1 : Int) (u1 v1 w1 : OA) (x1 y1 z1 a2 : Int), p1 r1 [.int .i64 t1, .pointer u1, .pointer v1, .pointer w1, .int .i64 x1, .int .i64 y1, .int .i64 z1, .int .i64 a2] s1 → ∀ _r : Nat → Value,
((decide (a2 < (bitsI .and .i64 t1 (7 : Int)))) = true →
 Ec B 27 #[.int .i64 z1] (retE (fun b2 c2 => ∃ d2, b2 = .int .i64 d2 ∧
∃ e2, e2 < r1 ∧ p1 e2 [.int .i64 t1, .pointer u1, .pointer v1, .pointer w1, .int .i64 x1, .int .i64 y1, .int .i64 d2, .int .i64 (IntKind.i64.wrap (a2 + (1 : Int)))] c2)
(pk R)) s1) ∧
((decide (a2 < (bitsI .and .i64 t1 (7 : Int)))) = false →
 isP w1 fun f2 g2 =>
∃ i2, cell? s1 ⟨f2, g2, none⟩ = some (.bool i2) ∧
∃ j2 k2 l2, cell? s1 ⟨f2, g2 + 1, none⟩ = some (.slice j2 k2 l2) ∧
∃ m2, cell? s1 ⟨f2, g2 + 1 + 1, none⟩ = some (.int .i64 m2) ∧
 isP u1 fun n2 o2 => stC s1 n2 o2 (.int .i64 y1) fun p2 =>
 stC p2 n2 (o2 + 1) (.int .i64 z1) fun q2 =>
 sameCells s1 q2 f2 g2 3 ∧ isP v1 fun r2 s2 => stC q2 r2 s2 (.bool i2) fun t2 =>
 stC t2 r2 (s2 + 1) (.slice j2 k2 l2) fun u2 =>
 stC u2 r2 (s2 + 1 + 1) (.int .i64 m2) fun v2 =>
 isP u1 fun w2 x2 =>
∃ y2, cI v2 w2 x2 .i64 y2 ∧
∃ z2, cell? v2 ⟨w2, x2 + 1, none⟩ = some (.int .i64 z2) ∧
 isP v1 fun a3 b3 =>
∃ c3, cell? v2 ⟨a3, b3, none⟩ = some (.bool c3) ∧
∃ d3 e3 f3, cell? v2 ⟨a3, b3 + 1, none⟩ = some (.slice d3 e3 f3) ∧
∃ g3, cell? v2 ⟨a3, b3 + 1 + 1, none⟩ = some (.int .i64 g3) ∧
 R (.returned (.tuple #[.agg #[.int .i64 y2, .int .i64 z2], .agg #[.bool c3, .slice d3 e3 f3, .int .i64 g3], .bool (decide (x1 = (0 : Int)))])) v2)))
(pk R)) g0
def F1017_L : Nat → List (Nat × TypeDesc) := fun i => match i with
  | 5 => [(1, .int .i64), (2, .int .i64), (6, .pointer 0), (7, .pointer 0), (9, .pointer 0), (10, .int .i64), (11, .int .i64), (12, .int .i64), (13, .int .i64)]
  | 9 => [(2, .int .i64), (6, .pointer 0), (7, .pointer 0), (9, .pointer 0), (10, .int .i64), (11, .int .i64), (12, .int .i64), (14, .int .i64)]
  | _ => []
theorem F1017_ok {B : World} {R : Ending → Heap → Prop} (a0 b0 c0 : Int) {h : Heap} (H : F1017 B R a0 b0 c0 h) : Ec B 6 #[.int .i64 a0, .int .i64 b0, .int .i64 c0] R h :=
 Ek Tryz.func6 (by kernel_rfl) (by kernel_rfl) (by kernel_rfl) F1017_L [] (by kernel_rfl) H

/-- plumb/span.Mul -/
def F1020 (B : World) (R : Po) (a0 b0 c0 d0 : Int) (h : Heap) : Prop :=
 alW h (.cells #[.int .i64 a0, .int .i64 b0] 23) fun e0 f0 =>
 alW f0 (.cells #[.int .i64 c0, .int .i64 d0] 23) fun g0 i0 =>
 alW i0 (.cells #[.int .i64 0, .int .i64 0] 23) fun j0 k0 =>
 iP e0 0 fun l0 m0 =>
∃ n0, cI k0 l0 m0 .i64 n0 ∧
∃ o0, cell? k0 ⟨l0, m0 + 1, none⟩ = some (.int .i64 o0) ∧
 iP g0 0 fun p0 q0 =>
∃ r0, cI k0 p0 q0 .i64 r0 ∧
∃ s0, cell? k0 ⟨p0, q0 + 1, none⟩ = some (.int .i64 s0) ∧
 alW k0 (.cells #[.int .i64 n0, .int .i64 o0, .int .i64 r0, .int .i64 s0] 23) fun t0 u0 =>
 Ec B 30 #[.slice (some ⟨t0, 0, none⟩) 2 2] (retE (fun v0 w0 => ∃ x0, v0 = .int .i64 x0 ∧
((!decide (x0 = (0 : Int))) = true →
 iP 0 0 fun y0 z0 =>
∃ a1, cI w0 y0 z0 .i64 a1 ∧
∃ b1, cell? w0 ⟨y0, z0 + 1, none⟩ = some (.int .i64 b1) ∧
 iP j0 0 fun c1 d1 => stC w0 c1 d1 (.int .i64 a1) fun e1 =>
 stC e1 c1 (d1 + 1) (.int .i64 b1) fun f1 =>
 iP j0 0 fun g1 i1 =>
∃ j1, cI f1 g1 i1 .i64 j1 ∧
∃ k1, cell? f1 ⟨g1, i1 + 1, none⟩ = some (.int .i64 k1) ∧
 R (.returned (.tuple #[.agg #[.int .i64 j1, .int .i64 k1], .int .i64 x0])) f1) ∧
((!decide (x0 = (0 : Int))) = false →
 iP e0 0 fun l1 m1 =>
 iP l1 m1 fun n1 o1 => ∃ p1, cI w0 n1 o1 .i64 p1 ∧
 iP g0 0 fun q1 r1 =>
 iP q1 r1 fun s1 t1 => ∃ u1, cI w0 s1 t1 .i64 u1 ∧
 iP e0 0 fun v1 w1 =>
 iP v1 w1 fun x1 y1 => ∃ z1, cI w0 x1 y1 .i64 z1 ∧
 iP g0 0 fun a2 b2 =>
 isP (some ⟨a2, b2 + 1, none⟩) fun c2 d2 => ∃ e2, cI w0 c2 d2 .i64 e2 ∧
 iP e0 0 fun f2 g2 =>
 isP (some ⟨f2, g2 + 1, none⟩) fun i2 j2 => ∃ k2, cI w0 i2 j2 .i64 k2 ∧
 iP g0 0 fun l2 m2 =>
 iP l2 m2 fun n2 o2 => ∃ p2, cI w0 n2 o2 .i64 p2 ∧
 iP e0 0 fun q2 r2 =>
 isP (some ⟨q2, r2 + 1, none⟩) fun s2 t2 => ∃ u2, cI w0 s2 t2 .i64 u2 ∧
 iP g0 0 fun v2 w2 =>
 isP (some ⟨v2, w2 + 1, none⟩) fun x2 y2 => ∃ z2, cI w0 x2 y2 .i64 z2 ∧
 alW w0 (.cells #[.int .i64 0, .int .i64 0, .int .i64 0, .int .i64 0, .int .i64 0, .int .i64 0, .int .i64 0, .int .i64 0] 56) fun a3 b3 =>
 iP a3 0 fun c3 d3 => stC b3 c3 d3 (.int .i64 p1) fun e3 =>
 stC e3 c3 (d3 + 1) (.int .i64 u1) fun f3 =>
 stC f3 c3 (d3 + 1 + 1) (.int .i64 z1) fun g3 =>
 stC g3 c3 (d3 + 1 + 1 + 1) (.int .i64 e2) fun i3 =>
 stC i3 c3 (d3 + 1 + 1 + 1 + 1) (.int .i64 k2) fun j3 =>
 stC j3 c3 (d3 + 1 + 1 + 1 + 1 + 1) (.int .i64 p2) fun k3 =>
 stC k3 c3 (d3 + 1 + 1 + 1 + 1 + 1 + 1) (.int .i64 u2) fun l3 =>
 stC l3 c3 (d3 + 1 + 1 + 1 + 1 + 1 + 1 + 1) (.int .i64 z2) fun m3 =>
 Ec B 32 #[.int .i64 (1 : Int)] (retE (fun n3 o3 => ∃ p3, n3 = .float .f64 p3 ∧
 Ec B 32 #[.int .i64 (-1 : Int)] (retE (fun q3 r3 => ∃ s3, q3 = .float .f64 s3 ∧
 iP a3 0 fun t3 u3 =>
∃ v3, cI r3 t3 u3 .i64 v3 ∧
∃ w3, cell? r3 ⟨t3, u3 + 1, none⟩ = some (.int .i64 w3) ∧
∃ x3, cell? r3 ⟨t3, u3 + 1 + 1, none⟩ = some (.int .i64 x3) ∧
∃ y3, cell? r3 ⟨t3, u3 + 1 + 1 + 1, none⟩ = some (.int .i64 y3) ∧
∃ z3, cell? r3 ⟨t3, u3 + 1 + 1 + 1 + 1, none⟩ = some (.int .i64 z3) ∧
∃ a4, cell? r3 ⟨t3, u3 + 1 + 1 + 1 + 1 + 1, none⟩ = some (.int .i64 a4) ∧
∃ b4, cell? r3 ⟨t3, u3 + 1 + 1 + 1 + 1 + 1 + 1, none⟩ = some (.int .i64 b4) ∧
∃ c4, cell? r3 ⟨t3, u3 + 1 + 1 + 1 + 1 + 1 + 1 + 1, none⟩ = some (.int .i64 c4) ∧
∃ d4 : Lp, ∃ e4, d4 e4 [.pointer (some ⟨j0, 0, none⟩), .float .f64 p3, .float .f64 s3, .agg #[.int .i64 v3, .int .i64 w3, .int .i64 x3, .int .i64 y3, .int .i64 z3, .int .i64 a4, .int .i64 b4, .int .i64 c4], .int .i64 (0 : Int)] r3 ∧
∀ (f4 : Nat) (g4 : Heap) (i4 : OA) (j4 k4 : Nat) (l4 m4 n4 o4 p4 q4 r4 s4 t4 : Int), d4 f4 [.pointer i4, .float .f64 j4, .float .f64 k4, .agg #[.int .i64 l4, .int .i64 m4, .int .i64 n4, .int .i64 o4, .int .i64 p4, .int .i64 q4, .int .i64 r4, .int .i64 s4], .int .i64 t4] g4 → ∀ _r : Nat → Value,
((decide (t4 < (4 : Int))) = true →
 0 ≤ t4 ∧ t4 < (4 : Int) ∧ ∃ u4 v4, (some (.agg (Array.extract #[.int .i64 l4, .int .i64 m4, .int .i64 n4, .int .i64 o4, .int .i64 p4, .int .i64 q4, .int .i64 r4, .int .i64 s4] (Int.toNat t4 * 2) (Int.toNat t4 * 2 + 2))) : Option Value) = some (.agg #[.int .i64 u4, .int .i64 v4]) ∧
 alW g4 (.cells #[.int .i64 0, .int .i64 0] 55) fun w4 x4 =>
 iP w4 0 fun y4 z4 => stC x4 y4 z4 (.int .i64 u4) fun a5 =>
 stC a5 y4 (z4 + 1) (.int .i64 v4) fun b5 =>
 ixW (some ⟨w4, 0, none⟩) 2 (0 : Int) 1 fun c5 d5 =>
 iP c5 d5 fun e5 f5 => ∃ g5, cI b5 e5 f5 .i64 g5 ∧
 ixW (some ⟨w4, 0, none⟩) 2 (1 : Int) 1 fun i5 j5 =>
 iP i5 j5 fun k5 l5 => ∃ m5, cI b5 k5 l5 .i64 m5 ∧
 Ec B 33 #[.int .i64 g5, .int .i64 m5, .int .i64 (1 : Int)] (retE (fun n5 o5 => ∃ p5, n5 = .float .f64 p5 ∧
∃ q5, FloatKind.f64.format.order j4 p5 = some q5 ∧
 ixW (some ⟨w4, 0, none⟩) 2 (0 : Int) 1 fun r5 s5 =>
 iP r5 s5 fun t5 u5 => ∃ v5, cI o5 t5 u5 .i64 v5 ∧
 ixW (some ⟨w4, 0, none⟩) 2 (1 : Int) 1 fun w5 x5 =>
 iP w5 x5 fun y5 z5 => ∃ a6, cI o5 y5 z5 .i64 a6 ∧
 Ec B 33 #[.int .i64 v5, .int .i64 a6, .int .i64 (2 : Int)] (retE (fun b6 c6 => ∃ d6, b6 = .float .f64 d6 ∧
∃ e6, FloatKind.f64.format.order k4 d6 = some e6 ∧
∃ f6, f6 < f4 ∧ d4 f6 [.pointer i4, .float .f64 (minF .f64 j4 p5 q5), .float .f64 (maxF .f64 k4 d6 e6), .agg #[.int .i64 l4, .int .i64 m4, .int .i64 n4, .int .i64 o4, .int .i64 p4, .int .i64 q4, .int .i64 r4, .int .i64 s4], .int .i64 (IntKind.i64.wrap (t4 + (1 : Int)))] c6)
(pk R)) o5)
(pk R)) b5) ∧
((decide (t4 < (4 : Int))) = false →
 Ec B 34 #[.float .f64 j4] (retE (fun g6 i6 => ∃ j6, g6 = .int .i64 j6 ∧
 Ec B 34 #[.float .f64 k4] (retE (fun k6 l6 => ∃ m6, k6 = .int .i64 m6 ∧
 Ec B 29 #[.int .i64 j6, .int .i64 m6] (retE (fun n6 o6 => ∃ p6 q6 r6, n6 = .tuple #[.agg #[.int .i64 p6, .int .i64 q6], .int .i64 r6] ∧
 isP i4 fun s6 t6 => stC o6 s6 t6 (.int .i64 p6) fun u6 =>
 stC u6 s6 (t6 + 1) (.int .i64 q6) fun v6 =>
 isP i4 fun w6 x6 =>
∃ y6, cI v6 w6 x6 .i64 y6 ∧
∃ z6, cell? v6 ⟨w6, x6 + 1, none⟩ = some (.int .i64 z6) ∧
 R (.returned (.tuple #[.agg #[.int .i64 y6, .int .i64 z6], .int .i64 r6])) v6)
(pk R)) l6)
(pk R)) i6)
(pk R)) g4))
(pk R)) o3)
(pk R)) m3))
(pk R)) u0
def F1020_L : Nat → List (Nat × TypeDesc) := fun i => match i with
  | 7 => [(4, .pointer 0), (8, .float .f64), (9, .float .f64), (43, .array 8 0), (44, .int .i64)]
  | _ => []
theorem F1020_ok {B : World} {R : Ending → Heap → Prop} (a0 b0 c0 d0 : Int) {h : Heap} (H : F1020 B R a0 b0 c0 d0 h) : Ec B 10 #[.agg #[.int .i64 a0, .int .i64 b0], .agg #[.int .i64 c0, .int .i64 d0]] R h :=
 Ek Tryz.func10 (by kernel_rfl) (by kernel_rfl) (by kernel_rfl) F1020_L [] (by kernel_rfl) H

/-- plumb/span.Square -/
def F1021_j8 (B : World) (R : Po) (a0 : OA) (b0 c0 : Nat) (d0 : Heap) : Prop :=
 Ec B 34 #[.float .f64 b0] (retE (fun e0 f0 => ∃ g0, e0 = .int .i64 g0 ∧
 Ec B 34 #[.float .f64 c0] (retE (fun i0 j0 => ∃ k0, i0 = .int .i64 k0 ∧
 Ec B 29 #[.int .i64 g0, .int .i64 k0] (retE (fun l0 m0 => ∃ n0 o0 p0, l0 = .tuple #[.agg #[.int .i64 n0, .int .i64 o0], .int .i64 p0] ∧
 isP a0 fun q0 r0 => stC m0 q0 r0 (.int .i64 n0) fun s0 =>
 stC s0 q0 (r0 + 1) (.int .i64 o0) fun t0 =>
 isP a0 fun u0 v0 =>
∃ w0, cI t0 u0 v0 .i64 w0 ∧
∃ x0, cell? t0 ⟨u0, v0 + 1, none⟩ = some (.int .i64 x0) ∧
 R (.returned (.tuple #[.agg #[.int .i64 w0, .int .i64 x0], .int .i64 p0])) t0)
(pk R)) j0)
(pk R)) f0)
(pk R)) d0
def F1021_j7 (B : World) (R : Po) (y0 : OA) (z0 a1 : Nat) (b1 : Bool) (c1 : Heap) : Prop :=
(b1 = true →
 F1021_j8 B R y0 0 a1 c1) ∧
(b1 = false →
 F1021_j8 B R y0 z0 a1 c1)
def F1021_j6 (B : World) (R : Po) (d1 e1 : OA) (f1 g1 : Nat) (i1 : Heap) : Prop :=
 isP d1 fun j1 k1 =>
 iP j1 k1 fun l1 m1 => ∃ n1, cI i1 l1 m1 .i64 n1 ∧
 Ec B 35 #[.int .i64 n1] (retE (fun o1 p1 => ∃ q1, o1 = .float .f64 q1 ∧
((FloatKind.f64.format.order q1 0 == some .lt || FloatKind.f64.format.order q1 0 == some .eq) = true →
 isP d1 fun r1 s1 =>
 isP (some ⟨r1, s1 + 1, none⟩) fun t1 u1 => ∃ v1, cI p1 t1 u1 .i64 v1 ∧
 Ec B 35 #[.int .i64 v1] (retE (fun w1 x1 => ∃ y1, w1 = .float .f64 y1 ∧
 F1021_j7 B R e1 f1 g1 (FloatKind.f64.format.order y1 0 == some .gt || FloatKind.f64.format.order y1 0 == some .eq) x1)
(pk R)) p1) ∧
((FloatKind.f64.format.order q1 0 == some .lt || FloatKind.f64.format.order q1 0 == some .eq) = false →
 F1021_j7 B R e1 f1 g1 false p1))
(pk R)) i1
def F1021_j5 (B : World) (R : Po) (z1 a2 : OA) (b2 : Nat) (c2 : Heap) : Prop :=
 isP z1 fun d2 e2 =>
 iP d2 e2 fun f2 g2 => ∃ i2, cI c2 f2 g2 .i64 i2 ∧
 isP z1 fun j2 k2 =>
 iP j2 k2 fun l2 m2 => ∃ n2, cI c2 l2 m2 .i64 n2 ∧
 isP z1 fun o2 p2 =>
 isP (some ⟨o2, p2 + 1, none⟩) fun q2 r2 => ∃ s2, cI c2 q2 r2 .i64 s2 ∧
 isP z1 fun t2 u2 =>
 isP (some ⟨t2, u2 + 1, none⟩) fun v2 w2 => ∃ x2, cI c2 v2 w2 .i64 x2 ∧
 Ec B 33 #[.int .i64 i2, .int .i64 n2, .int .i64 (2 : Int)] (retE (fun y2 z2 => ∃ a3, y2 = .float .f64 a3 ∧
 sameCells c2 z2 v2 w2 1 ∧ sameCells c2 z2 q2 r2 1 ∧ Ec B 33 #[.int .i64 s2, .int .i64 x2, .int .i64 (2 : Int)] (retE (fun b3 c3 => ∃ d3, b3 = .float .f64 d3 ∧
∃ e3, FloatKind.f64.format.order a3 d3 = some e3 ∧
 F1021_j6 B R z1 a2 b2 (maxF .f64 a3 d3 e3) c3)
(fun _ _ => False)) z2)
(fun _ _ => False)) c2
def F1021 (B : World) (R : Po) (f3 g3 : Int) (h : Heap) : Prop :=
 alW h (.cells #[.int .i64 f3, .int .i64 g3] 23) fun i3 j3 =>
 alW j3 (.cells #[.int .i64 0, .int .i64 0] 23) fun k3 l3 =>
 iP i3 0 fun m3 n3 =>
∃ o3, cI l3 m3 n3 .i64 o3 ∧
∃ p3, cell? l3 ⟨m3, n3 + 1, none⟩ = some (.int .i64 p3) ∧
 alW l3 (.cells #[.int .i64 o3, .int .i64 p3] 23) fun q3 r3 =>
 Ec B 30 #[.slice (some ⟨q3, 0, none⟩) 1 1] (retE (fun s3 t3 => ∃ u3, s3 = .int .i64 u3 ∧
((!decide (u3 = (0 : Int))) = true →
 iP 0 0 fun v3 w3 =>
∃ x3, cI t3 v3 w3 .i64 x3 ∧
∃ y3, cell? t3 ⟨v3, w3 + 1, none⟩ = some (.int .i64 y3) ∧
 iP k3 0 fun z3 a4 => stC t3 z3 a4 (.int .i64 x3) fun b4 =>
 stC b4 z3 (a4 + 1) (.int .i64 y3) fun c4 =>
 iP k3 0 fun d4 e4 =>
∃ f4, cI c4 d4 e4 .i64 f4 ∧
∃ g4, cell? c4 ⟨d4, e4 + 1, none⟩ = some (.int .i64 g4) ∧
 R (.returned (.tuple #[.agg #[.int .i64 f4, .int .i64 g4], .int .i64 u3])) c4) ∧
((!decide (u3 = (0 : Int))) = false →
 iP i3 0 fun i4 j4 =>
 iP i4 j4 fun k4 l4 => ∃ m4, cI t3 k4 l4 .i64 m4 ∧
 iP i3 0 fun n4 o4 =>
 iP n4 o4 fun p4 q4 => ∃ r4, cI t3 p4 q4 .i64 r4 ∧
 iP i3 0 fun s4 t4 =>
 isP (some ⟨s4, t4 + 1, none⟩) fun u4 v4 => ∃ w4, cI t3 u4 v4 .i64 w4 ∧
 iP i3 0 fun x4 y4 =>
 isP (some ⟨x4, y4 + 1, none⟩) fun z4 a5 => ∃ b5, cI t3 z4 a5 .i64 b5 ∧
 Ec B 33 #[.int .i64 m4, .int .i64 r4, .int .i64 (1 : Int)] (retE (fun c5 d5 => ∃ e5, c5 = .float .f64 e5 ∧
 sameCells t3 d5 z4 a5 1 ∧ sameCells t3 d5 u4 v4 1 ∧ Ec B 33 #[.int .i64 w4, .int .i64 b5, .int .i64 (1 : Int)] (retE (fun f5 g5 => ∃ i5, f5 = .float .f64 i5 ∧
∃ j5, FloatKind.f64.format.order e5 i5 = some j5 ∧
 F1021_j5 B R (some ⟨i3, 0, none⟩) (some ⟨k3, 0, none⟩) (minF .f64 e5 i5 j5) g5)
(fun _ _ => False)) d5)
(fun _ _ => False)) t3))
(pk R)) r3
def F1021_L : Nat → List (Nat × TypeDesc) := fun _ => []
def F1021_J (B : World) (R : Po) : Nat → Option JT := fun i => match i with
  | 5 => some ⟨[(1, .pointer 0), (2, .pointer 0), (5, .float .f64)], fun s v h => match s, v with
    | [], [.pointer z1, .pointer a2, .float _ b2] => F1021_j5 B R z1 a2 b2 h
    | _, _ => False⟩
  | 6 => some ⟨[(1, .pointer 0), (2, .pointer 0), (5, .float .f64), (6, .float .f64)], fun s v h => match s, v with
    | [], [.pointer d1, .pointer e1, .float _ f1, .float _ g1] => F1021_j6 B R d1 e1 f1 g1 h
    | _, _ => False⟩
  | 7 => some ⟨[(2, .pointer 0), (5, .float .f64), (6, .float .f64), (45, .bool)], fun s v h => match s, v with
    | [], [.pointer y0, .float _ z0, .float _ a1, .bool b1] => F1021_j7 B R y0 z0 a1 b1 h
    | _, _ => False⟩
  | 8 => some ⟨[(2, .pointer 0), (5, .float .f64), (6, .float .f64)], fun s v h => match s, v with
    | [], [.pointer a0, .float _ b0, .float _ c0] => F1021_j8 B R a0 b0 c0 h
    | _, _ => False⟩
  | _ => none
theorem F1021_ok {B : World} {R : Ending → Heap → Prop} (f3 g3 : Int) {h : Heap} (H : F1021 B R f3 g3 h) : Ec B 11 #[.agg #[.int .i64 f3, .int .i64 g3]] R h :=
 Ej Tryz.func11 (by kernel_rfl) (by kernel_rfl) (by kernel_rfl) F1021_L (F1021_J B R) [] (by kernel_rfl) (by kernel_rfl) H

/-- plumb/span.times -/
def F1046_j2 (B : World) (R : Po) (a0 b0 c0 : Int) (d0 : Bool) (e0 : Heap) : Prop :=
(d0 = true →
 R (.returned (.float .f64 0)) e0) ∧
(d0 = false →
 Ec B 62 #[.int .i64 a0, .int .i64 b0, .int .i64 c0] (retE (fun f0 g0 => ∃ i0 j0, f0 = .tuple #[.int .i64 i0, .int .i64 j0] ∧
 Ec B 35 #[.int .i64 i0] (retE (fun k0 l0 => ∃ m0, k0 = .float .f64 m0 ∧
 R (.returned (.float .f64 m0)) l0)
(pk R)) g0)
(pk R)) e0)
def F1046 (B : World) (R : Po) (n0 o0 p0 : Int) (h : Heap) : Prop :=
 Ec B 56 #[.int .i64 n0] (retE (fun q0 r0 => ∃ s0, q0 = .int .i64 s0 ∧
((decide (s0 = (0 : Int))) = true →
 F1046_j2 B R n0 o0 p0 true r0) ∧
((decide (s0 = (0 : Int))) = false →
 Ec B 56 #[.int .i64 o0] (retE (fun t0 u0 => ∃ v0, t0 = .int .i64 v0 ∧
 F1046_j2 B R n0 o0 p0 (decide (v0 = (0 : Int))) u0)
(pk R)) r0))
(pk R)) h
def F1046_L : Nat → List (Nat × TypeDesc) := fun _ => []
def F1046_J (B : World) (R : Po) : Nat → Option JT := fun i => match i with
  | 2 => some ⟨[(0, .int .i64), (1, .int .i64), (2, .int .i64), (16, .bool)], fun s v h => match s, v with
    | [], [.int _ a0, .int _ b0, .int _ c0, .bool d0] => F1046_j2 B R a0 b0 c0 d0 h
    | _, _ => False⟩
  | _ => none
theorem F1046_ok {B : World} {R : Ending → Heap → Prop} (n0 o0 p0 : Int) {h : Heap} (H : F1046 B R n0 o0 p0 h) : Ec B 33 #[.int .i64 n0, .int .i64 o0, .int .i64 p0] R h :=
 Ej Tryz.func33 (by kernel_rfl) (by kernel_rfl) (by kernel_rfl) F1046_L (F1046_J B R) [] (by kernel_rfl) (by kernel_rfl) H
end Go.Proofs
set_option linter.unusedVariables false
set_option maxRecDepth 100000
namespace Go.Proofs
open Go Go.Eng
/-- plumb/plumblaw8.SpanHolds -/
def F1007_j434 (B : World) (R : Po) (a0 : Bool) (b0 : Heap) : Prop :=
 R (.returned (.bool a0)) b0
def F1007_j17 (B : World) (R : Po) (c0 d0 : OA) (e0 : Bool) (f0 : Heap) : Prop :=
(e0 = true →
 R (.returned (.bool false)) f0) ∧
(e0 = false →
 isP d0 fun g0 i0 =>
∃ j0, cI f0 g0 i0 .i64 j0 ∧
∃ k0, cell? f0 ⟨g0, i0 + 1, none⟩ = some (.int .i64 k0) ∧
 Ec B 22 #[.agg #[.int .i64 j0, .int .i64 k0]] (retE (fun l0 m0 => ∃ n0 o0 p0, l0 = .tuple #[.int .i64 n0, .bool o0, .int .i64 p0] ∧
 isP c0 fun q0 r0 =>
∃ s0, cell? m0 ⟨q0, r0, none⟩ = some (.bool s0) ∧
∃ t0 u0 v0, cell? m0 ⟨q0, r0 + 1, none⟩ = some (.slice t0 u0 v0) ∧
∃ w0, cell? m0 ⟨q0, r0 + 1 + 1, none⟩ = some (.int .i64 w0) ∧
 Ec B 23 #[.agg #[.bool s0, .slice t0 u0 v0, .int .i64 w0]] (retE (fun x0 y0 => ∃ z0 a1, x0 = .tuple #[.int .i64 z0, .int .i64 a1] ∧
((!o0) = true →
 F1007_j434 B R true y0) ∧
((!o0) = false →
 F1007_j434 B R (decide (n0 = z0)) y0))
(pk R)) m0)
(pk R)) f0)
def F1007_j400 (B : World) (R : Po) (b1 c1 d1 e1 : OA) (f1 : Int) (g1 : Bool) (i1 : Heap) : Prop :=
(g1 = true →
 F1007_j17 B R c1 d1 true i1) ∧
(g1 = false →
 isP e1 fun j1 k1 =>
∃ l1, cI i1 j1 k1 .i64 l1 ∧
∃ m1, cell? i1 ⟨j1, k1 + 1, none⟩ = some (.int .i64 m1) ∧
 isP b1 fun n1 o1 =>
∃ p1, cell? i1 ⟨n1, o1, none⟩ = some (.bool p1) ∧
∃ q1 r1 s1, cell? i1 ⟨n1, o1 + 1, none⟩ = some (.slice q1 r1 s1) ∧
∃ t1, cell? i1 ⟨n1, o1 + 1 + 1, none⟩ = some (.int .i64 t1) ∧
 Ec B 21 #[.agg #[.int .i64 l1, .int .i64 m1], .int .i64 f1, .agg #[.bool p1, .slice q1 r1 s1, .int .i64 t1]] (retE (fun u1 v1 => ∃ w1, u1 = .bool w1 ∧
 F1007_j17 B R c1 d1 (!w1) v1)
(pk R)) i1)
def F1007_j391 (B : World) (R : Po) (x1 y1 z1 a2 b2 : OA) (c2 : Int) (d2 : Bool) (e2 : Heap) : Prop :=
(d2 = true →
 F1007_j400 B R y1 z1 a2 b2 c2 true e2) ∧
(d2 = false →
 isP b2 fun f2 g2 =>
∃ i2, cI e2 f2 g2 .i64 i2 ∧
∃ j2, cell? e2 ⟨f2, g2 + 1, none⟩ = some (.int .i64 j2) ∧
 isP x1 fun k2 l2 =>
∃ m2, cell? e2 ⟨k2, l2, none⟩ = some (.bool m2) ∧
∃ n2 o2 p2, cell? e2 ⟨k2, l2 + 1, none⟩ = some (.slice n2 o2 p2) ∧
∃ q2, cell? e2 ⟨k2, l2 + 1 + 1, none⟩ = some (.int .i64 q2) ∧
 Ec B 21 #[.agg #[.int .i64 i2, .int .i64 j2], .int .i64 c2, .agg #[.bool m2, .slice n2 o2 p2, .int .i64 q2]] (retE (fun r2 s2 => ∃ t2, r2 = .bool t2 ∧
 F1007_j400 B R y1 z1 a2 b2 c2 (!t2) s2)
(pk R)) e2)
def F1007_j379 (B : World) (R : Po) (u2 v2 w2 x2 y2 z2 : OA) (a3 : Int) (b3 : OA) (c3 : Int) (d3 : Bool) (e3 : Heap) : Prop :=
(d3 = true →
 F1007_j391 B R u2 v2 w2 y2 b3 c3 true e3) ∧
(d3 = false →
 isP z2 fun f3 g3 =>
∃ i3, cI e3 f3 g3 .i64 i3 ∧
∃ j3, cell? e3 ⟨f3, g3 + 1, none⟩ = some (.int .i64 j3) ∧
 isP x2 fun k3 l3 =>
∃ m3, cell? e3 ⟨k3, l3, none⟩ = some (.bool m3) ∧
∃ n3 o3 p3, cell? e3 ⟨k3, l3 + 1, none⟩ = some (.slice n3 o3 p3) ∧
∃ q3, cell? e3 ⟨k3, l3 + 1 + 1, none⟩ = some (.int .i64 q3) ∧
 Ec B 21 #[.agg #[.int .i64 i3, .int .i64 j3], .int .i64 a3, .agg #[.bool m3, .slice n3 o3 p3, .int .i64 q3]] (retE (fun r3 s3 => ∃ t3, r3 = .bool t3 ∧
 F1007_j391 B R u2 v2 w2 y2 b3 c3 (!t3) s3)
(pk R)) e3)
def F1007_j364 (B : World) (R : Po) (u3 v3 w3 x3 y3 z3 a4 : OA) (b4 : Int) (c4 : OA) (d4 : Int) (e4 : OA) (f4 : Int) (g4 : Bool) (i4 : Heap) : Prop :=
(g4 = true →
 F1007_j379 B R u3 v3 w3 y3 z3 c4 d4 e4 f4 true i4) ∧
(g4 = false →
 isP a4 fun j4 k4 =>
∃ l4, cI i4 j4 k4 .i64 l4 ∧
∃ m4, cell? i4 ⟨j4, k4 + 1, none⟩ = some (.int .i64 m4) ∧
 isP x3 fun n4 o4 =>
∃ p4, cell? i4 ⟨n4, o4, none⟩ = some (.bool p4) ∧
∃ q4 r4 s4, cell? i4 ⟨n4, o4 + 1, none⟩ = some (.slice q4 r4 s4) ∧
∃ t4, cell? i4 ⟨n4, o4 + 1 + 1, none⟩ = some (.int .i64 t4) ∧
 Ec B 21 #[.agg #[.int .i64 l4, .int .i64 m4], .int .i64 b4, .agg #[.bool p4, .slice q4 r4 s4, .int .i64 t4]] (retE (fun u4 v4 => ∃ w4, u4 = .bool w4 ∧
 F1007_j379 B R u3 v3 w3 y3 z3 c4 d4 e4 f4 (!w4) v4)
(pk R)) i4)
def F1007_j346 (B : World) (R : Po) (x4 y4 z4 a5 b5 c5 d5 e5 : OA) (f5 : Int) (g5 : OA) (i5 : Int) (j5 : OA) (k5 : Int) (l5 : OA) (m5 : Int) (n5 : Bool) (o5 : Heap) : Prop :=
(n5 = true →
 F1007_j364 B R x4 y4 z4 b5 c5 d5 g5 i5 j5 k5 l5 m5 true o5) ∧
(n5 = false →
 isP e5 fun p5 q5 =>
∃ r5, cI o5 p5 q5 .i64 r5 ∧
∃ s5, cell? o5 ⟨p5, q5 + 1, none⟩ = some (.int .i64 s5) ∧
 isP a5 fun t5 u5 =>
∃ v5, cell? o5 ⟨t5, u5, none⟩ = some (.bool v5) ∧
∃ w5 x5 y5, cell? o5 ⟨t5, u5 + 1, none⟩ = some (.slice w5 x5 y5) ∧
∃ z5, cell? o5 ⟨t5, u5 + 1 + 1, none⟩ = some (.int .i64 z5) ∧
 Ec B 21 #[.agg #[.int .i64 r5, .int .i64 s5], .int .i64 f5, .agg #[.bool v5, .slice w5 x5 y5, .int .i64 z5]] (retE (fun a6 b6 => ∃ c6, a6 = .bool c6 ∧
 F1007_j364 B R x4 y4 z4 b5 c5 d5 g5 i5 j5 k5 l5 m5 (!c6) b6)
(pk R)) o5)
def F1007_j327 (B : World) (R : Po) (d6 e6 f6 g6 i6 j6 k6 : OA) (l6 : Int) (m6 : OA) (n6 : Int) (o6 : OA) (p6 : Int) (q6 : OA) (r6 : Int) (s6 : OA) (t6 : Int) (u6 : Bool) (v6 : Heap) : Prop :=
(u6 = true →
 F1007_j346 B R d6 e6 f6 g6 i6 j6 k6 m6 n6 o6 p6 q6 r6 s6 t6 true v6) ∧
(u6 = false →
 isP k6 fun w6 x6 =>
∃ y6, cI v6 w6 x6 .i64 y6 ∧
∃ z6, cell? v6 ⟨w6, x6 + 1, none⟩ = some (.int .i64 z6) ∧
 isP f6 fun a7 b7 =>
∃ c7, cell? v6 ⟨a7, b7, none⟩ = some (.bool c7) ∧
∃ d7 e7 f7, cell? v6 ⟨a7, b7 + 1, none⟩ = some (.slice d7 e7 f7) ∧
∃ g7, cell? v6 ⟨a7, b7 + 1 + 1, none⟩ = some (.int .i64 g7) ∧
 Ec B 21 #[.agg #[.int .i64 y6, .int .i64 z6], .int .i64 l6, .agg #[.bool c7, .slice d7 e7 f7, .int .i64 g7]] (retE (fun i7 j7 => ∃ k7, i7 = .bool k7 ∧
 F1007_j346 B R d6 e6 f6 g6 i6 j6 k6 m6 n6 o6 p6 q6 r6 s6 t6 (!k7) j7)
(pk R)) v6)
def F1007_j4 (B : World) (R : Po) (l7 m7 n7 o7 : OA) (p7 : Bool) (q7 : Heap) : Prop :=
(p7 = true →
 Ec B 7 #[] (retE (fun r7 s7 => ∃ t7, r7 = .bool t7 ∧
 R (.returned (.bool t7)) s7)
(pk R)) q7) ∧
(p7 = false →
 isP m7 fun u7 v7 =>
∃ w7, cell? q7 ⟨u7, v7, none⟩ = some (.bool w7) ∧
∃ x7 y7 z7, cell? q7 ⟨u7, v7 + 1, none⟩ = some (.slice x7 y7 z7) ∧
∃ a8, cell? q7 ⟨u7, v7 + 1 + 1, none⟩ = some (.int .i64 a8) ∧
 isP o7 fun b8 c8 =>
∃ d8, cell? q7 ⟨b8, c8, none⟩ = some (.bool d8) ∧
∃ e8 f8 g8, cell? q7 ⟨b8, c8 + 1, none⟩ = some (.slice e8 f8 g8) ∧
∃ i8, cell? q7 ⟨b8, c8 + 1 + 1, none⟩ = some (.int .i64 i8) ∧
 Ec B 14 #[.agg #[.bool w7, .slice x7 y7 z7, .int .i64 a8], .agg #[.bool d8, .slice e8 f8 g8, .int .i64 i8]] (retE (fun j8 k8 => ∃ l8 m8 n8 o8 p8 q8, j8 = .tuple #[.agg #[.bool l8, .slice m8 n8 o8, .int .i64 p8], .int .i64 q8] ∧
 alW k8 (.cells #[.bool false, .slice none 0 0, .int .i64 0] 26) fun r8 s8 =>
 iP r8 0 fun t8 u8 => stC s8 t8 u8 (.bool l8) fun v8 =>
 stC v8 t8 (u8 + 1) (.slice m8 n8 o8) fun w8 =>
 stC w8 t8 (u8 + 1 + 1) (.int .i64 p8) fun x8 =>
 isP m7 fun y8 z8 =>
∃ a9, cell? x8 ⟨y8, z8, none⟩ = some (.bool a9) ∧
∃ b9 c9 d9, cell? x8 ⟨y8, z8 + 1, none⟩ = some (.slice b9 c9 d9) ∧
∃ e9, cell? x8 ⟨y8, z8 + 1 + 1, none⟩ = some (.int .i64 e9) ∧
 isP o7 fun f9 g9 =>
∃ i9, cell? x8 ⟨f9, g9, none⟩ = some (.bool i9) ∧
∃ j9 k9 l9, cell? x8 ⟨f9, g9 + 1, none⟩ = some (.slice j9 k9 l9) ∧
∃ m9, cell? x8 ⟨f9, g9 + 1 + 1, none⟩ = some (.int .i64 m9) ∧
 Ec B 15 #[.agg #[.bool a9, .slice b9 c9 d9, .int .i64 e9], .agg #[.bool i9, .slice j9 k9 l9, .int .i64 m9]] (retE (fun n9 o9 => ∃ p9 q9 r9 s9 t9 u9, n9 = .tuple #[.agg #[.bool p9, .slice q9 r9 s9, .int .i64 t9], .int .i64 u9] ∧
 alW o9 (.cells #[.bool false, .slice none 0 0, .int .i64 0] 26) fun v9 w9 =>
 iP v9 0 fun x9 y9 => stC w9 x9 y9 (.bool p9) fun z9 =>
 stC z9 x9 (y9 + 1) (.slice q9 r9 s9) fun a10 =>
 stC a10 x9 (y9 + 1 + 1) (.int .i64 t9) fun b10 =>
 isP m7 fun c10 d10 =>
∃ e10, cell? b10 ⟨c10, d10, none⟩ = some (.bool e10) ∧
∃ f10 g10 i10, cell? b10 ⟨c10, d10 + 1, none⟩ = some (.slice f10 g10 i10) ∧
∃ j10, cell? b10 ⟨c10, d10 + 1 + 1, none⟩ = some (.int .i64 j10) ∧
 isP o7 fun k10 l10 =>
∃ m10, cell? b10 ⟨k10, l10, none⟩ = some (.bool m10) ∧
∃ n10 o10 p10, cell? b10 ⟨k10, l10 + 1, none⟩ = some (.slice n10 o10 p10) ∧
∃ q10, cell? b10 ⟨k10, l10 + 1 + 1, none⟩ = some (.int .i64 q10) ∧
 Ec B 16 #[.agg #[.bool e10, .slice f10 g10 i10, .int .i64 j10], .agg #[.bool m10, .slice n10 o10 p10, .int .i64 q10]] (retE (fun r10 s10 => ∃ t10 u10 v10 w10 x10 y10, r10 = .tuple #[.agg #[.bool t10, .slice u10 v10 w10, .int .i64 x10], .int .i64 y10] ∧
 alW s10 (.cells #[.bool false, .slice none 0 0, .int .i64 0] 26) fun z10 a11 =>
 iP z10 0 fun b11 c11 => stC a11 b11 c11 (.bool t10) fun d11 =>
 stC d11 b11 (c11 + 1) (.slice u10 v10 w10) fun e11 =>
 stC e11 b11 (c11 + 1 + 1) (.int .i64 x10) fun f11 =>
 isP m7 fun g11 i11 =>
∃ j11, cell? f11 ⟨g11, i11, none⟩ = some (.bool j11) ∧
∃ k11 l11 m11, cell? f11 ⟨g11, i11 + 1, none⟩ = some (.slice k11 l11 m11) ∧
∃ n11, cell? f11 ⟨g11, i11 + 1 + 1, none⟩ = some (.int .i64 n11) ∧
 isP m7 fun o11 p11 =>
∃ q11, cell? f11 ⟨o11, p11, none⟩ = some (.bool q11) ∧
∃ r11 s11 t11, cell? f11 ⟨o11, p11 + 1, none⟩ = some (.slice r11 s11 t11) ∧
∃ u11, cell? f11 ⟨o11, p11 + 1 + 1, none⟩ = some (.int .i64 u11) ∧
 Ec B 16 #[.agg #[.bool j11, .slice k11 l11 m11, .int .i64 n11], .agg #[.bool q11, .slice r11 s11 t11, .int .i64 u11]] (retE (fun v11 w11 => ∃ x11 y11 z11 a12 b12 c12, v11 = .tuple #[.agg #[.bool x11, .slice y11 z11 a12, .int .i64 b12], .int .i64 c12] ∧
 alW w11 (.cells #[.bool false, .slice none 0 0, .int .i64 0] 26) fun d12 e12 =>
 iP d12 0 fun f12 g12 => stC e12 f12 g12 (.bool x11) fun i12 =>
 stC i12 f12 (g12 + 1) (.slice y11 z11 a12) fun j12 =>
 stC j12 f12 (g12 + 1 + 1) (.int .i64 b12) fun k12 =>
 isP m7 fun l12 m12 =>
∃ n12, cell? k12 ⟨l12, m12, none⟩ = some (.bool n12) ∧
∃ o12 p12 q12, cell? k12 ⟨l12, m12 + 1, none⟩ = some (.slice o12 p12 q12) ∧
∃ r12, cell? k12 ⟨l12, m12 + 1 + 1, none⟩ = some (.int .i64 r12) ∧
 Ec B 17 #[.agg #[.bool n12, .slice o12 p12 q12, .int .i64 r12]] (retE (fun s12 t12 => ∃ u12 v12 w12 x12 y12 z12, s12 = .tuple #[.agg #[.bool u12, .slice v12 w12 x12, .int .i64 y12], .int .i64 z12] ∧
 alW t12 (.cells #[.bool false, .slice none 0 0, .int .i64 0] 26) fun a13 b13 =>
 iP a13 0 fun c13 d13 => stC b13 c13 d13 (.bool u12) fun e13 =>
 stC e13 c13 (d13 + 1) (.slice v12 w12 x12) fun f13 =>
 stC f13 c13 (d13 + 1 + 1) (.int .i64 y12) fun g13 =>
 isP l7 fun i13 j13 =>
∃ k13, cI g13 i13 j13 .i64 k13 ∧
∃ l13, cell? g13 ⟨i13, j13 + 1, none⟩ = some (.int .i64 l13) ∧
 isP n7 fun m13 n13 =>
∃ o13, cI g13 m13 n13 .i64 o13 ∧
∃ p13, cell? g13 ⟨m13, n13 + 1, none⟩ = some (.int .i64 p13) ∧
 Ec B 9 #[.agg #[.int .i64 k13, .int .i64 l13], .agg #[.int .i64 o13, .int .i64 p13]] (retE (fun q13 r13 => ∃ s13 t13 u13, q13 = .tuple #[.agg #[.int .i64 s13, .int .i64 t13], .int .i64 u13] ∧
 alW r13 (.cells #[.int .i64 0, .int .i64 0] 23) fun v13 w13 =>
 iP v13 0 fun x13 y13 => stC w13 x13 y13 (.int .i64 s13) fun z13 =>
 stC z13 x13 (y13 + 1) (.int .i64 t13) fun a14 =>
 isP l7 fun b14 c14 =>
∃ d14, cI a14 b14 c14 .i64 d14 ∧
∃ e14, cell? a14 ⟨b14, c14 + 1, none⟩ = some (.int .i64 e14) ∧
 isP n7 fun f14 g14 =>
∃ i14, cI a14 f14 g14 .i64 i14 ∧
∃ j14, cell? a14 ⟨f14, g14 + 1, none⟩ = some (.int .i64 j14) ∧
 Ec B 18 #[.agg #[.int .i64 d14, .int .i64 e14], .agg #[.int .i64 i14, .int .i64 j14]] (retE (fun k14 l14 => ∃ m14 n14 o14, k14 = .tuple #[.agg #[.int .i64 m14, .int .i64 n14], .int .i64 o14] ∧
 alW l14 (.cells #[.int .i64 0, .int .i64 0] 23) fun p14 q14 =>
 iP p14 0 fun r14 s14 => stC q14 r14 s14 (.int .i64 m14) fun t14 =>
 stC t14 r14 (s14 + 1) (.int .i64 n14) fun u14 =>
 isP l7 fun v14 w14 =>
∃ x14, cI u14 v14 w14 .i64 x14 ∧
∃ y14, cell? u14 ⟨v14, w14 + 1, none⟩ = some (.int .i64 y14) ∧
 isP n7 fun z14 a15 =>
∃ b15, cI u14 z14 a15 .i64 b15 ∧
∃ c15, cell? u14 ⟨z14, a15 + 1, none⟩ = some (.int .i64 c15) ∧
 Ec B 10 #[.agg #[.int .i64 x14, .int .i64 y14], .agg #[.int .i64 b15, .int .i64 c15]] (retE (fun d15 e15 => ∃ f15 g15 i15, d15 = .tuple #[.agg #[.int .i64 f15, .int .i64 g15], .int .i64 i15] ∧
 alW e15 (.cells #[.int .i64 0, .int .i64 0] 23) fun j15 k15 =>
 iP j15 0 fun l15 m15 => stC k15 l15 m15 (.int .i64 f15) fun n15 =>
 stC n15 l15 (m15 + 1) (.int .i64 g15) fun o15 =>
 isP l7 fun p15 q15 =>
∃ r15, cI o15 p15 q15 .i64 r15 ∧
∃ s15, cell? o15 ⟨p15, q15 + 1, none⟩ = some (.int .i64 s15) ∧
 Ec B 11 #[.agg #[.int .i64 r15, .int .i64 s15]] (retE (fun t15 u15 => ∃ v15 w15 x15, t15 = .tuple #[.agg #[.int .i64 v15, .int .i64 w15], .int .i64 x15] ∧
 alW u15 (.cells #[.int .i64 0, .int .i64 0] 23) fun y15 z15 =>
 iP y15 0 fun a16 b16 => stC z15 a16 b16 (.int .i64 v15) fun c16 =>
 stC c16 a16 (b16 + 1) (.int .i64 w15) fun d16 =>
 isP l7 fun e16 f16 =>
∃ g16, cI d16 e16 f16 .i64 g16 ∧
∃ i16, cell? d16 ⟨e16, f16 + 1, none⟩ = some (.int .i64 i16) ∧
 Ec B 19 #[.agg #[.int .i64 g16, .int .i64 i16]] (retE (fun j16 k16 => ∃ l16 m16 n16, j16 = .tuple #[.agg #[.int .i64 l16, .int .i64 m16], .int .i64 n16] ∧
 alW k16 (.cells #[.int .i64 0, .int .i64 0] 23) fun o16 p16 =>
 iP o16 0 fun q16 r16 => stC p16 q16 r16 (.int .i64 l16) fun s16 =>
 stC s16 q16 (r16 + 1) (.int .i64 m16) fun t16 =>
 isP l7 fun u16 v16 =>
∃ w16, cI t16 u16 v16 .i64 w16 ∧
∃ x16, cell? t16 ⟨u16, v16 + 1, none⟩ = some (.int .i64 x16) ∧
 isP n7 fun y16 z16 =>
∃ a17, cI t16 y16 z16 .i64 a17 ∧
∃ b17, cell? t16 ⟨y16, z16 + 1, none⟩ = some (.int .i64 b17) ∧
 Ec B 20 #[.agg #[.int .i64 w16, .int .i64 x16], .agg #[.int .i64 a17, .int .i64 b17]] (retE (fun c17 d17 => ∃ e17 f17 g17, c17 = .tuple #[.agg #[.int .i64 e17, .int .i64 f17], .int .i64 g17] ∧
 alW d17 (.cells #[.int .i64 0, .int .i64 0] 23) fun i17 j17 =>
 iP i17 0 fun k17 l17 => stC j17 k17 l17 (.int .i64 e17) fun m17 =>
 stC m17 k17 (l17 + 1) (.int .i64 f17) fun n17 =>
 isP l7 fun o17 p17 =>
∃ q17, cI n17 o17 p17 .i64 q17 ∧
∃ r17, cell? n17 ⟨o17, p17 + 1, none⟩ = some (.int .i64 r17) ∧
 isP m7 fun s17 t17 =>
∃ u17, cell? n17 ⟨s17, t17, none⟩ = some (.bool u17) ∧
∃ v17 w17 x17, cell? n17 ⟨s17, t17 + 1, none⟩ = some (.slice v17 w17 x17) ∧
∃ y17, cell? n17 ⟨s17, t17 + 1 + 1, none⟩ = some (.int .i64 y17) ∧
 Ec B 21 #[.agg #[.int .i64 q17, .int .i64 r17], .int .i64 (0 : Int), .agg #[.bool u17, .slice v17 w17 x17, .int .i64 y17]] (retE (fun z17 a18 => ∃ b18, z17 = .bool b18 ∧
((!b18) = true →
 F1007_j327 B R m7 o7 (some ⟨v9, 0, none⟩) (some ⟨z10, 0, none⟩) (some ⟨d12, 0, none⟩) (some ⟨a13, 0, none⟩) (some ⟨p14, 0, none⟩) o14 (some ⟨j15, 0, none⟩) i15 (some ⟨y15, 0, none⟩) x15 (some ⟨o16, 0, none⟩) n16 (some ⟨i17, 0, none⟩) g17 true a18) ∧
((!b18) = false →
 iP v13 0 fun c18 d18 =>
∃ e18, cI a18 c18 d18 .i64 e18 ∧
∃ f18, cell? a18 ⟨c18, d18 + 1, none⟩ = some (.int .i64 f18) ∧
 iP r8 0 fun g18 i18 =>
∃ j18, cell? a18 ⟨g18, i18, none⟩ = some (.bool j18) ∧
∃ k18 l18 m18, cell? a18 ⟨g18, i18 + 1, none⟩ = some (.slice k18 l18 m18) ∧
∃ n18, cell? a18 ⟨g18, i18 + 1 + 1, none⟩ = some (.int .i64 n18) ∧
 Ec B 21 #[.agg #[.int .i64 e18, .int .i64 f18], .int .i64 u13, .agg #[.bool j18, .slice k18 l18 m18, .int .i64 n18]] (retE (fun o18 p18 => ∃ q18, o18 = .bool q18 ∧
 F1007_j327 B R m7 o7 (some ⟨v9, 0, none⟩) (some ⟨z10, 0, none⟩) (some ⟨d12, 0, none⟩) (some ⟨a13, 0, none⟩) (some ⟨p14, 0, none⟩) o14 (some ⟨j15, 0, none⟩) i15 (some ⟨y15, 0, none⟩) x15 (some ⟨o16, 0, none⟩) n16 (some ⟨i17, 0, none⟩) g17 (!q18) p18)
(pk R)) a18))
(pk R)) n17)
(pk R)) t16)
(pk R)) d16)
(pk R)) o15)
(pk R)) u14)
(pk R)) a14)
(pk R)) g13)
(pk R)) k12)
(pk R)) f11)
(pk R)) b10)
(pk R)) x8)
(pk R)) q7)
def F1007_j56 (B : World) (R : Po) (r18 s18 t18 u18 : OA) (v18 w18 : Bool) (x18 : Heap) : Prop :=
(w18 = true →
 F1007_j4 B R r18 s18 t18 u18 true x18) ∧
(w18 = false →
 F1007_j4 B R r18 s18 t18 u18 (!v18) x18)
def F1007 (B : World) (R : Po) (y18 z18 a19 b19 : Int) (h : Heap) : Prop :=
 Ec B 6 #[.int .i64 y18, .int .i64 a19, .int .i64 b19] (retE (fun c19 d19 => ∃ e19 f19 g19 i19 j19 k19 l19 m19, c19 = .tuple #[.agg #[.int .i64 e19, .int .i64 f19], .agg #[.bool g19, .slice i19 j19 k19, .int .i64 l19], .bool m19] ∧
 alW d19 (.cells #[.int .i64 0, .int .i64 0] 23) fun n19 o19 =>
 alW o19 (.cells #[.bool false, .slice none 0 0, .int .i64 0] 26) fun p19 q19 =>
 iP n19 0 fun r19 s19 => stC q19 r19 s19 (.int .i64 e19) fun t19 =>
 stC t19 r19 (s19 + 1) (.int .i64 f19) fun u19 =>
 iP p19 0 fun v19 w19 => stC u19 v19 w19 (.bool g19) fun x19 =>
 stC x19 v19 (w19 + 1) (.slice i19 j19 k19) fun y19 =>
 stC y19 v19 (w19 + 1 + 1) (.int .i64 l19) fun z19 =>
0 ≤ (3 : Int) ∧
 Ec B 6 #[.int .i64 z18, .int .i64 b19, .int .i64 (Int.fdiv a19 (2 ^ min (Int.toNat (3 : Int)) IntKind.i64.bits))] (retE (fun a20 b20 => ∃ c20 d20 e20 f20 g20 i20 j20 k20, a20 = .tuple #[.agg #[.int .i64 c20, .int .i64 d20], .agg #[.bool e20, .slice f20 g20 i20, .int .i64 j20], .bool k20] ∧
 alW b20 (.cells #[.int .i64 0, .int .i64 0] 23) fun l20 m20 =>
 alW m20 (.cells #[.bool false, .slice none 0 0, .int .i64 0] 26) fun n20 o20 =>
 iP l20 0 fun p20 q20 => stC o20 p20 q20 (.int .i64 c20) fun r20 =>
 stC r20 p20 (q20 + 1) (.int .i64 d20) fun s20 =>
 iP n20 0 fun t20 u20 => stC s20 t20 u20 (.bool e20) fun v20 =>
 stC v20 t20 (u20 + 1) (.slice f20 g20 i20) fun w20 =>
 stC w20 t20 (u20 + 1 + 1) (.int .i64 j20) fun x20 =>
 Ec B 7 #[] (retE (fun y20 z20 => ∃ a21, y20 = .bool a21 ∧
((!a21) = true →
 F1007_j56 B R (some ⟨n19, 0, none⟩) (some ⟨p19, 0, none⟩) (some ⟨l20, 0, none⟩) (some ⟨n20, 0, none⟩) k20 true z20) ∧
((!a21) = false →
 F1007_j56 B R (some ⟨n19, 0, none⟩) (some ⟨p19, 0, none⟩) (some ⟨l20, 0, none⟩) (some ⟨n20, 0, none⟩) k20 (!m19) z20))
(pk R)) x20)
(pk R)) z19)
(pk R)) h
def F1007_L : Nat → List (Nat × TypeDesc) := fun _ => []
def F1007_J (B : World) (R : Po) : Nat → Option JT := fun i => match i with
  | 4 => some ⟨[(9, .pointer 0), (10, .pointer 0), (12, .pointer 0), (13, .pointer 0), (68, .bool)], fun s v h => match s, v with
    | [], [.pointer l7, .pointer m7, .pointer n7, .pointer o7, .bool p7] => F1007_j4 B R l7 m7 n7 o7 p7 h
    | _, _ => False⟩
  | 17 => some ⟨[(17, .pointer 0), (27, .pointer 0), (185, .bool)], fun s v h => match s, v with
    | [], [.pointer c0, .pointer d0, .bool e0] => F1007_j17 B R c0 d0 e0 h
    | _, _ => False⟩
  | _ => none
theorem F1007_ok {B : World} {R : Ending → Heap → Prop} (y18 z18 a19 b19 : Int) {h : Heap} (H : F1007 B R y18 z18 a19 b19 h) : Ec B 4 #[.int .i64 y18, .int .i64 z18, .int .i64 a19, .int .i64 b19] R h :=
 Ej Tryz.func4 (by kernel_rfl) (by kernel_rfl) (by kernel_rfl) F1007_L (F1007_J B R) [] (by kernel_rfl) (by kernel_rfl) H

/-- plumb/dyadic.Neg -/
def F1025_j54 (B : World) (R : Po) (a0 b0 c0 : OA) (d0 e0 : Nat) (f0 : OA) (g0 : Heap) : Prop :=
 ixW c0 d0 (0 : Int) 2 fun i0 j0 =>
 iP i0 j0 fun k0 l0 =>
∃ m0, cell? g0 ⟨k0, l0, none⟩ = some (.pointer m0) ∧
∃ n0, cell? g0 ⟨k0, l0 + 1, none⟩ = some (.int .i64 n0) ∧
 Ec B 38 #[.agg #[.pointer m0, .int .i64 n0]] (retE (fun o0 p0 => ∃ q0 r0 s0 t0 u0, o0 = .agg #[.bool q0, .slice r0 s0 t0, .int .i64 u0] ∧
 isP a0 fun v0 w0 => stC p0 v0 w0 (.bool q0) fun x0 =>
 stC x0 v0 (w0 + 1) (.slice r0 s0 t0) fun y0 =>
 stC y0 v0 (w0 + 1 + 1) (.int .i64 u0) fun z0 =>
 isP b0 fun a1 b1 => stC z0 a1 b1 (.int .i64 (0 : Int)) fun c1 =>
 Enters Tryz.prog 37 ∧ FnD Tryz.prog B 37 #[.pointer f0] .returning (dfE fun d1 e1 => lvW (fun f1 => isP a0 fun g1 i1 =>
∃ j1, cell? f1 ⟨g1, i1, none⟩ = some (.bool j1) ∧
∃ k1 l1 m1, cell? f1 ⟨g1, i1 + 1, none⟩ = some (.slice k1 l1 m1) ∧
∃ n1, cell? f1 ⟨g1, i1 + 1 + 1, none⟩ = some (.int .i64 n1) ∧
 isP b0 fun o1 p1 => ∃ q1, cI f1 o1 p1 .i64 q1 ∧
 R (.returned (.tuple #[.agg #[.bool j1, .slice k1 l1 m1, .int .i64 n1], .int .i64 q1])) f1) (pk R) d1 e1) c1)
(fun r1 s1 => Enters Tryz.prog 37 ∧ FnD Tryz.prog B 37 #[.pointer f0] (.panicking r1) (dfE fun t1 u1 => lvW (fun v1 => isP a0 fun w1 x1 =>
∃ y1, cell? v1 ⟨w1, x1, none⟩ = some (.bool y1) ∧
∃ z1 a2 b2, cell? v1 ⟨w1, x1 + 1, none⟩ = some (.slice z1 a2 b2) ∧
∃ c2, cell? v1 ⟨w1, x1 + 1 + 1, none⟩ = some (.int .i64 c2) ∧
 isP b0 fun d2 e2 => ∃ f2, cI v1 d2 e2 .i64 f2 ∧
 R (.returned (.tuple #[.agg #[.bool y1, .slice z1 a2 b2, .int .i64 c2], .int .i64 f2])) v1) (pk R) t1 u1) s1)) g0
def F1025 (B : World) (R : Po) (g2 : Bool) (i2 : OA) (j2 k2 : Nat) (l2 : Int) (h : Heap) : Prop :=
 alW h (.cells #[.bool g2, .slice i2 j2 k2, .int .i64 l2] 26) fun m2 n2 =>
 alW n2 (.cells #[.bool false, .slice none 0 0, .int .i64 0] 26) fun o2 p2 =>
 alW p2 (.cells #[.int .i64 0] 31) fun q2 r2 =>
 iP m2 0 fun s2 t2 =>
∃ u2, cell? r2 ⟨s2, t2, none⟩ = some (.bool u2) ∧
∃ v2 w2 x2, cell? r2 ⟨s2, t2 + 1, none⟩ = some (.slice v2 w2 x2) ∧
∃ y2, cell? r2 ⟨s2, t2 + 1 + 1, none⟩ = some (.int .i64 y2) ∧
 alW r2 (.cells #[.bool u2, .slice v2 w2 x2, .int .i64 y2] 26) fun z2 a3 =>
 Ec B 40 #[.slice (some ⟨z2, 0, none⟩) 1 1] (retE (fun b3 c3 => ∃ d3 e3 f3, b3 = .slice d3 e3 f3 ∧
 ixW d3 e3 (0 : Int) 2 fun g3 i3 =>
 iP g3 i3 fun j3 k3 =>
 iP j3 k3 fun l3 m3 => ∃ n3, cell? c3 ⟨l3, m3, none⟩ = some (.pointer n3) ∧
 ixW d3 e3 (0 : Int) 2 fun o3 p3 =>
 iP o3 p3 fun q3 r3 =>
 iP q3 r3 fun s3 t3 => ∃ u3, cell? c3 ⟨s3, t3, none⟩ = some (.pointer u3) ∧
 Ec B 41 #[.pointer n3, .pointer u3] (retE (fun v3 w3 => ∃ x3, v3 = .pointer x3 ∧
 F1025_j54 B R (some ⟨o2, 0, none⟩) (some ⟨q2, 0, none⟩) d3 e3 f3 (some ⟨q2, 0, none⟩) w3)
(fun _ _ => False)) c3)
(fun y3 z3 => Enters Tryz.prog 37 ∧ FnD Tryz.prog B 37 #[.pointer (some ⟨q2, 0, none⟩)] (.panicking y3) (dfE fun a4 b4 => lvW (fun c4 => iP o2 0 fun d4 e4 =>
∃ f4, cell? c4 ⟨d4, e4, none⟩ = some (.bool f4) ∧
∃ g4 i4 j4, cell? c4 ⟨d4, e4 + 1, none⟩ = some (.slice g4 i4 j4) ∧
∃ k4, cell? c4 ⟨d4, e4 + 1 + 1, none⟩ = some (.int .i64 k4) ∧
 iP q2 0 fun l4 m4 => ∃ n4, cI c4 l4 m4 .i64 n4 ∧
 R (.returned (.tuple #[.agg #[.bool f4, .slice g4 i4 j4, .int .i64 k4], .int .i64 n4])) c4) (pk R) a4 b4) z3)) a3
def F1025_L : Nat → List (Nat × TypeDesc) := fun _ => []
theorem F1025_ok {B : World} {R : Ending → Heap → Prop} (g2 : Bool) (i2 : OA) (j2 k2 : Nat) (l2 : Int) {h : Heap} (H : F1025 B R g2 i2 j2 k2 l2 h) : Ec B 17 #[.agg #[.bool g2, .slice i2 j2 k2, .int .i64 l2]] R h :=
 Ed Tryz.func17 (by kernel_rfl) (by kernel_rfl) (by kernel_rfl) F1025_L [] (by kernel_rfl) H

/-- plumb/span.Sub -/
def F1026 (B : World) (R : Po) (a0 b0 c0 d0 : Int) (h : Heap) : Prop :=
 alW h (.cells #[.int .i64 a0, .int .i64 b0] 23) fun e0 f0 =>
 alW f0 (.cells #[.int .i64 c0, .int .i64 d0] 23) fun g0 i0 =>
 alW i0 (.cells #[.int .i64 0, .int .i64 0] 23) fun j0 k0 =>
 iP e0 0 fun l0 m0 =>
∃ n0, cI k0 l0 m0 .i64 n0 ∧
∃ o0, cell? k0 ⟨l0, m0 + 1, none⟩ = some (.int .i64 o0) ∧
 iP g0 0 fun p0 q0 =>
∃ r0, cI k0 p0 q0 .i64 r0 ∧
∃ s0, cell? k0 ⟨p0, q0 + 1, none⟩ = some (.int .i64 s0) ∧
 alW k0 (.cells #[.int .i64 n0, .int .i64 o0, .int .i64 r0, .int .i64 s0] 23) fun t0 u0 =>
 Ec B 30 #[.slice (some ⟨t0, 0, none⟩) 2 2] (retE (fun v0 w0 => ∃ x0, v0 = .int .i64 x0 ∧
((!decide (x0 = (0 : Int))) = true →
 iP 0 0 fun y0 z0 =>
∃ a1, cI w0 y0 z0 .i64 a1 ∧
∃ b1, cell? w0 ⟨y0, z0 + 1, none⟩ = some (.int .i64 b1) ∧
 iP j0 0 fun c1 d1 => stC w0 c1 d1 (.int .i64 a1) fun e1 =>
 stC e1 c1 (d1 + 1) (.int .i64 b1) fun f1 =>
 iP j0 0 fun g1 i1 =>
∃ j1, cI f1 g1 i1 .i64 j1 ∧
∃ k1, cell? f1 ⟨g1, i1 + 1, none⟩ = some (.int .i64 k1) ∧
 R (.returned (.tuple #[.agg #[.int .i64 j1, .int .i64 k1], .int .i64 x0])) f1) ∧
((!decide (x0 = (0 : Int))) = false →
 iP g0 0 fun l1 m1 =>
∃ n1, cI w0 l1 m1 .i64 n1 ∧
∃ o1, cell? w0 ⟨l1, m1 + 1, none⟩ = some (.int .i64 o1) ∧
 Ec B 19 #[.agg #[.int .i64 n1, .int .i64 o1]] (retE (fun p1 q1 => ∃ r1 s1 t1, p1 = .tuple #[.agg #[.int .i64 r1, .int .i64 s1], .int .i64 t1] ∧
 alW q1 (.cells #[.int .i64 0, .int .i64 0] 23) fun u1 v1 =>
 iP u1 0 fun w1 x1 => stC v1 w1 x1 (.int .i64 r1) fun y1 =>
 stC y1 w1 (x1 + 1) (.int .i64 s1) fun z1 =>
 iP e0 0 fun a2 b2 =>
∃ c2, cI z1 a2 b2 .i64 c2 ∧
∃ d2, cell? z1 ⟨a2, b2 + 1, none⟩ = some (.int .i64 d2) ∧
 iP u1 0 fun e2 f2 =>
∃ g2, cI z1 e2 f2 .i64 g2 ∧
∃ i2, cell? z1 ⟨e2, f2 + 1, none⟩ = some (.int .i64 i2) ∧
 Ec B 9 #[.agg #[.int .i64 c2, .int .i64 d2], .agg #[.int .i64 g2, .int .i64 i2]] (retE (fun j2 k2 => ∃ l2 m2 n2, j2 = .tuple #[.agg #[.int .i64 l2, .int .i64 m2], .int .i64 n2] ∧
 iP j0 0 fun o2 p2 => stC k2 o2 p2 (.int .i64 l2) fun q2 =>
 stC q2 o2 (p2 + 1) (.int .i64 m2) fun r2 =>
 iP j0 0 fun s2 t2 =>
∃ u2, cI r2 s2 t2 .i64 u2 ∧
∃ v2, cell? r2 ⟨s2, t2 + 1, none⟩ = some (.int .i64 v2) ∧
 R (.returned (.tuple #[.agg #[.int .i64 u2, .int .i64 v2], .int .i64 n2])) r2)
(pk R)) z1)
(pk R)) w0))
(pk R)) u0
def F1026_L : Nat → List (Nat × TypeDesc) := fun _ => []
theorem F1026_ok {B : World} {R : Ending → Heap → Prop} (a0 b0 c0 d0 : Int) {h : Heap} (H : F1026 B R a0 b0 c0 d0 h) : Ec B 18 #[.agg #[.int .i64 a0, .int .i64 b0], .agg #[.int .i64 c0, .int .i64 d0]] R h :=
 Ek Tryz.func18 (by kernel_rfl) (by kernel_rfl) (by kernel_rfl) F1026_L [] (by kernel_rfl) H

/-- plumb/span.Neg -/
def F1027 (B : World) (R : Po) (a0 b0 : Int) (h : Heap) : Prop :=
 alW h (.cells #[.int .i64 a0, .int .i64 b0] 23) fun c0 d0 =>
 alW d0 (.cells #[.int .i64 0, .int .i64 0] 23) fun e0 f0 =>
 iP c0 0 fun g0 i0 =>
∃ j0, cI f0 g0 i0 .i64 j0 ∧
∃ k0, cell? f0 ⟨g0, i0 + 1, none⟩ = some (.int .i64 k0) ∧
 alW f0 (.cells #[.int .i64 j0, .int .i64 k0] 23) fun l0 m0 =>
 Ec B 30 #[.slice (some ⟨l0, 0, none⟩) 1 1] (retE (fun n0 o0 => ∃ p0, n0 = .int .i64 p0 ∧
((!decide (p0 = (0 : Int))) = true →
 iP 0 0 fun q0 r0 =>
∃ s0, cI o0 q0 r0 .i64 s0 ∧
∃ t0, cell? o0 ⟨q0, r0 + 1, none⟩ = some (.int .i64 t0) ∧
 iP e0 0 fun u0 v0 => stC o0 u0 v0 (.int .i64 s0) fun w0 =>
 stC w0 u0 (v0 + 1) (.int .i64 t0) fun x0 =>
 iP e0 0 fun y0 z0 =>
∃ a1, cI x0 y0 z0 .i64 a1 ∧
∃ b1, cell? x0 ⟨y0, z0 + 1, none⟩ = some (.int .i64 b1) ∧
 R (.returned (.tuple #[.agg #[.int .i64 a1, .int .i64 b1], .int .i64 p0])) x0) ∧
((!decide (p0 = (0 : Int))) = false →
 iP c0 0 fun c1 d1 =>
 isP (some ⟨c1, d1 + 1, none⟩) fun e1 f1 => ∃ g1, cI o0 e1 f1 .i64 g1 ∧
 iP c0 0 fun i1 j1 =>
 iP i1 j1 fun k1 l1 => ∃ m1, cI o0 k1 l1 .i64 m1 ∧
 Ec B 43 #[.int .i64 g1] (retE (fun n1 o1 => ∃ p1, n1 = .int .i64 p1 ∧
 sameCells o0 o1 k1 l1 1 ∧ Ec B 43 #[.int .i64 m1] (retE (fun q1 r1 => ∃ s1, q1 = .int .i64 s1 ∧
 Ec B 29 #[.int .i64 p1, .int .i64 s1] (retE (fun t1 u1 => ∃ v1 w1 x1, t1 = .tuple #[.agg #[.int .i64 v1, .int .i64 w1], .int .i64 x1] ∧
 iP e0 0 fun y1 z1 => stC u1 y1 z1 (.int .i64 v1) fun a2 =>
 stC a2 y1 (z1 + 1) (.int .i64 w1) fun b2 =>
 iP e0 0 fun c2 d2 =>
∃ e2, cI b2 c2 d2 .i64 e2 ∧
∃ f2, cell? b2 ⟨c2, d2 + 1, none⟩ = some (.int .i64 f2) ∧
 R (.returned (.tuple #[.agg #[.int .i64 e2, .int .i64 f2], .int .i64 x1])) b2)
(fun _ _ => False)) r1)
(fun _ _ => False)) o1)
(fun _ _ => False)) o0))
(pk R)) m0
def F1027_L : Nat → List (Nat × TypeDesc) := fun _ => []
theorem F1027_ok {B : World} {R : Ending → Heap → Prop} (a0 b0 : Int) {h : Heap} (H : F1027 B R a0 b0 h) : Ec B 19 #[.agg #[.int .i64 a0, .int .i64 b0]] R h :=
 Ek Tryz.func19 (by kernel_rfl) (by kernel_rfl) (by kernel_rfl) F1027_L [] (by kernel_rfl) H

/-- plumb/plumblaw8.has -/
def F1028_j44 (B : World) (R : Po) (a0 : Bool) (b0 : Heap) : Prop :=
 R (.returned (.bool a0)) b0
def F1028_j31 (B : World) (R : Po) (c0 : OA) (d0 : Bool) (e0 : Heap) : Prop :=
(d0 = true →
 isP c0 fun f0 g0 =>
∃ i0, cI e0 f0 g0 .i64 i0 ∧
∃ j0, cell? e0 ⟨f0, g0 + 1, none⟩ = some (.int .i64 j0) ∧
 Ec B 45 #[.agg #[.int .i64 i0, .int .i64 j0]] (retE (fun k0 l0 => ∃ m0, k0 = .bool m0 ∧
 F1028_j44 B R m0 l0)
(pk R)) e0) ∧
(d0 = false →
 F1028_j44 B R false e0)
def F1028_j26 (B : World) (R : Po) (n0 : OA) (o0 p0 : Bool) (q0 : Heap) : Prop :=
(p0 = true →
 F1028_j31 B R n0 o0 q0) ∧
(p0 = false →
 F1028_j31 B R n0 false q0)
def F1028 (B : World) (R : Po) (r0 s0 t0 : Int) (u0 : Bool) (v0 : OA) (w0 x0 : Nat) (y0 : Int) (h : Heap) : Prop :=
 alW h (.cells #[.int .i64 r0, .int .i64 s0] 23) fun z0 a1 =>
 alW a1 (.cells #[.bool u0, .slice v0 w0 x0, .int .i64 y0] 26) fun b1 c1 =>
 iP z0 0 fun d1 e1 =>
∃ f1, cI c1 d1 e1 .i64 f1 ∧
∃ g1, cell? c1 ⟨d1, e1 + 1, none⟩ = some (.int .i64 g1) ∧
 iP b1 0 fun i1 j1 =>
∃ k1, cell? c1 ⟨i1, j1, none⟩ = some (.bool k1) ∧
∃ l1 m1 n1, cell? c1 ⟨i1, j1 + 1, none⟩ = some (.slice l1 m1 n1) ∧
∃ o1, cell? c1 ⟨i1, j1 + 1 + 1, none⟩ = some (.int .i64 o1) ∧
 Ec B 44 #[.agg #[.int .i64 f1, .int .i64 g1], .agg #[.bool k1, .slice l1 m1 n1, .int .i64 o1]] (retE (fun p1 q1 => ∃ r1 s1, p1 = .tuple #[.bool r1, .int .i64 s1] ∧
((decide (t0 = (0 : Int))) = true →
 F1028_j26 B R (some ⟨z0, 0, none⟩) r1 (decide (s1 = (0 : Int))) q1) ∧
((decide (t0 = (0 : Int))) = false →
 F1028_j26 B R (some ⟨z0, 0, none⟩) r1 false q1))
(pk R)) c1
def F1028_L : Nat → List (Nat × TypeDesc) := fun _ => []
theorem F1028_ok {B : World} {R : Ending → Heap → Prop} (r0 s0 t0 : Int) (u0 : Bool) (v0 : OA) (w0 x0 : Nat) (y0 : Int) {h : Heap} (H : F1028 B R r0 s0 t0 u0 v0 w0 x0 y0 h) : Ec B 21 #[.agg #[.int .i64 r0, .int .i64 s0], .int .i64 t0, .agg #[.bool u0, .slice v0 w0 x0, .int .i64 y0]] R h :=
 Ek Tryz.func21 (by kernel_rfl) (by kernel_rfl) (by kernel_rfl) F1028_L [] (by kernel_rfl) H
end Go.Proofs
