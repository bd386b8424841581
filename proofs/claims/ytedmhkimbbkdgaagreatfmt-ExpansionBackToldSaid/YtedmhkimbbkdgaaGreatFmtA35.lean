import Derived.Test.YtedmhkimbbkdgaaGreatFmtA03
/- Here stand lemmas: what further functions come to (written by program). -/
set_option linter.unusedVariables false
namespace Go.Proofs
open Go Go.Eng
/-- plumb/plumblaw7.made -/
def F38_j6 (B : World) (R : Po) (a0 : Lp) (b0 : Nat) (c0 : OA) (d0 e0 : Nat) (f0 : Int) (g0 : OA) (i0 j0 : Nat) (k0 l0 : Int) (m0 : Heap) : Prop :=
 Ec B 9 #[.slice g0 i0 j0, .int .i64 l0] (retE (fun n0 o0 => ∃ p0 q0 r0 s0, n0 = .tuple #[.slice p0 q0 r0, .int .i64 s0] ∧
((!decide (s0 = (0 : Int))) = true →
 R (.returned (.tuple #[.slice none 0 0, .bool false])) o0) ∧
((!decide (s0 = (0 : Int))) = false →
 ∃ t0, t0 < b0 ∧ a0 t0 [.slice c0 d0 e0, .int .i64 f0, .slice p0 q0 r0, .int .i64 (IntKind.i64.wrap (k0 + (1 : Int)))] o0))
(pk R)) m0
def F38_j5 (B : World) (R : Po) (a0 : Lp) (b0 : Nat) (u0 : OA) (v0 w0 : Nat) (x0 : Int) (y0 : OA) (z0 a1 : Nat) (b1 : Int) (c1 : Heap) : Prop :=
 ixW u0 v0 b1 1 fun d1 e1 =>
 iP d1 e1 fun f1 g1 => ∃ i1, cI c1 f1 g1 .i64 i1 ∧
 ixW u0 v0 b1 1 fun j1 k1 =>
 iP j1 k1 fun l1 m1 => ∃ n1, cI c1 l1 m1 .i64 n1 ∧
0 ≤ (52 : Int) ∧
0 ≤ (52 : Int) ∧
 F38_j6 B R a0 b0 u0 v0 w0 x0 y0 z0 a1 b1 (bitsI .or .i64 (bitsI .andNot .i64 i1 (9218868437227405312 : Int)) (IntKind.i64.wrap ((IntKind.i64.wrap ((823 : Int) + (bitsI .and .i64 (Int.fdiv n1 (2 ^ min (Int.toNat (52 : Int)) IntKind.i64.bits)) (255 : Int)))) * 2 ^ min (Int.toNat (52 : Int)) IntKind.i64.bits))) c1
def F38 (B : World) (R : Po) (o1 : OA) (p1 q1 : Nat) (r1 : Int) (h : Heap) : Prop :=
 ∃ a0 : Lp, ∃ s1, a0 s1 [.slice o1 p1 q1, .int .i64 r1, .slice none 0 0, .int .i64 (0 : Int)] h ∧
∀ (b0 : Nat) (t1 : Heap) (u1 : OA) (v1 w1 : Nat) (x1 : Int) (y1 : OA) (z1 a2 : Nat) (b2 : Int), a0 b0 [.slice u1 v1 w1, .int .i64 x1, .slice y1 z1 a2, .int .i64 b2] t1 → ∀ _r : Nat → Value,
((decide (b2 < (v1 : Int))) = true →
((decide (b2 < x1)) = true →
 F38_j5 B R a0 b0 u1 v1 w1 x1 y1 z1 a2 b2 t1) ∧
((decide (b2 < x1)) = false →
 R (.returned (.tuple #[.slice y1 z1 a2, .bool true])) t1)) ∧
((decide (b2 < (v1 : Int))) = false →
(false = true →
 F38_j5 B R a0 b0 u1 v1 w1 x1 y1 z1 a2 b2 t1) ∧
(false = false →
 R (.returned (.tuple #[.slice y1 z1 a2, .bool true])) t1))
def F38_L : Nat → List (Nat × TypeDesc) := fun i => match i with
  | 3 => [(0, .slice 0), (1, .int .i64), (6, .slice 0), (7, .int .i64)]
  | _ => []
def F38_J (B : World) (R : Po) : Nat → Option JT := fun i => match i with
  | 5 => some ⟨[(0, .slice 0), (1, .int .i64), (6, .slice 0), (7, .int .i64)], fun s v h => match s, v with
    | [(a0, b0)], [.slice u0 v0 w0, .int _ x0, .slice y0 z0 a1, .int _ b1] => F38_j5 B R a0 b0 u0 v0 w0 x0 y0 z0 a1 b1 h
    | _, _ => False⟩
  | 6 => some ⟨[(0, .slice 0), (1, .int .i64), (6, .slice 0), (7, .int .i64), (8, .int .i64)], fun s v h => match s, v with
    | [(a0, b0)], [.slice c0 d0 e0, .int _ f0, .slice g0 i0 j0, .int _ k0, .int _ l0] => F38_j6 B R a0 b0 c0 d0 e0 f0 g0 i0 j0 k0 l0 h
    | _, _ => False⟩
  | _ => none
theorem F38_ok {B : World} {R : Ending → Heap → Prop} (o1 : OA) (p1 q1 : Nat) (r1 : Int) {h : Heap} (H : F38 B R o1 p1 q1 r1 h) : Ec B 4 #[.slice o1 p1 q1, .int .i64 r1] R h :=
 Ej Tryz.func4 (by kernel_rfl) (by kernel_rfl) (by kernel_rfl) F38_L (F38_J B R) [] (by kernel_rfl) (by kernel_rfl) H

/-- plumb/plumblaw7.value -/
def F39_j29 (B : World) (R : Po) (a0 : OA) (b0 c0 : Bool) (d0 : OA) (e0 f0 : Nat) (g0 : Int) (i0 : Bool) (j0 : Heap) : Prop :=
 isP a0 fun k0 l0 => stC j0 k0 l0 (.bool c0) fun m0 =>
 stC m0 k0 (l0 + 1) (.slice d0 e0 f0) fun n0 =>
 stC n0 k0 (l0 + 1 + 1) (.int .i64 g0) fun o0 =>
 isP a0 fun p0 q0 =>
∃ r0, cell? o0 ⟨p0, q0, none⟩ = some (.bool r0) ∧
∃ s0 t0 u0, cell? o0 ⟨p0, q0 + 1, none⟩ = some (.slice s0 t0 u0) ∧
∃ v0, cell? o0 ⟨p0, q0 + 1 + 1, none⟩ = some (.int .i64 v0) ∧
 R (.returned (.tuple #[.agg #[.bool r0, .slice s0 t0 u0, .int .i64 v0], .bool i0])) o0
def F39 (B : World) (R : Po) (w0 : OA) (x0 y0 : Nat) (h : Heap) : Prop :=
 alW h (.cells #[.bool false, .slice none 0 0, .int .i64 0] 27) fun z0 a1 =>
 Ec B 13 #[.slice w0 x0 y0] (retE (fun b1 c1 => ∃ d1 e1 f1 g1 i1 j1, b1 = .tuple #[.agg #[.bool d1, .slice e1 f1 g1, .int .i64 i1], .int .i64 j1] ∧
 alW c1 (.cells #[.bool false, .slice none 0 0, .int .i64 0] 27) fun k1 l1 =>
 iP k1 0 fun m1 n1 => stC l1 m1 n1 (.bool d1) fun o1 =>
 stC o1 m1 (n1 + 1) (.slice e1 f1 g1) fun p1 =>
 stC p1 m1 (n1 + 1 + 1) (.int .i64 i1) fun q1 =>
 iP k1 0 fun r1 s1 =>
∃ t1, cell? q1 ⟨r1, s1, none⟩ = some (.bool t1) ∧
∃ u1 v1 w1, cell? q1 ⟨r1, s1 + 1, none⟩ = some (.slice u1 v1 w1) ∧
∃ x1, cell? q1 ⟨r1, s1 + 1 + 1, none⟩ = some (.int .i64 x1) ∧
((decide (j1 = (0 : Int))) = true →
 Ec B 12 #[.slice w0 x0 y0] (retE (fun y1 z1 => ∃ a2, y1 = .bool a2 ∧
 sameCells q1 z1 r1 s1 3 ∧ F39_j29 B R (some ⟨z0, 0, none⟩) false t1 u1 v1 w1 x1 a2 z1)
(fun _ _ => False)) q1) ∧
((decide (j1 = (0 : Int))) = false →
 F39_j29 B R (some ⟨z0, 0, none⟩) false t1 u1 v1 w1 x1 false q1))
(pk R)) a1
def F39_L : Nat → List (Nat × TypeDesc) := fun _ => []
theorem F39_ok {B : World} {R : Ending → Heap → Prop} (w0 : OA) (x0 y0 : Nat) {h : Heap} (H : F39 B R w0 x0 y0 h) : Ec B 6 #[.slice w0 x0 y0] R h :=
 Ek Tryz.func6 (by kernel_rfl) (by kernel_rfl) (by kernel_rfl) F39_L [] (by kernel_rfl) H

/-- plumb/plumblaw7.same -/
def F41 (B : World) (R : Po) (a0 : Bool) (b0 : OA) (c0 d0 : Nat) (e0 : Int) (f0 : Bool) (g0 : OA) (i0 j0 : Nat) (k0 : Int) (h : Heap) : Prop :=
 alW h (.cells #[.bool a0, .slice b0 c0 d0, .int .i64 e0] 27) fun l0 m0 =>
 alW m0 (.cells #[.bool f0, .slice g0 i0 j0, .int .i64 k0] 27) fun n0 o0 =>
 iP l0 0 fun p0 q0 =>
∃ r0, cell? o0 ⟨p0, q0, none⟩ = some (.bool r0) ∧
∃ s0 t0 u0, cell? o0 ⟨p0, q0 + 1, none⟩ = some (.slice s0 t0 u0) ∧
∃ v0, cell? o0 ⟨p0, q0 + 1 + 1, none⟩ = some (.int .i64 v0) ∧
 iP n0 0 fun w0 x0 =>
∃ y0, cell? o0 ⟨w0, x0, none⟩ = some (.bool y0) ∧
∃ z0 a1 b1, cell? o0 ⟨w0, x0 + 1, none⟩ = some (.slice z0 a1 b1) ∧
∃ c1, cell? o0 ⟨w0, x0 + 1 + 1, none⟩ = some (.int .i64 c1) ∧
 Ec B 21 #[.agg #[.bool r0, .slice s0 t0 u0, .int .i64 v0], .agg #[.bool y0, .slice z0 a1 b1, .int .i64 c1]] (retE (fun d1 e1 => ∃ f1 g1, d1 = .tuple #[.int .i64 f1, .int .i64 g1] ∧
 R (.returned (.bool (decide (f1 = (0 : Int))))) e1)
(pk R)) o0
def F41_L : Nat → List (Nat × TypeDesc) := fun _ => []
theorem F41_ok {B : World} {R : Ending → Heap → Prop} (a0 : Bool) (b0 : OA) (c0 d0 : Nat) (e0 : Int) (f0 : Bool) (g0 : OA) (i0 j0 : Nat) (k0 : Int) {h : Heap} (H : F41 B R a0 b0 c0 d0 e0 f0 g0 i0 j0 k0 h) : Ec B 8 #[.agg #[.bool a0, .slice b0 c0 d0, .int .i64 e0], .agg #[.bool f0, .slice g0 i0 j0, .int .i64 k0]] R h :=
 Ek Tryz.func8 (by kernel_rfl) (by kernel_rfl) (by kernel_rfl) F41_L [] (by kernel_rfl) H

/-- plumb/dyadic.Sub -/
def F44_j64 (B : World) (R : Po) (a0 b0 c0 : OA) (d0 e0 : Nat) (f0 : OA) (g0 : Heap) : Prop :=
 Ec B 41 #[.slice c0 d0 e0] (retE (fun i0 j0 => ∃ k0 l0, i0 = .agg #[.pointer k0, .int .i64 l0] ∧
 Ec B 40 #[.agg #[.pointer k0, .int .i64 l0]] (retE (fun m0 n0 => ∃ o0 p0 q0 r0 s0, m0 = .agg #[.bool o0, .slice p0 q0 r0, .int .i64 s0] ∧
 isP a0 fun t0 u0 => stC n0 t0 u0 (.bool o0) fun v0 =>
 stC v0 t0 (u0 + 1) (.slice p0 q0 r0) fun w0 =>
 stC w0 t0 (u0 + 1 + 1) (.int .i64 s0) fun x0 =>
 isP b0 fun y0 z0 => stC x0 y0 z0 (.int .i64 (0 : Int)) fun a1 =>
 Enters Tryz.prog 36 ∧ FnD Tryz.prog B 36 #[.pointer f0] .returning (dfE fun b1 c1 => lvW (fun d1 => isP a0 fun e1 f1 =>
∃ g1, cell? d1 ⟨e1, f1, none⟩ = some (.bool g1) ∧
∃ i1 j1 k1, cell? d1 ⟨e1, f1 + 1, none⟩ = some (.slice i1 j1 k1) ∧
∃ l1, cell? d1 ⟨e1, f1 + 1 + 1, none⟩ = some (.int .i64 l1) ∧
 isP b0 fun m1 n1 => ∃ o1, cI d1 m1 n1 .i64 o1 ∧
 R (.returned (.tuple #[.agg #[.bool g1, .slice i1 j1 k1, .int .i64 l1], .int .i64 o1])) d1) (pk R) b1 c1) a1)
(fun p1 q1 => Enters Tryz.prog 36 ∧ FnD Tryz.prog B 36 #[.pointer f0] (.panicking p1) (dfE fun r1 s1 => lvW (fun t1 => isP a0 fun u1 v1 =>
∃ w1, cell? t1 ⟨u1, v1, none⟩ = some (.bool w1) ∧
∃ x1 y1 z1, cell? t1 ⟨u1, v1 + 1, none⟩ = some (.slice x1 y1 z1) ∧
∃ a2, cell? t1 ⟨u1, v1 + 1 + 1, none⟩ = some (.int .i64 a2) ∧
 isP b0 fun b2 c2 => ∃ d2, cI t1 b2 c2 .i64 d2 ∧
 R (.returned (.tuple #[.agg #[.bool w1, .slice x1 y1 z1, .int .i64 a2], .int .i64 d2])) t1) (pk R) r1 s1) q1)) j0)
(fun e2 f2 => Enters Tryz.prog 36 ∧ FnD Tryz.prog B 36 #[.pointer f0] (.panicking e2) (dfE fun g2 i2 => lvW (fun j2 => isP a0 fun k2 l2 =>
∃ m2, cell? j2 ⟨k2, l2, none⟩ = some (.bool m2) ∧
∃ n2 o2 p2, cell? j2 ⟨k2, l2 + 1, none⟩ = some (.slice n2 o2 p2) ∧
∃ q2, cell? j2 ⟨k2, l2 + 1 + 1, none⟩ = some (.int .i64 q2) ∧
 isP b0 fun r2 s2 => ∃ t2, cI j2 r2 s2 .i64 t2 ∧
 R (.returned (.tuple #[.agg #[.bool m2, .slice n2 o2 p2, .int .i64 q2], .int .i64 t2])) j2) (pk R) g2 i2) f2)) g0
def F44 (B : World) (R : Po) (u2 : Bool) (v2 : OA) (w2 x2 : Nat) (y2 : Int) (z2 : Bool) (a3 : OA) (b3 c3 : Nat) (d3 : Int) (h : Heap) : Prop :=
 alW h (.cells #[.bool u2, .slice v2 w2 x2, .int .i64 y2] 27) fun e3 f3 =>
 alW f3 (.cells #[.bool z2, .slice a3 b3 c3, .int .i64 d3] 27) fun g3 i3 =>
 alW i3 (.cells #[.bool false, .slice none 0 0, .int .i64 0] 27) fun j3 k3 =>
 alW k3 (.cells #[.int .i64 0] 30) fun l3 m3 =>
 iP e3 0 fun n3 o3 =>
∃ p3, cell? m3 ⟨n3, o3, none⟩ = some (.bool p3) ∧
∃ q3 r3 s3, cell? m3 ⟨n3, o3 + 1, none⟩ = some (.slice q3 r3 s3) ∧
∃ t3, cell? m3 ⟨n3, o3 + 1 + 1, none⟩ = some (.int .i64 t3) ∧
 iP g3 0 fun u3 v3 =>
∃ w3, cell? m3 ⟨u3, v3, none⟩ = some (.bool w3) ∧
∃ x3 y3 z3, cell? m3 ⟨u3, v3 + 1, none⟩ = some (.slice x3 y3 z3) ∧
∃ a4, cell? m3 ⟨u3, v3 + 1 + 1, none⟩ = some (.int .i64 a4) ∧
 alW m3 (.cells #[.bool p3, .slice q3 r3 s3, .int .i64 t3, .bool w3, .slice x3 y3 z3, .int .i64 a4] 27) fun b4 c4 =>
 Ec B 38 #[.slice (some ⟨b4, 0, none⟩) 2 2] (retE (fun d4 e4 => ∃ f4 g4 i4, d4 = .slice f4 g4 i4 ∧
 ixW f4 g4 (1 : Int) 2 fun j4 k4 =>
 iP j4 k4 fun l4 m4 =>
 iP l4 m4 fun n4 o4 => ∃ p4, cell? e4 ⟨n4, o4, none⟩ = some (.pointer p4) ∧
 ixW f4 g4 (1 : Int) 2 fun q4 r4 =>
 iP q4 r4 fun s4 t4 =>
 iP s4 t4 fun u4 v4 => ∃ w4, cell? e4 ⟨u4, v4, none⟩ = some (.pointer w4) ∧
 Ec B 39 #[.pointer p4, .pointer w4] (retE (fun x4 y4 => ∃ z4, x4 = .pointer z4 ∧
 F44_j64 B R (some ⟨j3, 0, none⟩) (some ⟨l3, 0, none⟩) f4 g4 i4 (some ⟨l3, 0, none⟩) y4)
(fun _ _ => False)) e4)
(fun a5 b5 => Enters Tryz.prog 36 ∧ FnD Tryz.prog B 36 #[.pointer (some ⟨l3, 0, none⟩)] (.panicking a5) (dfE fun c5 d5 => lvW (fun e5 => iP j3 0 fun f5 g5 =>
∃ i5, cell? e5 ⟨f5, g5, none⟩ = some (.bool i5) ∧
∃ j5 k5 l5, cell? e5 ⟨f5, g5 + 1, none⟩ = some (.slice j5 k5 l5) ∧
∃ m5, cell? e5 ⟨f5, g5 + 1 + 1, none⟩ = some (.int .i64 m5) ∧
 iP l3 0 fun n5 o5 => ∃ p5, cI e5 n5 o5 .i64 p5 ∧
 R (.returned (.tuple #[.agg #[.bool i5, .slice j5 k5 l5, .int .i64 m5], .int .i64 p5])) e5) (pk R) c5 d5) b5)) c4
def F44_L : Nat → List (Nat × TypeDesc) := fun _ => []
theorem F44_ok {B : World} {R : Ending → Heap → Prop} (u2 : Bool) (v2 : OA) (w2 x2 : Nat) (y2 : Int) (z2 : Bool) (a3 : OA) (b3 c3 : Nat) (d3 : Int) {h : Heap} (H : F44 B R u2 v2 w2 x2 y2 z2 a3 b3 c3 d3 h) : Ec B 19 #[.agg #[.bool u2, .slice v2 w2 x2, .int .i64 y2], .agg #[.bool z2, .slice a3 b3 c3, .int .i64 d3]] R h :=
 Ed Tryz.func19 (by kernel_rfl) (by kernel_rfl) (by kernel_rfl) F44_L [] (by kernel_rfl) H
end Go.Proofs
namespace Go.Proofs.Wide
open Go Go.Eng
/-- (math/big.nat).mul -/
def F208_j55 (B : World) (R : Po) (a0 : OA) (b0 c0 : Nat) (d0 e0 : OA) (f0 g0 : Nat) (i0 : OA) (j0 k0 : Nat) (l0 m0 : Int) (n0 : Heap) : Prop :=
 Ec B 120 #[.slice a0 b0 c0, .int .i64 (IntKind.i64.wrap (l0 + m0))] (retE (fun o0 p0 => ∃ q0 r0 s0, o0 = .slice q0 r0 s0 ∧
 iP 6 0 fun t0 u0 => ∃ v0, cI p0 t0 u0 .i64 v0 ∧
((decide (m0 < v0)) = true →
 Ec B 165 #[.slice q0 r0 s0, .slice e0 f0 g0, .slice i0 j0 k0] (retE (fun w0 x0 => w0 = .tuple #[] ∧
 Ec B 130 #[.slice q0 r0 s0] (retE (fun y0 z0 => ∃ a1 b1 c1, y0 = .slice a1 b1 c1 ∧
 R (.returned (.slice a1 b1 c1)) z0)
(pk R)) x0)
(pk R)) p0) ∧
((decide (m0 < v0)) = false →
 pEq p0 d0 none fun d1 =>
(d1 = true →
 Ec B 166 #[] (retE (fun e1 f1 => ∃ g1, e1 = .pointer g1 ∧
 False)
(pk R)) p0) ∧
(d1 = false →
 False)))
(pk R)) n0
def F208_j46 (B : World) (R : Po) (i1 : OA) (j1 k1 : Nat) (l1 m1 : OA) (n1 o1 : Nat) (p1 : OA) (q1 r1 : Nat) (s1 t1 : Int) (u1 : Bool) (v1 : Heap) : Prop :=
(u1 = true →
 F208_j55 B R none 0 0 l1 m1 n1 o1 p1 q1 r1 s1 t1 v1) ∧
(u1 = false →
 F208_j55 B R i1 j1 k1 l1 m1 n1 o1 p1 q1 r1 s1 t1 v1)
def F208_j19 (B : World) (R : Po) (w1 : OA) (x1 y1 : Nat) (z1 a2 : OA) (b2 c2 : Nat) (d2 : OA) (e2 f2 : Nat) (g2 i2 : Int) (j2 : Bool) (k2 : Heap) : Prop :=
(j2 = true →
 slW x1 y1 none (some (.int .i64 (0 : Int))) none fun l2 m2 n2 =>
 R (.returned (.slice (slP w1 l2 n2 1) (m2 - l2) (n2 - l2))) k2) ∧
(j2 = false →
((decide (i2 = (1 : Int))) = true →
 ixW d2 e2 (0 : Int) 1 fun o2 p2 =>
 iP o2 p2 fun q2 r2 => ∃ s2, cI k2 q2 r2 .u64 s2 ∧
 Ec B 170 #[.slice w1 x1 y1, .slice a2 b2 c2, .int .u64 s2, .int .u64 (0 : Int)] (retE (fun t2 u2 => ∃ v2 w2 x2, t2 = .slice v2 w2 x2 ∧
 R (.returned (.slice v2 w2 x2)) u2)
(pk R)) k2) ∧
((decide (i2 = (1 : Int))) = false →
 Ec B 133 #[.slice w1 x1 y1, .slice a2 b2 c2] (retE (fun y2 z2 => ∃ a3, y2 = .bool a3 ∧
(a3 = true →
 F208_j46 B R w1 x1 y1 z1 a2 b2 c2 d2 e2 f2 g2 i2 true z2) ∧
(a3 = false →
 Ec B 133 #[.slice w1 x1 y1, .slice d2 e2 f2] (retE (fun b3 c3 => ∃ d3, b3 = .bool d3 ∧
 F208_j46 B R w1 x1 y1 z1 a2 b2 c2 d2 e2 f2 g2 i2 d3 c3)
(pk R)) z2))
(pk R)) k2))
def F208_j10 (B : World) (R : Po) (e3 : OA) (f3 g3 : Nat) (i3 j3 : OA) (k3 l3 : Nat) (m3 : OA) (n3 o3 : Nat) (p3 q3 : Int) (r3 : Bool) (s3 : Heap) : Prop :=
 F208_j19 B R e3 f3 g3 i3 j3 k3 l3 m3 n3 o3 p3 q3 r3 s3
def F208 (B : World) (R : Po) (t3 : OA) (u3 v3 : Nat) (w3 x3 : OA) (y3 z3 : Nat) (a4 : OA) (b4 c4 : Nat) (h : Heap) : Prop :=
((decide ((y3 : Int) < (b4 : Int))) = true →
 Ec B 155 #[.slice t3 u3 v3, .pointer w3, .slice a4 b4 c4, .slice x3 y3 z3] (retE (fun d4 e4 => ∃ f4 g4 i4, d4 = .slice f4 g4 i4 ∧
 R (.returned (.slice f4 g4 i4)) e4)
(pk R)) h) ∧
((decide ((y3 : Int) < (b4 : Int))) = false →
((decide ((y3 : Int) = (0 : Int))) = true →
 F208_j10 B R t3 u3 v3 w3 x3 y3 z3 a4 b4 c4 (y3 : Int) (b4 : Int) true h) ∧
((decide ((y3 : Int) = (0 : Int))) = false →
 F208_j10 B R t3 u3 v3 w3 x3 y3 z3 a4 b4 c4 (y3 : Int) (b4 : Int) (decide ((b4 : Int) = (0 : Int))) h))
def F208_L : Nat → List (Nat × TypeDesc) := fun _ => []
theorem F208_ok {B : World} {R : Ending → Heap → Prop} (t3 : OA) (u3 v3 : Nat) (w3 x3 : OA) (y3 z3 : Nat) (a4 : OA) (b4 c4 : Nat) {h : Heap} (H : F208 B R t3 u3 v3 w3 x3 y3 z3 a4 b4 c4 h) : Ec B 155 #[.slice t3 u3 v3, .pointer w3, .slice x3 y3 z3, .slice a4 b4 c4] R h :=
 Ek Tryz.func155 (by kernel_rfl) (by kernel_rfl) (by kernel_rfl) F208_L [17, 18, 19, 20, 21, 22, 23, 24, 25, 26, 27, 28] (by kernel_rfl) H
end Go.Proofs.Wide
