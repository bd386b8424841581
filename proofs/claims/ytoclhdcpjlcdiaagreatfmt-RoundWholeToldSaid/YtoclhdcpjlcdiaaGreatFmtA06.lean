import Derived.Test.YtoclhdcpjlcdiaaGreatFmtA03
/- Here stand lemmas: what the functions of this file come to, second part (written by program). -/
set_option linter.unusedVariables false
namespace Go.Proofs
open Go Go.Eng
/-- plumb/dyadic.Of -/
def F21 (B : World) (R : Po) (a0 : Int) (h : Heap) : Prop :=
 alW h (.cells #[.bool false, .slice none 0 0, .int .i64 0] 43) fun b0 c0 =>
 alW c0 (.cells #[.int .i64 0] 22) fun d0 e0 =>
 Ec B 99 #[.int .i64 a0] (retE (fun f0 g0 => ∃ i0 j0 k0 l0, f0 = .tuple #[.bool i0, .int .i64 j0, .int .i64 k0, .bool l0] ∧
 Ec B 100 #[.bool i0, .int .i64 j0, .int .i64 k0, .bool l0] (retE (fun m0 n0 => ∃ o0 p0 q0 r0 s0, m0 = .agg #[.bool o0, .slice p0 q0 r0, .int .i64 s0] ∧
 iP b0 0 fun t0 u0 => stC n0 t0 u0 (.bool o0) fun v0 =>
 stC v0 t0 (u0 + 1) (.slice p0 q0 r0) fun w0 =>
 stC w0 t0 (u0 + 1 + 1) (.int .i64 s0) fun x0 =>
 iP d0 0 fun y0 z0 => stC x0 y0 z0 (.int .i64 (0 : Int)) fun a1 =>
 Enters Tryz.prog 98 ∧ FnD Tryz.prog B 98 #[.pointer (some ⟨d0, 0, none⟩)] .returning (dfE fun b1 c1 => lvW (fun d1 => iP b0 0 fun e1 f1 =>
∃ g1, cell? d1 ⟨e1, f1, none⟩ = some (.bool g1) ∧
∃ i1 j1 k1, cell? d1 ⟨e1, f1 + 1, none⟩ = some (.slice i1 j1 k1) ∧
∃ l1, cell? d1 ⟨e1, f1 + 1 + 1, none⟩ = some (.int .i64 l1) ∧
 iP d0 0 fun m1 n1 => ∃ o1, cI d1 m1 n1 .i64 o1 ∧
 R (.returned (.tuple #[.agg #[.bool g1, .slice i1 j1 k1, .int .i64 l1], .int .i64 o1])) d1) (pk R) b1 c1) a1)
(fun p1 q1 => Enters Tryz.prog 98 ∧ FnD Tryz.prog B 98 #[.pointer (some ⟨d0, 0, none⟩)] (.panicking p1) (dfE fun r1 s1 => lvW (fun t1 => iP b0 0 fun u1 v1 =>
∃ w1, cell? t1 ⟨u1, v1, none⟩ = some (.bool w1) ∧
∃ x1 y1 z1, cell? t1 ⟨u1, v1 + 1, none⟩ = some (.slice x1 y1 z1) ∧
∃ a2, cell? t1 ⟨u1, v1 + 1 + 1, none⟩ = some (.int .i64 a2) ∧
 iP d0 0 fun b2 c2 => ∃ d2, cI t1 b2 c2 .i64 d2 ∧
 R (.returned (.tuple #[.agg #[.bool w1, .slice x1 y1 z1, .int .i64 a2], .int .i64 d2])) t1) (pk R) r1 s1) q1)) g0)
(fun e2 f2 => Enters Tryz.prog 98 ∧ FnD Tryz.prog B 98 #[.pointer (some ⟨d0, 0, none⟩)] (.panicking e2) (dfE fun g2 i2 => lvW (fun j2 => iP b0 0 fun k2 l2 =>
∃ m2, cell? j2 ⟨k2, l2, none⟩ = some (.bool m2) ∧
∃ n2 o2 p2, cell? j2 ⟨k2, l2 + 1, none⟩ = some (.slice n2 o2 p2) ∧
∃ q2, cell? j2 ⟨k2, l2 + 1 + 1, none⟩ = some (.int .i64 q2) ∧
 iP d0 0 fun r2 s2 => ∃ t2, cI j2 r2 s2 .i64 t2 ∧
 R (.returned (.tuple #[.agg #[.bool m2, .slice n2 o2 p2, .int .i64 q2], .int .i64 t2])) j2) (pk R) g2 i2) f2)) e0
def F21_L : Nat → List (Nat × TypeDesc) := fun _ => []
theorem F21_ok {B : World} {R : Ending → Heap → Prop} (a0 : Int) {h : Heap} (H : F21 B R a0 h) : Ec B 68 #[.int .i64 a0] R h :=
 Ed Tryz.func68 (by kernel_rfl) (by kernel_rfl) (by kernel_rfl) F21_L [] (by kernel_rfl) H

/-- plumb/bits.Parts -/
def F63 (B : World) (R : Po) (a0 : Int) (h : Heap) : Prop :=
  0 ≤ (52 : Int) ∧
((decide ((bitsI .and .i64 (Int.fdiv a0 (2 ^ min (Int.toNat (52 : Int)) IntKind.i64.bits)) (2047 : Int)) = (2047 : Int))) = true →
 R (.returned (.tuple #[.bool false, .int .i64 (0 : Int), .int .i64 (0 : Int), .bool false])) h) ∧
((decide ((bitsI .and .i64 (Int.fdiv a0 (2 ^ min (Int.toNat (52 : Int)) IntKind.i64.bits)) (2047 : Int)) = (2047 : Int))) = false →
((decide ((bitsI .and .i64 (Int.fdiv a0 (2 ^ min (Int.toNat (52 : Int)) IntKind.i64.bits)) (2047 : Int)) = (0 : Int))) = true →
 R (.returned (.tuple #[.bool (decide (a0 < (0 : Int))), .int .i64 (bitsI .and .i64 a0 (4503599627370495 : Int)), .int .i64 (-1074 : Int), .bool true])) h) ∧
((decide ((bitsI .and .i64 (Int.fdiv a0 (2 ^ min (Int.toNat (52 : Int)) IntKind.i64.bits)) (2047 : Int)) = (0 : Int))) = false →
 R (.returned (.tuple #[.bool (decide (a0 < (0 : Int))), .int .i64 (bitsI .or .i64 (bitsI .and .i64 a0 (4503599627370495 : Int)) (4503599627370496 : Int)), .int .i64 (IntKind.i64.wrap ((bitsI .and .i64 (Int.fdiv a0 (2 ^ min (Int.toNat (52 : Int)) IntKind.i64.bits)) (2047 : Int)) - (1075 : Int))), .bool true])) h))
def F63_L : Nat → List (Nat × TypeDesc) := fun _ => []
theorem F63_ok {B : World} {R : Ending → Heap → Prop} (a0 : Int) {h : Heap} (H : F63 B R a0 h) : Ec B 99 #[.int .i64 a0] R h :=
 Ek Tryz.func99 (by kernel_rfl) (by kernel_rfl) (by kernel_rfl) F63_L [] (by kernel_rfl) H

/-- plumb/dyadic.of -/
def F64_j7 (B : World) (R : Po) (a0 b0 : Int) (c0 : OA) (d0 : Heap) : Prop :=
 Ec B 12 #[.int .i64 a0] (retE (fun e0 f0 => ∃ g0, e0 = .pointer g0 ∧
 Ec B 131 #[.agg #[.pointer g0, .int .i64 b0]] (retE (fun i0 j0 => ∃ k0 l0 m0 n0 o0, i0 = .agg #[.bool k0, .slice l0 m0 n0, .int .i64 o0] ∧
 isP c0 fun p0 q0 => stC j0 p0 q0 (.bool k0) fun r0 =>
 stC r0 p0 (q0 + 1) (.slice l0 m0 n0) fun s0 =>
 stC s0 p0 (q0 + 1 + 1) (.int .i64 o0) fun t0 =>
 isP c0 fun u0 v0 =>
∃ w0, cell? t0 ⟨u0, v0, none⟩ = some (.bool w0) ∧
∃ x0 y0 z0, cell? t0 ⟨u0, v0 + 1, none⟩ = some (.slice x0 y0 z0) ∧
∃ a1, cell? t0 ⟨u0, v0 + 1 + 1, none⟩ = some (.int .i64 a1) ∧
 R (.returned (.agg #[.bool w0, .slice x0 y0 z0, .int .i64 a1])) t0)
(pk R)) f0)
(pk R)) d0
def F64 (B : World) (R : Po) (b1 : Bool) (c1 d1 : Int) (e1 : Bool) (h : Heap) : Prop :=
 alW h (.cells #[.bool false, .slice none 0 0, .int .i64 0] 43) fun f1 g1 =>
((!e1) = true →
 R (.panicked [{ v := .iface 150 (.agg #[.int .i64 (10 : Int)]), recovered := false }]) g1) ∧
((!e1) = false →
(b1 = true →
 F64_j7 B R (IntKind.i64.wrap (0 - c1)) d1 (some ⟨f1, 0, none⟩) g1) ∧
(b1 = false →
 F64_j7 B R c1 d1 (some ⟨f1, 0, none⟩) g1))
def F64_L : Nat → List (Nat × TypeDesc) := fun _ => []
theorem F64_ok {B : World} {R : Ending → Heap → Prop} (b1 : Bool) (c1 d1 : Int) (e1 : Bool) {h : Heap} (H : F64 B R b1 c1 d1 e1 h) : Ec B 100 #[.bool b1, .int .i64 c1, .int .i64 d1, .bool e1] R h :=
 Ek Tryz.func100 (by kernel_rfl) (by kernel_rfl) (by kernel_rfl) F64_L [] (by kernel_rfl) H

/-- plumb/dyadic.told -/
def F65_j66 (B : World) (R : Po) (a0 b0 c0 : OA) (d0 : Int) (e0 : Bool) (f0 : Heap) : Prop :=
(e0 = true →
 R (.panicked [{ v := .iface 150 (.agg #[.int .i64 (2 : Int)]), recovered := false }]) f0) ∧
(e0 = false →
 Ec B 64 #[.pointer c0] (retE (fun g0 i0 => ∃ j0, g0 = .int .i64 j0 ∧
(30 : Int) ≠ 0 ∧
0 ≤ (0 : Int) ∧ (0 : Int) ≤ (IntKind.i64.wrap ((IntKind.i64.wrap (Int.tdiv j0 (30 : Int))) + (1 : Int))) ∧ 8 * (IntKind.i64.wrap ((IntKind.i64.wrap (Int.tdiv j0 (30 : Int))) + (1 : Int))) ≤ 281474976710656 ∧ (IntKind.i64.wrap ((IntKind.i64.wrap (Int.tdiv j0 (30 : Int))) + (1 : Int))) < 9223372036854775808 ∧
 alW i0 (.cells (mkCells #[.int .i64 0] (Int.toNat (IntKind.i64.wrap ((IntKind.i64.wrap (Int.tdiv j0 (30 : Int))) + (1 : Int))) * 1)) 3) fun k0 l0 =>
 Ec B 12 #[.int .i64 (1073741823 : Int)] (retE (fun m0 n0 => ∃ o0, m0 = .pointer o0 ∧
∃ p0 : Lp, ∃ q0, p0 q0 [.pointer a0, .pointer b0, .pointer c0, .int .i64 d0, .slice (some ⟨k0, 0, none⟩) (Int.toNat (0 : Int)) (Int.toNat (IntKind.i64.wrap ((IntKind.i64.wrap (Int.tdiv j0 (30 : Int))) + (1 : Int)))), .pointer o0] n0 ∧
∀ (r0 : Nat) (s0 : Heap) (t0 u0 v0 : OA) (w0 : Int) (x0 : OA) (y0 z0 : Nat) (a1 : OA), p0 r0 [.pointer t0, .pointer u0, .pointer v0, .int .i64 w0, .slice x0 y0 z0, .pointer a1] s0 → ∀ _r : Nat → Value,
 Ec B 23 #[.pointer v0] (retE (fun b1 c1 => ∃ d1, b1 = .int .i64 d1 ∧
((decide ((0 : Int) < d1)) = true →
 alW c1 (.cells #[.bool false, .slice none 0 0] 62) fun e1 f1 =>
 Ec B 154 #[.pointer (some ⟨e1, 0, none⟩), .pointer v0, .pointer a1] (retE (fun g1 i1 => ∃ j1, g1 = .pointer j1 ∧
 Ec B 155 #[.pointer j1] (retE (fun k1 l1 => ∃ m1, k1 = .int .i64 m1 ∧
 alW l1 (.cells #[.int .i64 m1] 3) fun n1 o1 =>
 apW o1 x0 y0 z0 (some ⟨n1, 0, none⟩) 1 1 8 3 #[.int .i64 0] fun p1 q1 r1 s1 =>
 Ec B 153 #[.pointer v0, .pointer v0, .int .u64 (30 : Int)] (retE (fun t1 u1 => ∃ v1, t1 = .pointer v1 ∧
∃ w1, w1 < r0 ∧ p0 w1 [.pointer t0, .pointer u0, .pointer v0, .int .i64 w0, .slice p1 q1 r1, .pointer a1] u1)
(pk R)) s1)
(pk R)) i1)
(pk R)) f1) ∧
((decide ((0 : Int) < d1)) = false →
 isP t0 fun x1 y1 =>
 iP x1 y1 fun z1 a2 => ∃ b2, cell? c1 ⟨z1, a2, none⟩ = some (.pointer b2) ∧
 Ec B 23 #[.pointer b2] (retE (fun c2 d2 => ∃ e2, c2 = .int .i64 e2 ∧
 isP u0 fun f2 g2 => stC d2 f2 g2 (.bool (decide (e2 < (0 : Int)))) fun i2 =>
 stC i2 f2 (g2 + 1) (.slice x0 y0 z0) fun j2 =>
 stC j2 f2 (g2 + 1 + 1) (.int .i64 w0) fun k2 =>
 isP u0 fun l2 m2 =>
∃ n2, cell? k2 ⟨l2, m2, none⟩ = some (.bool n2) ∧
∃ o2 p2 q2, cell? k2 ⟨l2, m2 + 1, none⟩ = some (.slice o2 p2 q2) ∧
∃ r2, cell? k2 ⟨l2, m2 + 1 + 1, none⟩ = some (.int .i64 r2) ∧
 R (.returned (.agg #[.bool n2, .slice o2 p2 q2, .int .i64 r2])) k2)
(pk R)) c1))
(pk R)) s0)
(pk R)) l0)
(pk R)) f0)
def F65 (B : World) (R : Po) (s2 : OA) (t2 : Int) (h : Heap) : Prop :=
 alW h (.cells #[.pointer s2, .int .i64 t2] 154) fun u2 v2 =>
 alW v2 (.cells #[.bool false, .slice none 0 0, .int .i64 0] 43) fun w2 x2 =>
 iP u2 0 fun y2 z2 =>
 iP y2 z2 fun a3 b3 => ∃ c3, cell? x2 ⟨a3, b3, none⟩ = some (.pointer c3) ∧
 Ec B 23 #[.pointer c3] (retE (fun d3 e3 => ∃ f3, d3 = .int .i64 f3 ∧
((decide (f3 = (0 : Int))) = true →
 iP w2 0 fun g3 i3 => stC e3 g3 i3 (.bool false) fun j3 =>
 stC j3 g3 (i3 + 1) (.slice none 0 0) fun k3 =>
 stC k3 g3 (i3 + 1 + 1) (.int .i64 0) fun l3 =>
 iP w2 0 fun m3 n3 =>
∃ o3, cell? l3 ⟨m3, n3, none⟩ = some (.bool o3) ∧
∃ p3 q3 r3, cell? l3 ⟨m3, n3 + 1, none⟩ = some (.slice p3 q3 r3) ∧
∃ s3, cell? l3 ⟨m3, n3 + 1 + 1, none⟩ = some (.int .i64 s3) ∧
 R (.returned (.agg #[.bool o3, .slice p3 q3 r3, .int .i64 s3])) l3) ∧
((decide (f3 = (0 : Int))) = false →
 iP u2 0 fun t3 u3 =>
 iP t3 u3 fun v3 w3 => ∃ x3, cell? e3 ⟨v3, w3, none⟩ = some (.pointer x3) ∧
 Ec B 152 #[.pointer x3] (retE (fun y3 z3 => ∃ a4, y3 = .int .u64 a4 ∧
 alW z3 (.cells #[.bool false, .slice none 0 0] 62) fun b4 c4 =>
 alW c4 (.cells #[.bool false, .slice none 0 0] 62) fun d4 e4 =>
 iP u2 0 fun f4 g4 =>
 iP f4 g4 fun i4 j4 => ∃ k4, cell? e4 ⟨i4, j4, none⟩ = some (.pointer k4) ∧
 Ec B 79 #[.pointer (some ⟨d4, 0, none⟩), .pointer k4] (retE (fun l4 m4 => ∃ n4, l4 = .pointer n4 ∧
 Ec B 153 #[.pointer (some ⟨b4, 0, none⟩), .pointer n4, .int .u64 (IntKind.u64.wrap (IntKind.i64.wrap a4))] (retE (fun o4 p4 => ∃ q4, o4 = .pointer q4 ∧
 iP u2 0 fun r4 s4 =>
 isP (some ⟨r4, s4 + 1, none⟩) fun t4 u4 => ∃ v4, cI p4 t4 u4 .i64 v4 ∧
 Ec B 64 #[.pointer q4] (retE (fun w4 x4 => ∃ y4, w4 = .int .i64 y4 ∧
((decide ((60000 : Int) < y4)) = true →
(true = true →
 F65_j66 B R (some ⟨u2, 0, none⟩) (some ⟨w2, 0, none⟩) q4 (IntKind.i64.wrap (v4 + (IntKind.i64.wrap a4))) true x4) ∧
(true = false →
 F65_j66 B R (some ⟨u2, 0, none⟩) (some ⟨w2, 0, none⟩) q4 (IntKind.i64.wrap (v4 + (IntKind.i64.wrap a4))) (decide ((1048576 : Int) < (IntKind.i64.wrap (v4 + (IntKind.i64.wrap a4))))) x4)) ∧
((decide ((60000 : Int) < y4)) = false →
((decide ((IntKind.i64.wrap (v4 + (IntKind.i64.wrap a4))) < (-1048576 : Int))) = true →
 F65_j66 B R (some ⟨u2, 0, none⟩) (some ⟨w2, 0, none⟩) q4 (IntKind.i64.wrap (v4 + (IntKind.i64.wrap a4))) true x4) ∧
((decide ((IntKind.i64.wrap (v4 + (IntKind.i64.wrap a4))) < (-1048576 : Int))) = false →
 F65_j66 B R (some ⟨u2, 0, none⟩) (some ⟨w2, 0, none⟩) q4 (IntKind.i64.wrap (v4 + (IntKind.i64.wrap a4))) (decide ((1048576 : Int) < (IntKind.i64.wrap (v4 + (IntKind.i64.wrap a4))))) x4)))
(pk R)) p4)
(pk R)) m4)
(pk R)) e4)
(pk R)) e3))
(pk R)) x2
def F65_L : Nat → List (Nat × TypeDesc) := fun i => match i with
  | 10 => [(1, .pointer 0), (2, .pointer 0), (4, .pointer 0), (5, .int .i64), (6, .slice 0), (7, .pointer 0)]
  | _ => []
theorem F65_ok {B : World} {R : Ending → Heap → Prop} (s2 : OA) (t2 : Int) {h : Heap} (H : F65 B R s2 t2 h) : Ec B 131 #[.agg #[.pointer s2, .int .i64 t2]] R h :=
 Ek Tryz.func131 (by kernel_rfl) (by kernel_rfl) (by kernel_rfl) F65_L [] (by kernel_rfl) H

/-- plumb/dyadic.Valid -/
def F129_j21 (B : World) (R : Po) (a0 : Bool) (b0 : Heap) : Prop :=
 R (.returned (.bool a0)) b0
def F129_j54 (B : World) (R : Po) (c0 : Bool) (d0 : Heap) : Prop :=
 R (.returned (.bool c0)) d0
def F129 (B : World) (R : Po) (e0 : Bool) (f0 : OA) (g0 i0 : Nat) (j0 : Int) (h : Heap) : Prop :=
 alW h (.cells #[.bool e0, .slice f0 g0 i0, .int .i64 j0] 43) fun k0 l0 =>
 iP k0 0 fun m0 n0 =>
 isP (some ⟨m0, n0 + 1, none⟩) fun o0 p0 => ∃ q0 r0 s0, cS l0 o0 p0 q0 r0 s0 ∧
((decide ((r0 : Int) = (0 : Int))) = true →
 iP k0 0 fun t0 u0 =>
 iP t0 u0 fun v0 w0 => ∃ x0, cell? l0 ⟨v0, w0, none⟩ = some (.bool x0) ∧
((!x0) = true →
 iP k0 0 fun y0 z0 =>
 isP (some ⟨y0, z0 + 2, none⟩) fun a1 b1 => ∃ c1, cI l0 a1 b1 .i64 c1 ∧
 F129_j21 B R (decide (c1 = (0 : Int))) l0) ∧
((!x0) = false →
 F129_j21 B R false l0)) ∧
((decide ((r0 : Int) = (0 : Int))) = false →
 iP k0 0 fun d1 e1 =>
 isP (some ⟨d1, e1 + 1, none⟩) fun f1 g1 => ∃ i1 j1 k1, cS l0 f1 g1 i1 j1 k1 ∧
 Ec B 91 #[.slice i1 j1 k1] (retE (fun l1 m1 => ∃ n1, l1 = .bool n1 ∧
(n1 = true →
 iP k0 0 fun o1 p1 =>
 isP (some ⟨o1, p1 + 1, none⟩) fun q1 r1 => ∃ s1 t1 u1, cS m1 q1 r1 s1 t1 u1 ∧
 ixW s1 t1 (0 : Int) 1 fun v1 w1 =>
 iP v1 w1 fun x1 y1 => ∃ z1, cI m1 x1 y1 .i64 z1 ∧
((decide ((bitsI .and .i64 z1 (1 : Int)) = (1 : Int))) = true →
 iP k0 0 fun a2 b2 =>
 isP (some ⟨a2, b2 + 2, none⟩) fun c2 d2 => ∃ e2, cI m1 c2 d2 .i64 e2 ∧
((decide ((-1048576 : Int) ≤ e2)) = true →
 iP k0 0 fun f2 g2 =>
 isP (some ⟨f2, g2 + 2, none⟩) fun i2 j2 => ∃ k2, cI m1 i2 j2 .i64 k2 ∧
 F129_j54 B R (decide (k2 ≤ (1048576 : Int))) m1) ∧
((decide ((-1048576 : Int) ≤ e2)) = false →
 F129_j54 B R false m1)) ∧
((decide ((bitsI .and .i64 z1 (1 : Int)) = (1 : Int))) = false →
(false = true →
 iP k0 0 fun l2 m2 =>
 isP (some ⟨l2, m2 + 2, none⟩) fun n2 o2 => ∃ p2, cI m1 n2 o2 .i64 p2 ∧
 F129_j54 B R (decide (p2 ≤ (1048576 : Int))) m1) ∧
(false = false →
 F129_j54 B R false m1))) ∧
(n1 = false →
(false = true →
 iP k0 0 fun q2 r2 =>
 isP (some ⟨q2, r2 + 2, none⟩) fun s2 t2 => ∃ u2, cI m1 s2 t2 .i64 u2 ∧
((decide ((-1048576 : Int) ≤ u2)) = true →
 iP k0 0 fun v2 w2 =>
 isP (some ⟨v2, w2 + 2, none⟩) fun x2 y2 => ∃ z2, cI m1 x2 y2 .i64 z2 ∧
 F129_j54 B R (decide (z2 ≤ (1048576 : Int))) m1) ∧
((decide ((-1048576 : Int) ≤ u2)) = false →
 F129_j54 B R false m1)) ∧
(false = false →
(false = true →
 iP k0 0 fun a3 b3 =>
 isP (some ⟨a3, b3 + 2, none⟩) fun c3 d3 => ∃ e3, cI m1 c3 d3 .i64 e3 ∧
 F129_j54 B R (decide (e3 ≤ (1048576 : Int))) m1) ∧
(false = false →
 F129_j54 B R false m1))))
(pk R)) l0)
def F129_L : Nat → List (Nat × TypeDesc) := fun _ => []
theorem F129_ok {B : World} {R : Ending → Heap → Prop} (e0 : Bool) (f0 : OA) (g0 i0 : Nat) (j0 : Int) {h : Heap} (H : F129 B R e0 f0 g0 i0 j0 h) : Ec B 62 #[.agg #[.bool e0, .slice f0 g0 i0, .int .i64 j0]] R h :=
 Ek Tryz.func62 (by kernel_rfl) (by kernel_rfl) (by kernel_rfl) F129_L [] (by kernel_rfl) H

/-- plumb/nat.Valid -/
def F174_j15 (B : World) (R : Po) (a0 : Lp) (b0 : Nat) (c0 : OA) (d0 e0 : Nat) (f0 : OA) (g0 i0 : Nat) (j0 k0 : Int) (l0 : Bool) (m0 : Heap) : Prop :=
(l0 = true →
 R (.returned (.bool false)) m0) ∧
(l0 = false →
 ∃ n0, n0 < b0 ∧ a0 n0 [.slice c0 d0 e0, .slice f0 g0 i0, .int .i64 j0, .int .i64 (IntKind.i64.wrap (k0 + (1 : Int)))] m0)
def F174_j23 (B : World) (R : Po) (a0 : Lp) (b0 : Nat) (o0 : Bool) (p0 : Heap) : Prop :=
 R (.returned (.bool o0)) p0
def F174 (B : World) (R : Po) (q0 : OA) (r0 s0 : Nat) (h : Heap) : Prop :=
 ∃ a0 : Lp, ∃ t0, a0 t0 [.slice q0 r0 s0, .slice q0 r0 s0, .int .i64 (r0 : Int), .int .i64 (0 : Int)] h ∧
∀ (b0 : Nat) (u0 : Heap) (v0 : OA) (w0 x0 : Nat) (y0 : OA) (z0 a1 : Nat) (b1 c1 : Int), a0 b0 [.slice v0 w0 x0, .slice y0 z0 a1, .int .i64 b1, .int .i64 c1] u0 → ∀ _r : Nat → Value,
((decide (c1 < b1)) = true →
 ixW y0 z0 c1 1 fun d1 e1 =>
 iP d1 e1 fun f1 g1 => ∃ i1, cI u0 f1 g1 .i64 i1 ∧
((decide (i1 < (0 : Int))) = true →
 F174_j15 B R a0 b0 v0 w0 x0 y0 z0 a1 b1 c1 true u0) ∧
((decide (i1 < (0 : Int))) = false →
 F174_j15 B R a0 b0 v0 w0 x0 y0 z0 a1 b1 c1 (decide ((1073741824 : Int) ≤ i1)) u0)) ∧
((decide (c1 < b1)) = false →
((decide ((w0 : Int) ≤ (2000 : Int))) = true →
((decide ((w0 : Int) = (0 : Int))) = true →
 F174_j23 B R a0 b0 true u0) ∧
((decide ((w0 : Int) = (0 : Int))) = false →
 ixW v0 w0 (IntKind.i64.wrap ((w0 : Int) - (1 : Int))) 1 fun j1 k1 =>
 iP j1 k1 fun l1 m1 => ∃ n1, cI u0 l1 m1 .i64 n1 ∧
 F174_j23 B R a0 b0 (!decide (n1 = (0 : Int))) u0)) ∧
((decide ((w0 : Int) ≤ (2000 : Int))) = false →
 F174_j23 B R a0 b0 false u0))
def F174_L : Nat → List (Nat × TypeDesc) := fun i => match i with
  | 2 => [(0, .slice 0), (5, .slice 0), (6, .int .i64), (7, .int .i64)]
  | _ => []
theorem F174_ok {B : World} {R : Ending → Heap → Prop} (q0 : OA) (r0 s0 : Nat) {h : Heap} (H : F174 B R q0 r0 s0 h) : Ec B 91 #[.slice q0 r0 s0] R h :=
 Ek Tryz.func91 (by kernel_rfl) (by kernel_rfl) (by kernel_rfl) F174_L [] (by kernel_rfl) H

/-- plumb/bits.Class -/
def F17 (B : World) (R : Po) (a0 : Int) (h : Heap) : Prop :=
  0 ≤ (52 : Int) ∧
 Ec B 20 #[.int .i64 (bitsI .and .i64 (Int.fdiv a0 (2 ^ min (Int.toNat (52 : Int)) IntKind.i64.bits)) (2047 : Int)), .int .i64 (bitsI .and .i64 a0 (4503599627370495 : Int)), .int .i64 (2047 : Int)] (retE (fun b0 c0 => ∃ d0, b0 = .int .i64 d0 ∧
 R (.returned (.int .i64 d0)) c0)
(pk R)) h
def F17_L : Nat → List (Nat × TypeDesc) := fun _ => []
theorem F17_ok {B : World} {R : Ending → Heap → Prop} (a0 : Int) {h : Heap} (H : F17 B R a0 h) : Ec B 7 #[.int .i64 a0] R h :=
 Ek Tryz.func7 (by kernel_rfl) (by kernel_rfl) (by kernel_rfl) F17_L [] (by kernel_rfl) H

/-- plumb/bits.classed -/
def F53_j11 (B : World) (R : Po) (a0 : Int) (b0 : Heap) : Prop :=
 R (.returned (.int .i64 a0)) b0
def F53_j14 (B : World) (R : Po) (c0 : Int) (d0 : Heap) : Prop :=
 F53_j11 B R c0 d0
def F53_j22 (B : World) (R : Po) (e0 : Int) (f0 : Heap) : Prop :=
 F53_j14 B R e0 f0
def F53_j25 (B : World) (R : Po) (g0 : Int) (i0 : Heap) : Prop :=
 F53_j22 B R g0 i0
def F53_j17 (B : World) (R : Po) (j0 k0 : Int) (l0 : Bool) (m0 : Heap) : Prop :=
(l0 = true →
 F53_j22 B R (0 : Int) m0) ∧
(l0 = false →
((decide (j0 = (0 : Int))) = true →
 F53_j25 B R (1 : Int) m0) ∧
((decide (j0 = (0 : Int))) = false →
 F53_j25 B R k0 m0))
def F53_j4 (B : World) (R : Po) (n0 o0 p0 q0 : Int) (r0 : Bool) (s0 : Heap) : Prop :=
(r0 = true →
 F53_j11 B R (4 : Int) s0) ∧
(r0 = false →
((decide (n0 = p0)) = true →
 F53_j14 B R (3 : Int) s0) ∧
((decide (n0 = p0)) = false →
((decide (n0 = (0 : Int))) = true →
 F53_j17 B R n0 q0 (decide (o0 = (0 : Int))) s0) ∧
((decide (n0 = (0 : Int))) = false →
 F53_j17 B R n0 q0 false s0)))
def F53 (B : World) (R : Po) (t0 u0 v0 : Int) (h : Heap) : Prop :=
((decide (t0 = v0)) = true →
 F53_j4 B R t0 u0 v0 (2 : Int) (!decide (u0 = (0 : Int))) h) ∧
((decide (t0 = v0)) = false →
 F53_j4 B R t0 u0 v0 (2 : Int) false h)
def F53_L : Nat → List (Nat × TypeDesc) := fun _ => []
theorem F53_ok {B : World} {R : Ending → Heap → Prop} (t0 u0 v0 : Int) {h : Heap} (H : F53 B R t0 u0 v0 h) : Ec B 20 #[.int .i64 t0, .int .i64 u0, .int .i64 v0] R h :=
 Ek Tryz.func20 (by kernel_rfl) (by kernel_rfl) (by kernel_rfl) F53_L [] (by kernel_rfl) H

/-- plumb/bits.Float -/
def F54 (B : World) (R : Po) (a0 : Int) (h : Heap) : Prop :=
 Ec B 21 #[.int .u64 (IntKind.u64.wrap a0)] (retE (fun b0 c0 => ∃ d0, b0 = .float .f64 d0 ∧
 R (.returned (.float .f64 d0)) c0)
(pk R)) h
def F54_L : Nat → List (Nat × TypeDesc) := fun _ => []
theorem F54_ok {B : World} {R : Ending → Heap → Prop} (a0 : Int) {h : Heap} (H : F54 B R a0 h) : Ec B 8 #[.int .i64 a0] R h :=
 Ek Tryz.func8 (by kernel_rfl) (by kernel_rfl) (by kernel_rfl) F54_L [] (by kernel_rfl) H

/-- plumb/bits.Of -/
def F56 (B : World) (R : Po) (a0 : Nat) (h : Heap) : Prop :=
((FloatKind.f64.format.order a0 a0 != some .eq) = true →
 R (.returned (.int .i64 (9221120237041090561 : Int))) h) ∧
((FloatKind.f64.format.order a0 a0 != some .eq) = false →
 Ec B 25 #[.float .f64 a0] (retE (fun b0 c0 => ∃ d0, b0 = .int .u64 d0 ∧
 R (.returned (.int .i64 (IntKind.i64.wrap d0))) c0)
(pk R)) h)
def F56_L : Nat → List (Nat × TypeDesc) := fun _ => []
theorem F56_ok {B : World} {R : Ending → Heap → Prop} (a0 : Nat) {h : Heap} (H : F56 B R a0 h) : Ec B 10 #[.float .f64 a0] R h :=
 Ek Tryz.func10 (by kernel_rfl) (by kernel_rfl) (by kernel_rfl) F56_L [] (by kernel_rfl) H

/-- plumb/bits.Neg -/
def F99 (B : World) (R : Po) (a0 : Int) (h : Heap) : Prop :=
 Ec B 7 #[.int .i64 a0] (retE (fun b0 c0 => ∃ d0, b0 = .int .i64 d0 ∧
((decide (d0 = (4 : Int))) = true →
 R (.returned (.int .i64 (9221120237041090561 : Int))) c0) ∧
((decide (d0 = (4 : Int))) = false →
 R (.returned (.int .i64 (bitsI .xor .i64 a0 (-9223372036854775808 : Int)))) c0))
(pk R)) h
def F99_L : Nat → List (Nat × TypeDesc) := fun _ => []
theorem F99_ok {B : World} {R : Ending → Heap → Prop} (a0 : Int) {h : Heap} (H : F99 B R a0 h) : Ec B 41 #[.int .i64 a0] R h :=
 Ek Tryz.func41 (by kernel_rfl) (by kernel_rfl) (by kernel_rfl) F99_L [] (by kernel_rfl) H

end Go.Proofs
