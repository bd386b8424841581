import Derived.Test.YtpnfpefcjeafbaaGreatFmtA09
/- Here stand lemmas and contracts, in the order in which they are used. -/
set_option linter.unusedVariables false
namespace Go.Proofs
open Go Go.Eng
/-- plumb/dyadic.Of -/
def F21 (B : World) (R : Po) (a0 : Int) (h : Heap) : Prop :=
 alW h (.cells #[.bool false, .slice none 0 0, .int .i64 0] 38) fun b0 c0 =>
 alW c0 (.cells #[.int .i64 0] 23) fun d0 e0 =>
 Ec B 87 #[.int .i64 a0] (retE (fun f0 g0 => ∃ i0 j0 k0 l0, f0 = .tuple #[.bool i0, .int .i64 j0, .int .i64 k0, .bool l0] ∧
 Ec B 88 #[.bool i0, .int .i64 j0, .int .i64 k0, .bool l0] (retE (fun m0 n0 => ∃ o0 p0 q0 r0 s0, m0 = .agg #[.bool o0, .slice p0 q0 r0, .int .i64 s0] ∧
 iP b0 0 fun t0 u0 => stC n0 t0 u0 (.bool o0) fun v0 =>
 stC v0 t0 (u0 + 1) (.slice p0 q0 r0) fun w0 =>
 stC w0 t0 (u0 + 1 + 1) (.int .i64 s0) fun x0 =>
 iP d0 0 fun y0 z0 => stC x0 y0 z0 (.int .i64 (0 : Int)) fun a1 =>
 Enters Tryz.prog 86 ∧ FnD Tryz.prog B 86 #[.pointer (some ⟨d0, 0, none⟩)] .returning (dfE fun b1 c1 => lvW (fun d1 => iP b0 0 fun e1 f1 =>
∃ g1, cell? d1 ⟨e1, f1, none⟩ = some (.bool g1) ∧
∃ i1 j1 k1, cell? d1 ⟨e1, f1 + 1, none⟩ = some (.slice i1 j1 k1) ∧
∃ l1, cell? d1 ⟨e1, f1 + 1 + 1, none⟩ = some (.int .i64 l1) ∧
 iP d0 0 fun m1 n1 => ∃ o1, cI d1 m1 n1 .i64 o1 ∧
 R (.returned (.tuple #[.agg #[.bool g1, .slice i1 j1 k1, .int .i64 l1], .int .i64 o1])) d1) (pk R) b1 c1) a1)
(fun p1 q1 => Enters Tryz.prog 86 ∧ FnD Tryz.prog B 86 #[.pointer (some ⟨d0, 0, none⟩)] (.panicking p1) (dfE fun r1 s1 => lvW (fun t1 => iP b0 0 fun u1 v1 =>
∃ w1, cell? t1 ⟨u1, v1, none⟩ = some (.bool w1) ∧
∃ x1 y1 z1, cell? t1 ⟨u1, v1 + 1, none⟩ = some (.slice x1 y1 z1) ∧
∃ a2, cell? t1 ⟨u1, v1 + 1 + 1, none⟩ = some (.int .i64 a2) ∧
 iP d0 0 fun b2 c2 => ∃ d2, cI t1 b2 c2 .i64 d2 ∧
 R (.returned (.tuple #[.agg #[.bool w1, .slice x1 y1 z1, .int .i64 a2], .int .i64 d2])) t1) (pk R) r1 s1) q1)) g0)
(fun e2 f2 => Enters Tryz.prog 86 ∧ FnD Tryz.prog B 86 #[.pointer (some ⟨d0, 0, none⟩)] (.panicking e2) (dfE fun g2 i2 => lvW (fun j2 => iP b0 0 fun k2 l2 =>
∃ m2, cell? j2 ⟨k2, l2, none⟩ = some (.bool m2) ∧
∃ n2 o2 p2, cell? j2 ⟨k2, l2 + 1, none⟩ = some (.slice n2 o2 p2) ∧
∃ q2, cell? j2 ⟨k2, l2 + 1 + 1, none⟩ = some (.int .i64 q2) ∧
 iP d0 0 fun r2 s2 => ∃ t2, cI j2 r2 s2 .i64 t2 ∧
 R (.returned (.tuple #[.agg #[.bool m2, .slice n2 o2 p2, .int .i64 q2], .int .i64 t2])) j2) (pk R) g2 i2) f2)) e0
def F21_L : Nat → List (Nat × TypeDesc) := fun _ => []
theorem F21_ok {B : World} {R : Ending → Heap → Prop} (a0 : Int) {h : Heap} (H : F21 B R a0 h) : Ec B 51 #[.int .i64 a0] R h :=
 Ed Tryz.func51 (by kernel_rfl) (by kernel_rfl) (by kernel_rfl) F21_L [] (by kernel_rfl) H

/-- plumb/dyadic.Sum -/
def F119 (B : World) (R : Po) (a0 : OA) (b0 c0 : Nat) (h : Heap) : Prop :=
 alW h (.cells #[.bool false, .slice none 0 0, .int .i64 0] 38) fun d0 e0 =>
 alW e0 (.cells #[.int .i64 0] 23) fun f0 g0 =>
 Ec B 91 #[.slice a0 b0 c0] (retE (fun i0 j0 => ∃ k0 l0 m0, i0 = .slice k0 l0 m0 ∧
 Ec B 90 #[.slice k0 l0 m0] (retE (fun n0 o0 => ∃ p0 q0, n0 = .agg #[.pointer p0, .int .i64 q0] ∧
 Ec B 89 #[.agg #[.pointer p0, .int .i64 q0]] (retE (fun r0 s0 => ∃ t0 u0 v0 w0 x0, r0 = .agg #[.bool t0, .slice u0 v0 w0, .int .i64 x0] ∧
 iP d0 0 fun y0 z0 => stC s0 y0 z0 (.bool t0) fun a1 =>
 stC a1 y0 (z0 + 1) (.slice u0 v0 w0) fun b1 =>
 stC b1 y0 (z0 + 1 + 1) (.int .i64 x0) fun c1 =>
 iP f0 0 fun d1 e1 => stC c1 d1 e1 (.int .i64 (0 : Int)) fun f1 =>
 Enters Tryz.prog 86 ∧ FnD Tryz.prog B 86 #[.pointer (some ⟨f0, 0, none⟩)] .returning (dfE fun g1 i1 => lvW (fun j1 => iP d0 0 fun k1 l1 =>
∃ m1, cell? j1 ⟨k1, l1, none⟩ = some (.bool m1) ∧
∃ n1 o1 p1, cell? j1 ⟨k1, l1 + 1, none⟩ = some (.slice n1 o1 p1) ∧
∃ q1, cell? j1 ⟨k1, l1 + 1 + 1, none⟩ = some (.int .i64 q1) ∧
 iP f0 0 fun r1 s1 => ∃ t1, cI j1 r1 s1 .i64 t1 ∧
 R (.returned (.tuple #[.agg #[.bool m1, .slice n1 o1 p1, .int .i64 q1], .int .i64 t1])) j1) (pk R) g1 i1) f1)
(fun u1 v1 => Enters Tryz.prog 86 ∧ FnD Tryz.prog B 86 #[.pointer (some ⟨f0, 0, none⟩)] (.panicking u1) (dfE fun w1 x1 => lvW (fun y1 => iP d0 0 fun z1 a2 =>
∃ b2, cell? y1 ⟨z1, a2, none⟩ = some (.bool b2) ∧
∃ c2 d2 e2, cell? y1 ⟨z1, a2 + 1, none⟩ = some (.slice c2 d2 e2) ∧
∃ f2, cell? y1 ⟨z1, a2 + 1 + 1, none⟩ = some (.int .i64 f2) ∧
 iP f0 0 fun g2 i2 => ∃ j2, cI y1 g2 i2 .i64 j2 ∧
 R (.returned (.tuple #[.agg #[.bool b2, .slice c2 d2 e2, .int .i64 f2], .int .i64 j2])) y1) (pk R) w1 x1) v1)) o0)
(fun k2 l2 => Enters Tryz.prog 86 ∧ FnD Tryz.prog B 86 #[.pointer (some ⟨f0, 0, none⟩)] (.panicking k2) (dfE fun m2 n2 => lvW (fun o2 => iP d0 0 fun p2 q2 =>
∃ r2, cell? o2 ⟨p2, q2, none⟩ = some (.bool r2) ∧
∃ s2 t2 u2, cell? o2 ⟨p2, q2 + 1, none⟩ = some (.slice s2 t2 u2) ∧
∃ v2, cell? o2 ⟨p2, q2 + 1 + 1, none⟩ = some (.int .i64 v2) ∧
 iP f0 0 fun w2 x2 => ∃ y2, cI o2 w2 x2 .i64 y2 ∧
 R (.returned (.tuple #[.agg #[.bool r2, .slice s2 t2 u2, .int .i64 v2], .int .i64 y2])) o2) (pk R) m2 n2) l2)) j0)
(fun z2 a3 => Enters Tryz.prog 86 ∧ FnD Tryz.prog B 86 #[.pointer (some ⟨f0, 0, none⟩)] (.panicking z2) (dfE fun b3 c3 => lvW (fun d3 => iP d0 0 fun e3 f3 =>
∃ g3, cell? d3 ⟨e3, f3, none⟩ = some (.bool g3) ∧
∃ i3 j3 k3, cell? d3 ⟨e3, f3 + 1, none⟩ = some (.slice i3 j3 k3) ∧
∃ l3, cell? d3 ⟨e3, f3 + 1 + 1, none⟩ = some (.int .i64 l3) ∧
 iP f0 0 fun m3 n3 => ∃ o3, cI d3 m3 n3 .i64 o3 ∧
 R (.returned (.tuple #[.agg #[.bool g3, .slice i3 j3 k3, .int .i64 l3], .int .i64 o3])) d3) (pk R) b3 c3) a3)) g0
def F119_L : Nat → List (Nat × TypeDesc) := fun _ => []
theorem F119_ok {B : World} {R : Ending → Heap → Prop} (a0 : OA) (b0 c0 : Nat) {h : Heap} (H : F119 B R a0 b0 c0 h) : Ec B 52 #[.slice a0 b0 c0] R h :=
 Ed Tryz.func52 (by kernel_rfl) (by kernel_rfl) (by kernel_rfl) F119_L [] (by kernel_rfl) H

/-- plumb/bits.Parts -/
def F63 (B : World) (R : Po) (a0 : Int) (h : Heap) : Prop :=
  0 ≤ (52 : Int) ∧
((decide ((bitsI .and .i64 (Int.fdiv a0 (2 ^ min (Int.toNat (52 : Int)) IntKind.i64.bits)) (2047 : Int)) = (2047 : Int))) = true →
 R (.returned (.tuple #[.bool false, .int .i64 (0 : Int), .int .i64 (0 : Int), .bool false])) h) ∧
((decide ((bitsI .and .i64 (Int.fdiv a0 (2 ^ min (Int.toNat (52 : Int)) IntKind.i64.bits)) (2047 : Int)) = (2047 : Int))) = false →
((decide ((bitsI .and .i64 (Int.fdiv a0 (2 ^ min (Int.toNat (52 : Int)) IntKind.i64.bits)) (2047 : Int)) = (0 : Int))) = true →
 R (.returned (.tuple #[.bool (decide (a0 < (0 : Int))), .int .i64 (bitsI .and .i64 a0 (4503599627370495 : Int)), .int .i64 (-1074 : Int), .bool true])) h) ∧
((decide ((bitsI .and .i64 (Int.fdiv a0 (2 ^ min (Int.toNat (52 : Int)) IntKind.i64.bits)) (2047 : Int)) = (0 : Int))) = false →
 R (.returned (.tuple #[.bool (decide (a0 < (0 : Int))), .int .i64 (bitsI .or .i64 (bitsI .and .i64 a0 (4503599627370495 : Int)) (4503599627370496 : Int)), .int .i64 (IntKind.i64.wrap ((bitsI .and .i64 (Int.fdiv a0 (2 ^ min (Int.toNat (52 : Int)) IntKind.i64.bits)) (2047 : Int)) - (1075 : Int))), .bool true])) h))
def F63_L : Nat → List (Nat × TypeDesc) := fun _ => []
theorem F63_ok {B : World} {R : Ending → Heap → Prop} (a0 : Int) {h : Heap} (H : F63 B R a0 h) : Ec B 87 #[.int .i64 a0] R h :=
 Ek Tryz.func87 (by kernel_rfl) (by kernel_rfl) (by kernel_rfl) F63_L [] (by kernel_rfl) H

/-- plumb/dyadic.of -/
def F64_j7 (B : World) (R : Po) (a0 b0 : Int) (c0 : OA) (d0 : Heap) : Prop :=
 Ec B 27 #[.int .i64 a0] (retE (fun e0 f0 => ∃ g0, e0 = .pointer g0 ∧
 Ec B 89 #[.agg #[.pointer g0, .int .i64 b0]] (retE (fun i0 j0 => ∃ k0 l0 m0 n0 o0, i0 = .agg #[.bool k0, .slice l0 m0 n0, .int .i64 o0] ∧
 isP c0 fun p0 q0 => stC j0 p0 q0 (.bool k0) fun r0 =>
 stC r0 p0 (q0 + 1) (.slice l0 m0 n0) fun s0 =>
 stC s0 p0 (q0 + 1 + 1) (.int .i64 o0) fun t0 =>
 isP c0 fun u0 v0 =>
∃ w0, cell? t0 ⟨u0, v0, none⟩ = some (.bool w0) ∧
∃ x0 y0 z0, cell? t0 ⟨u0, v0 + 1, none⟩ = some (.slice x0 y0 z0) ∧
∃ a1, cell? t0 ⟨u0, v0 + 1 + 1, none⟩ = some (.int .i64 a1) ∧
 R (.returned (.agg #[.bool w0, .slice x0 y0 z0, .int .i64 a1])) t0)
(pk R)) f0)
(pk R)) d0
def F64 (B : World) (R : Po) (b1 : Bool) (c1 d1 : Int) (e1 : Bool) (h : Heap) : Prop :=
 alW h (.cells #[.bool false, .slice none 0 0, .int .i64 0] 38) fun f1 g1 =>
((!e1) = true →
 R (.panicked [{ v := .iface 160 (.agg #[.int .i64 (10 : Int)]), recovered := false }]) g1) ∧
((!e1) = false →
(b1 = true →
 F64_j7 B R (IntKind.i64.wrap (0 - c1)) d1 (some ⟨f1, 0, none⟩) g1) ∧
(b1 = false →
 F64_j7 B R c1 d1 (some ⟨f1, 0, none⟩) g1))
def F64_L : Nat → List (Nat × TypeDesc) := fun _ => []
theorem F64_ok {B : World} {R : Ending → Heap → Prop} (b1 : Bool) (c1 d1 : Int) (e1 : Bool) {h : Heap} (H : F64 B R b1 c1 d1 e1 h) : Ec B 88 #[.bool b1, .int .i64 c1, .int .i64 d1, .bool e1] R h :=
 Ek Tryz.func88 (by kernel_rfl) (by kernel_rfl) (by kernel_rfl) F64_L [] (by kernel_rfl) H

/-- plumb/dyadic.told -/
def F65_j66 (B : World) (R : Po) (a0 b0 c0 : OA) (d0 : Int) (e0 : Bool) (f0 : Heap) : Prop :=
(e0 = true →
 R (.panicked [{ v := .iface 160 (.agg #[.int .i64 (2 : Int)]), recovered := false }]) f0) ∧
(e0 = false →
 Ec B 107 #[.pointer c0] (retE (fun g0 i0 => ∃ j0, g0 = .int .i64 j0 ∧
(30 : Int) ≠ 0 ∧
0 ≤ (0 : Int) ∧ (0 : Int) ≤ (IntKind.i64.wrap ((IntKind.i64.wrap (Int.tdiv j0 (30 : Int))) + (1 : Int))) ∧ 8 * (IntKind.i64.wrap ((IntKind.i64.wrap (Int.tdiv j0 (30 : Int))) + (1 : Int))) ≤ 281474976710656 ∧ (IntKind.i64.wrap ((IntKind.i64.wrap (Int.tdiv j0 (30 : Int))) + (1 : Int))) < 9223372036854775808 ∧
 alW i0 (.cells (mkCells #[.int .i64 0] (Int.toNat (IntKind.i64.wrap ((IntKind.i64.wrap (Int.tdiv j0 (30 : Int))) + (1 : Int))) * 1)) 3) fun k0 l0 =>
 Ec B 27 #[.int .i64 (1073741823 : Int)] (retE (fun m0 n0 => ∃ o0, m0 = .pointer o0 ∧
∃ p0 : Lp, ∃ q0, p0 q0 [.pointer a0, .pointer b0, .pointer c0, .int .i64 d0, .slice (some ⟨k0, 0, none⟩) (Int.toNat (0 : Int)) (Int.toNat (IntKind.i64.wrap ((IntKind.i64.wrap (Int.tdiv j0 (30 : Int))) + (1 : Int)))), .pointer o0] n0 ∧
∀ (r0 : Nat) (s0 : Heap) (t0 u0 v0 : OA) (w0 : Int) (x0 : OA) (y0 z0 : Nat) (a1 : OA), p0 r0 [.pointer t0, .pointer u0, .pointer v0, .int .i64 w0, .slice x0 y0 z0, .pointer a1] s0 → ∀ _r : Nat → Value,
 Ec B 54 #[.pointer v0] (retE (fun b1 c1 => ∃ d1, b1 = .int .i64 d1 ∧
((decide ((0 : Int) < d1)) = true →
 alW c1 (.cells #[.bool false, .slice none 0 0] 61) fun e1 f1 =>
 Ec B 74 #[.pointer (some ⟨e1, 0, none⟩), .pointer v0, .pointer a1] (retE (fun g1 i1 => ∃ j1, g1 = .pointer j1 ∧
 Ec B 75 #[.pointer j1] (retE (fun k1 l1 => ∃ m1, k1 = .int .i64 m1 ∧
 alW l1 (.cells #[.int .i64 m1] 3) fun n1 o1 =>
 apW o1 x0 y0 z0 (some ⟨n1, 0, none⟩) 1 1 8 3 #[.int .i64 0] fun p1 q1 r1 s1 =>
 Ec B 69 #[.pointer v0, .pointer v0, .int .u64 (30 : Int)] (retE (fun t1 u1 => ∃ v1, t1 = .pointer v1 ∧
∃ w1, w1 < r0 ∧ p0 w1 [.pointer t0, .pointer u0, .pointer v0, .int .i64 w0, .slice p1 q1 r1, .pointer a1] u1)
(pk R)) s1)
(pk R)) i1)
(pk R)) f1) ∧
((decide ((0 : Int) < d1)) = false →
 isP t0 fun x1 y1 =>
 iP x1 y1 fun z1 a2 => ∃ b2, cell? c1 ⟨z1, a2, none⟩ = some (.pointer b2) ∧
 Ec B 54 #[.pointer b2] (retE (fun c2 d2 => ∃ e2, c2 = .int .i64 e2 ∧
 isP u0 fun f2 g2 => stC d2 f2 g2 (.bool (decide (e2 < (0 : Int)))) fun i2 =>
 stC i2 f2 (g2 + 1) (.slice x0 y0 z0) fun j2 =>
 stC j2 f2 (g2 + 1 + 1) (.int .i64 w0) fun k2 =>
 isP u0 fun l2 m2 =>
∃ n2, cell? k2 ⟨l2, m2, none⟩ = some (.bool n2) ∧
∃ o2 p2 q2, cell? k2 ⟨l2, m2 + 1, none⟩ = some (.slice o2 p2 q2) ∧
∃ r2, cell? k2 ⟨l2, m2 + 1 + 1, none⟩ = some (.int .i64 r2) ∧
 R (.returned (.agg #[.bool n2, .slice o2 p2 q2, .int .i64 r2])) k2)
(pk R)) c1))
(pk R)) s0)
(pk R)) l0)
(pk R)) f0)
def F65 (B : World) (R : Po) (s2 : OA) (t2 : Int) (h : Heap) : Prop :=
 alW h (.cells #[.pointer s2, .int .i64 t2] 132) fun u2 v2 =>
 alW v2 (.cells #[.bool false, .slice none 0 0, .int .i64 0] 38) fun w2 x2 =>
 iP u2 0 fun y2 z2 =>
 iP y2 z2 fun a3 b3 => ∃ c3, cell? x2 ⟨a3, b3, none⟩ = some (.pointer c3) ∧
 Ec B 54 #[.pointer c3] (retE (fun d3 e3 => ∃ f3, d3 = .int .i64 f3 ∧
((decide (f3 = (0 : Int))) = true →
 iP w2 0 fun g3 i3 => stC e3 g3 i3 (.bool false) fun j3 =>
 stC j3 g3 (i3 + 1) (.slice none 0 0) fun k3 =>
 stC k3 g3 (i3 + 1 + 1) (.int .i64 0) fun l3 =>
 iP w2 0 fun m3 n3 =>
∃ o3, cell? l3 ⟨m3, n3, none⟩ = some (.bool o3) ∧
∃ p3 q3 r3, cell? l3 ⟨m3, n3 + 1, none⟩ = some (.slice p3 q3 r3) ∧
∃ s3, cell? l3 ⟨m3, n3 + 1 + 1, none⟩ = some (.int .i64 s3) ∧
 R (.returned (.agg #[.bool o3, .slice p3 q3 r3, .int .i64 s3])) l3) ∧
((decide (f3 = (0 : Int))) = false →
 iP u2 0 fun t3 u3 =>
 iP t3 u3 fun v3 w3 => ∃ x3, cell? e3 ⟨v3, w3, none⟩ = some (.pointer x3) ∧
 Ec B 72 #[.pointer x3] (retE (fun y3 z3 => ∃ a4, y3 = .int .u64 a4 ∧
 alW z3 (.cells #[.bool false, .slice none 0 0] 61) fun b4 c4 =>
 alW c4 (.cells #[.bool false, .slice none 0 0] 61) fun d4 e4 =>
 iP u2 0 fun f4 g4 =>
 iP f4 g4 fun i4 j4 => ∃ k4, cell? e4 ⟨i4, j4, none⟩ = some (.pointer k4) ∧
 Ec B 73 #[.pointer (some ⟨d4, 0, none⟩), .pointer k4] (retE (fun l4 m4 => ∃ n4, l4 = .pointer n4 ∧
 Ec B 69 #[.pointer (some ⟨b4, 0, none⟩), .pointer n4, .int .u64 (IntKind.u64.wrap (IntKind.i64.wrap a4))] (retE (fun o4 p4 => ∃ q4, o4 = .pointer q4 ∧
 iP u2 0 fun r4 s4 =>
 isP (some ⟨r4, s4 + 1, none⟩) fun t4 u4 => ∃ v4, cI p4 t4 u4 .i64 v4 ∧
 Ec B 107 #[.pointer q4] (retE (fun w4 x4 => ∃ y4, w4 = .int .i64 y4 ∧
((decide ((60000 : Int) < y4)) = true →
(true = true →
 F65_j66 B R (some ⟨u2, 0, none⟩) (some ⟨w2, 0, none⟩) q4 (IntKind.i64.wrap (v4 + (IntKind.i64.wrap a4))) true x4) ∧
(true = false →
 F65_j66 B R (some ⟨u2, 0, none⟩) (some ⟨w2, 0, none⟩) q4 (IntKind.i64.wrap (v4 + (IntKind.i64.wrap a4))) (decide ((1048576 : Int) < (IntKind.i64.wrap (v4 + (IntKind.i64.wrap a4))))) x4)) ∧
((decide ((60000 : Int) < y4)) = false →
((decide ((IntKind.i64.wrap (v4 + (IntKind.i64.wrap a4))) < (-1048576 : Int))) = true →
 F65_j66 B R (some ⟨u2, 0, none⟩) (some ⟨w2, 0, none⟩) q4 (IntKind.i64.wrap (v4 + (IntKind.i64.wrap a4))) true x4) ∧
((decide ((IntKind.i64.wrap (v4 + (IntKind.i64.wrap a4))) < (-1048576 : Int))) = false →
 F65_j66 B R (some ⟨u2, 0, none⟩) (some ⟨w2, 0, none⟩) q4 (IntKind.i64.wrap (v4 + (IntKind.i64.wrap a4))) (decide ((1048576 : Int) < (IntKind.i64.wrap (v4 + (IntKind.i64.wrap a4))))) x4)))
(pk R)) p4)
(pk R)) m4)
(pk R)) e4)
(pk R)) e3))
(pk R)) x2
def F65_L : Nat → List (Nat × TypeDesc) := fun i => match i with
  | 10 => [(1, .pointer 0), (2, .pointer 0), (4, .pointer 0), (5, .int .i64), (6, .slice 0), (7, .pointer 0)]
  | _ => []
theorem F65_ok {B : World} {R : Ending → Heap → Prop} (s2 : OA) (t2 : Int) {h : Heap} (H : F65 B R s2 t2 h) : Ec B 89 #[.agg #[.pointer s2, .int .i64 t2]] R h :=
 Ek Tryz.func89 (by kernel_rfl) (by kernel_rfl) (by kernel_rfl) F65_L [] (by kernel_rfl) H

/-- plumb/dyadic.plus -/
def F66_j43 (B : World) (R : Po) (a0 : Lp) (b0 : Nat) (c0 d0 e0 : OA) (f0 g0 : Nat) (i0 j0 : Int) (k0 : Heap) : Prop :=
 ∃ l0, l0 < b0 ∧ a0 l0 [.pointer c0, .pointer d0, .slice e0 f0 g0, .int .i64 i0, .int .i64 (IntKind.i64.wrap (j0 + (1 : Int)))] k0
def F66_j69 (B : World) (R : Po) (a0 : Lp) (b0 : Nat) (m0 n0 o0 : OA) (p0 q0 : Nat) (r0 s0 : Int) (t0 : Heap) : Prop :=
 F66_j43 B R a0 b0 m0 n0 o0 p0 q0 r0 s0 t0
def F66_j136 (B : World) (R : Po) (a0 : Lp) (b0 : Nat) (u0 v0 w0 : OA) (x0 y0 : Nat) (z0 a1 : Int) (b1 : Heap) : Prop :=
 F66_j69 B R a0 b0 u0 v0 w0 x0 y0 z0 a1 b1
def F66_j129 (B : World) (R : Po) (a0 : Lp) (b0 : Nat) (c1 d1 e1 : OA) (f1 g1 : Nat) (i1 j1 : Int) (k1 : Heap) : Prop :=
 F66_j136 B R a0 b0 c1 d1 e1 f1 g1 i1 j1 k1
def F66_j220 (B : World) (R : Po) (a0 : Lp) (b0 : Nat) (l1 m1 n1 : OA) (o1 p1 : Nat) (q1 r1 : Int) (s1 : Heap) : Prop :=
 F66_j136 B R a0 b0 l1 m1 n1 o1 p1 q1 r1 s1
def F66 (B : World) (R : Po) (t1 : OA) (u1 v1 : Nat) (h : Heap) : Prop :=
 alW h (.cells #[.pointer none, .int .i64 0] 132) fun w1 x1 =>
 alW x1 (.cells #[.bool false, .slice none 0 0] 61) fun y1 z1 =>
 alW z1 (.cells #[.pointer none, .int .i64 0] 132) fun a2 b2 =>
 iP a2 0 fun c2 d2 => stC b2 c2 d2 (.pointer (some ⟨y1, 0, none⟩)) fun e2 =>
 stC e2 c2 (d2 + 1) (.int .i64 (0 : Int)) fun f2 =>
∃ a0 : Lp, ∃ g2, a0 g2 [.pointer (some ⟨w1, 0, none⟩), .pointer (some ⟨a2, 0, none⟩), .slice t1 u1 v1, .int .i64 (u1 : Int), .int .i64 (0 : Int)] f2 ∧
∀ (b0 : Nat) (i2 : Heap) (j2 k2 l2 : OA) (m2 n2 : Nat) (o2 p2 : Int), a0 b0 [.pointer j2, .pointer k2, .slice l2 m2 n2, .int .i64 o2, .int .i64 p2] i2 → ∀ _r : Nat → Value,
((decide (p2 < o2)) = true →
 ixW l2 m2 p2 2 fun q2 r2 =>
 iP q2 r2 fun s2 t2 =>
∃ u2, cell? i2 ⟨s2, t2, none⟩ = some (.pointer u2) ∧
∃ v2, cell? i2 ⟨s2, t2 + 1, none⟩ = some (.int .i64 v2) ∧
 alW i2 (.cells #[.pointer none, .int .i64 0] 132) fun w2 x2 =>
 iP w2 0 fun y2 z2 => stC x2 y2 z2 (.pointer u2) fun a3 =>
 stC a3 y2 (z2 + 1) (.int .i64 v2) fun b3 =>
 iP w2 0 fun c3 d3 =>
 iP c3 d3 fun e3 f3 => ∃ g3, cell? b3 ⟨e3, f3, none⟩ = some (.pointer g3) ∧
 Ec B 54 #[.pointer g3] (retE (fun i3 j3 => ∃ k3, i3 = .int .i64 k3 ∧
((decide (k3 = (0 : Int))) = true →
 F66_j43 B R a0 b0 j2 k2 l2 m2 n2 o2 p2 j3) ∧
((decide (k3 = (0 : Int))) = false →
 isP k2 fun l3 m3 =>
 iP l3 m3 fun n3 o3 => ∃ p3, cell? j3 ⟨n3, o3, none⟩ = some (.pointer p3) ∧
 Ec B 54 #[.pointer p3] (retE (fun q3 r3 => ∃ s3, q3 = .int .i64 s3 ∧
((decide (s3 = (0 : Int))) = true →
 iP w2 0 fun t3 u3 =>
∃ v3, cell? r3 ⟨t3, u3, none⟩ = some (.pointer v3) ∧
∃ w3, cell? r3 ⟨t3, u3 + 1, none⟩ = some (.int .i64 w3) ∧
 isP k2 fun x3 y3 => stC r3 x3 y3 (.pointer v3) fun z3 =>
 stC z3 x3 (y3 + 1) (.int .i64 w3) fun a4 =>
 F66_j69 B R a0 b0 j2 k2 l2 m2 n2 o2 p2 a4) ∧
((decide (s3 = (0 : Int))) = false →
 iP w2 0 fun b4 c4 =>
 isP (some ⟨b4, c4 + 1, none⟩) fun d4 e4 => ∃ f4, cI r3 d4 e4 .i64 f4 ∧
 isP k2 fun g4 i4 =>
 isP (some ⟨g4, i4 + 1, none⟩) fun j4 k4 => ∃ l4, cI r3 j4 k4 .i64 l4 ∧
((decide (l4 ≤ f4)) = true →
 isP k2 fun m4 n4 =>
 iP m4 n4 fun o4 p4 => ∃ q4, cell? r3 ⟨o4, p4, none⟩ = some (.pointer q4) ∧
 iP w2 0 fun r4 s4 =>
 iP r4 s4 fun t4 u4 => ∃ v4, cell? r3 ⟨t4, u4, none⟩ = some (.pointer v4) ∧
 iP w2 0 fun w4 x4 =>
 isP (some ⟨w4, x4 + 1, none⟩) fun y4 z4 => ∃ a5, cI r3 y4 z4 .i64 a5 ∧
 isP k2 fun b5 c5 =>
 isP (some ⟨b5, c5 + 1, none⟩) fun d5 e5 => ∃ f5, cI r3 d5 e5 .i64 f5 ∧
 isP k2 fun g5 i5 =>
 isP (some ⟨g5, i5 + 1, none⟩) fun j5 k5 => ∃ l5, cI r3 j5 k5 .i64 l5 ∧
(alW r3 (.cells #[.bool false, .slice none 0 0] 61) fun m5 n5 =>
 sameCells r3 n5 j5 k5 1 ∧ sameCells r3 n5 d5 e5 1 ∧ sameCells r3 n5 y4 z4 1 ∧ sameCells r3 n5 t4 u4 1 ∧ sameCells r3 n5 o4 p4 1 ∧ alW n5 (.cells #[.bool false, .slice none 0 0] 61) fun o5 p5 =>
 sameCells n5 p5 j5 k5 1 ∧ sameCells n5 p5 d5 e5 1 ∧ sameCells n5 p5 y4 z4 1 ∧ sameCells n5 p5 t4 u4 1 ∧ sameCells n5 p5 o4 p4 1 ∧ Ec B 68 #[.pointer (some ⟨o5, 0, none⟩), .pointer v4, .int .u64 (IntKind.u64.wrap (IntKind.i64.wrap (a5 - f5)))] (retE (fun q5 r5 => ∃ s5, q5 = .pointer s5 ∧
 sameCells p5 r5 j5 k5 1 ∧ sameCells p5 r5 o4 p4 1 ∧ Ec B 70 #[.pointer (some ⟨m5, 0, none⟩), .pointer q4, .pointer s5] (retE (fun t5 u5 => ∃ v5, t5 = .pointer v5 ∧
 sameCells r5 u5 j5 k5 1 ∧ isP k2 fun w5 x5 => stC u5 w5 x5 (.pointer v5) fun y5 =>
 stC y5 w5 (x5 + 1) (.int .i64 l5) fun z5 =>
 F66_j129 B R a0 b0 j2 k2 l2 m2 n2 o2 p2 z5)
(fun _ _ => False)) r5)
(fun _ _ => False)) p5) ∧
(alW r3 (.cells #[.bool false, .slice none 0 0] 61) fun a6 b6 =>
 sameCells r3 b6 j5 k5 1 ∧ sameCells r3 b6 d5 e5 1 ∧ sameCells r3 b6 y4 z4 1 ∧ sameCells r3 b6 t4 u4 1 ∧ sameCells r3 b6 o4 p4 1 ∧ (alW b6 (.cells #[.bool false, .slice none 0 0] 61) fun c6 d6 =>
 sameCells b6 d6 j5 k5 1 ∧ sameCells b6 d6 d5 e5 1 ∧ sameCells b6 d6 y4 z4 1 ∧ sameCells b6 d6 t4 u4 1 ∧ sameCells b6 d6 o4 p4 1 ∧ Ec B 68 #[.pointer (some ⟨a6, 0, none⟩), .pointer v4, .int .u64 (IntKind.u64.wrap (IntKind.i64.wrap (a5 - f5)))] (retE (fun e6 f6 => ∃ g6, e6 = .pointer g6 ∧
 sameCells d6 f6 j5 k5 1 ∧ sameCells d6 f6 o4 p4 1 ∧ Ec B 70 #[.pointer (some ⟨c6, 0, none⟩), .pointer q4, .pointer g6] (retE (fun i6 j6 => ∃ k6, i6 = .pointer k6 ∧
 sameCells f6 j6 j5 k5 1 ∧ isP k2 fun l6 m6 => stC j6 l6 m6 (.pointer k6) fun n6 =>
 stC n6 l6 (m6 + 1) (.int .i64 l5) fun o6 =>
 F66_j129 B R a0 b0 j2 k2 l2 m2 n2 o2 p2 o6)
(fun _ _ => False)) f6)
(fun _ _ => False)) d6) ∧
(Ec B 68 #[.pointer (some ⟨a6, 0, none⟩), .pointer v4, .int .u64 (IntKind.u64.wrap (IntKind.i64.wrap (a5 - f5)))] (retE (fun p6 q6 => ∃ r6, p6 = .pointer r6 ∧
 sameCells b6 q6 j5 k5 1 ∧ sameCells b6 q6 o4 p4 1 ∧ alW q6 (.cells #[.bool false, .slice none 0 0] 61) fun s6 t6 =>
 sameCells q6 t6 j5 k5 1 ∧ sameCells q6 t6 d5 e5 1 ∧ sameCells q6 t6 y4 z4 1 ∧ sameCells q6 t6 t4 u4 1 ∧ sameCells q6 t6 o4 p4 1 ∧ Ec B 70 #[.pointer (some ⟨s6, 0, none⟩), .pointer q4, .pointer r6] (retE (fun u6 v6 => ∃ w6, u6 = .pointer w6 ∧
 sameCells t6 v6 j5 k5 1 ∧ isP k2 fun x6 y6 => stC v6 x6 y6 (.pointer w6) fun z6 =>
 stC z6 x6 (y6 + 1) (.int .i64 l5) fun a7 =>
 F66_j129 B R a0 b0 j2 k2 l2 m2 n2 o2 p2 a7)
(fun _ _ => False)) t6)
(fun _ _ => False)) b6))) ∧
((decide (l4 ≤ f4)) = false →
 iP w2 0 fun b7 c7 =>
 iP b7 c7 fun d7 e7 => ∃ f7, cell? r3 ⟨d7, e7, none⟩ = some (.pointer f7) ∧
 isP k2 fun g7 i7 =>
 iP g7 i7 fun j7 k7 => ∃ l7, cell? r3 ⟨j7, k7, none⟩ = some (.pointer l7) ∧
 isP k2 fun m7 n7 =>
 isP (some ⟨m7, n7 + 1, none⟩) fun o7 p7 => ∃ q7, cI r3 o7 p7 .i64 q7 ∧
 iP w2 0 fun r7 s7 =>
 isP (some ⟨r7, s7 + 1, none⟩) fun t7 u7 => ∃ v7, cI r3 t7 u7 .i64 v7 ∧
 iP w2 0 fun w7 x7 =>
 isP (some ⟨w7, x7 + 1, none⟩) fun y7 z7 => ∃ a8, cI r3 y7 z7 .i64 a8 ∧
(alW r3 (.cells #[.bool false, .slice none 0 0] 61) fun b8 c8 =>
 sameCells r3 c8 y7 z7 1 ∧ sameCells r3 c8 t7 u7 1 ∧ sameCells r3 c8 o7 p7 1 ∧ sameCells r3 c8 j7 k7 1 ∧ sameCells r3 c8 d7 e7 1 ∧ alW c8 (.cells #[.bool false, .slice none 0 0] 61) fun d8 e8 =>
 sameCells c8 e8 y7 z7 1 ∧ sameCells c8 e8 t7 u7 1 ∧ sameCells c8 e8 o7 p7 1 ∧ sameCells c8 e8 j7 k7 1 ∧ sameCells c8 e8 d7 e7 1 ∧ Ec B 68 #[.pointer (some ⟨d8, 0, none⟩), .pointer l7, .int .u64 (IntKind.u64.wrap (IntKind.i64.wrap (q7 - v7)))] (retE (fun f8 g8 => ∃ i8, f8 = .pointer i8 ∧
 sameCells e8 g8 y7 z7 1 ∧ sameCells e8 g8 d7 e7 1 ∧ Ec B 70 #[.pointer (some ⟨b8, 0, none⟩), .pointer f7, .pointer i8] (retE (fun j8 k8 => ∃ l8, j8 = .pointer l8 ∧
 sameCells g8 k8 y7 z7 1 ∧ isP k2 fun m8 n8 => stC k8 m8 n8 (.pointer l8) fun o8 =>
 stC o8 m8 (n8 + 1) (.int .i64 a8) fun p8 =>
 F66_j220 B R a0 b0 j2 k2 l2 m2 n2 o2 p2 p8)
(fun _ _ => False)) g8)
(fun _ _ => False)) e8) ∧
(alW r3 (.cells #[.bool false, .slice none 0 0] 61) fun q8 r8 =>
 sameCells r3 r8 y7 z7 1 ∧ sameCells r3 r8 t7 u7 1 ∧ sameCells r3 r8 o7 p7 1 ∧ sameCells r3 r8 j7 k7 1 ∧ sameCells r3 r8 d7 e7 1 ∧ (alW r8 (.cells #[.bool false, .slice none 0 0] 61) fun s8 t8 =>
 sameCells r8 t8 y7 z7 1 ∧ sameCells r8 t8 t7 u7 1 ∧ sameCells r8 t8 o7 p7 1 ∧ sameCells r8 t8 j7 k7 1 ∧ sameCells r8 t8 d7 e7 1 ∧ Ec B 68 #[.pointer (some ⟨q8, 0, none⟩), .pointer l7, .int .u64 (IntKind.u64.wrap (IntKind.i64.wrap (q7 - v7)))] (retE (fun u8 v8 => ∃ w8, u8 = .pointer w8 ∧
 sameCells t8 v8 y7 z7 1 ∧ sameCells t8 v8 d7 e7 1 ∧ Ec B 70 #[.pointer (some ⟨s8, 0, none⟩), .pointer f7, .pointer w8] (retE (fun x8 y8 => ∃ z8, x8 = .pointer z8 ∧
 sameCells v8 y8 y7 z7 1 ∧ isP k2 fun a9 b9 => stC y8 a9 b9 (.pointer z8) fun c9 =>
 stC c9 a9 (b9 + 1) (.int .i64 a8) fun d9 =>
 F66_j220 B R a0 b0 j2 k2 l2 m2 n2 o2 p2 d9)
(fun _ _ => False)) v8)
(fun _ _ => False)) t8) ∧
(Ec B 68 #[.pointer (some ⟨q8, 0, none⟩), .pointer l7, .int .u64 (IntKind.u64.wrap (IntKind.i64.wrap (q7 - v7)))] (retE (fun e9 f9 => ∃ g9, e9 = .pointer g9 ∧
 sameCells r8 f9 y7 z7 1 ∧ sameCells r8 f9 d7 e7 1 ∧ alW f9 (.cells #[.bool false, .slice none 0 0] 61) fun i9 j9 =>
 sameCells f9 j9 y7 z7 1 ∧ sameCells f9 j9 t7 u7 1 ∧ sameCells f9 j9 o7 p7 1 ∧ sameCells f9 j9 j7 k7 1 ∧ sameCells f9 j9 d7 e7 1 ∧ Ec B 70 #[.pointer (some ⟨i9, 0, none⟩), .pointer f7, .pointer g9] (retE (fun k9 l9 => ∃ m9, k9 = .pointer m9 ∧
 sameCells j9 l9 y7 z7 1 ∧ isP k2 fun n9 o9 => stC l9 n9 o9 (.pointer m9) fun p9 =>
 stC p9 n9 (o9 + 1) (.int .i64 a8) fun q9 =>
 F66_j220 B R a0 b0 j2 k2 l2 m2 n2 o2 p2 q9)
(fun _ _ => False)) j9)
(fun _ _ => False)) r8)))))
(pk R)) j3))
(pk R)) b3) ∧
((decide (p2 < o2)) = false →
 isP k2 fun r9 s9 =>
∃ t9, cell? i2 ⟨r9, s9, none⟩ = some (.pointer t9) ∧
∃ u9, cell? i2 ⟨r9, s9 + 1, none⟩ = some (.int .i64 u9) ∧
 isP j2 fun v9 w9 => stC i2 v9 w9 (.pointer t9) fun x9 =>
 stC x9 v9 (w9 + 1) (.int .i64 u9) fun y9 =>
 isP j2 fun z9 a10 =>
∃ b10, cell? y9 ⟨z9, a10, none⟩ = some (.pointer b10) ∧
∃ c10, cell? y9 ⟨z9, a10 + 1, none⟩ = some (.int .i64 c10) ∧
 R (.returned (.agg #[.pointer b10, .int .i64 c10])) y9)
def F66_L : Nat → List (Nat × TypeDesc) := fun i => match i with
  | 3 => [(2, .pointer 0), (3, .pointer 0), (8, .slice 0), (9, .int .i64), (10, .int .i64)]
  | _ => []
theorem F66_ok {B : World} {R : Ending → Heap → Prop} (t1 : OA) (u1 v1 : Nat) {h : Heap} (H : F66 B R t1 u1 v1 h) : Ec B 90 #[.slice t1 u1 v1] R h :=
 Ek Tryz.func90 (by kernel_rfl) (by kernel_rfl) (by kernel_rfl) F66_L [] (by kernel_rfl) H

/-- plumb/dyadic.open -/
def F67_j62 (B : World) (R : Po) (a0 : Lp) (b0 : Nat) (c0 : OA) (d0 e0 : Nat) (f0 : OA) (g0 i0 : Nat) (j0 k0 : Int) (l0 : Heap) : Prop :=
 ∃ m0, m0 < b0 ∧ a0 m0 [.slice c0 d0 e0, .slice f0 g0 i0, .int .i64 j0, .int .i64 (IntKind.i64.wrap (k0 + (1 : Int)))] l0
def F67 (B : World) (R : Po) (n0 : OA) (o0 p0 : Nat) (h : Heap) : Prop :=
  0 ≤ (o0 : Int) ∧ (o0 : Int) ≤ (o0 : Int) ∧ 16 * (o0 : Int) ≤ 281474976710656 ∧ (o0 : Int) < 9223372036854775808 ∧
 alW h (.cells (mkCells #[.pointer none, .int .i64 0] (Int.toNat (o0 : Int) * 2)) 132) fun q0 r0 =>
∃ a0 : Lp, ∃ s0, a0 s0 [.slice (some ⟨q0, 0, none⟩) (Int.toNat (o0 : Int)) (Int.toNat (o0 : Int)), .slice n0 o0 p0, .int .i64 (o0 : Int), .int .i64 (0 : Int)] r0 ∧
∀ (b0 : Nat) (t0 : Heap) (u0 : OA) (v0 w0 : Nat) (x0 : OA) (y0 z0 : Nat) (a1 b1 : Int), a0 b0 [.slice u0 v0 w0, .slice x0 y0 z0, .int .i64 a1, .int .i64 b1] t0 → ∀ _r : Nat → Value,
((decide (b1 < a1)) = true →
 ixW x0 y0 b1 3 fun c1 d1 =>
 iP c1 d1 fun e1 f1 =>
∃ g1, cell? t0 ⟨e1, f1, none⟩ = some (.bool g1) ∧
∃ i1 j1 k1, cell? t0 ⟨e1, f1 + 1, none⟩ = some (.slice i1 j1 k1) ∧
∃ l1, cell? t0 ⟨e1, f1 + 1 + 1, none⟩ = some (.int .i64 l1) ∧
 alW t0 (.cells #[.bool false, .slice none 0 0, .int .i64 0] 38) fun m1 n1 =>
 iP m1 0 fun o1 p1 => stC n1 o1 p1 (.bool g1) fun q1 =>
 stC q1 o1 (p1 + 1) (.slice i1 j1 k1) fun r1 =>
 stC r1 o1 (p1 + 1 + 1) (.int .i64 l1) fun s1 =>
 iP m1 0 fun t1 u1 =>
∃ v1, cell? s1 ⟨t1, u1, none⟩ = some (.bool v1) ∧
∃ w1 x1 y1, cell? s1 ⟨t1, u1 + 1, none⟩ = some (.slice w1 x1 y1) ∧
∃ z1, cell? s1 ⟨t1, u1 + 1 + 1, none⟩ = some (.int .i64 z1) ∧
 Ec B 78 #[.agg #[.bool v1, .slice w1 x1 y1, .int .i64 z1]] (retE (fun a2 b2 => ∃ c2, a2 = .bool c2 ∧
((!c2) = true →
 R (.panicked [{ v := .iface 160 (.agg #[.int .i64 (11 : Int)]), recovered := false }]) b2) ∧
((!c2) = false →
 iP m1 0 fun d2 e2 =>
 iP d2 e2 fun f2 g2 => ∃ i2, cell? b2 ⟨f2, g2, none⟩ = some (.bool i2) ∧
 iP m1 0 fun j2 k2 =>
 isP (some ⟨j2, k2 + 1, none⟩) fun l2 m2 => ∃ n2 o2 p2, cS b2 l2 m2 n2 o2 p2 ∧
 iP m1 0 fun q2 r2 =>
 isP (some ⟨q2, r2 + 2, none⟩) fun s2 t2 => ∃ u2, cI b2 s2 t2 .i64 u2 ∧
 Ec B 129 #[.bool i2, .slice n2 o2 p2] (retE (fun v2 w2 => ∃ x2, v2 = .pointer x2 ∧
 sameCells b2 w2 s2 t2 1 ∧ ixW u0 v0 b1 2 fun y2 z2 =>
 iP y2 z2 fun a3 b3 => stC w2 a3 b3 (.pointer x2) fun c3 =>
 stC c3 a3 (b3 + 1) (.int .i64 u2) fun d3 =>
 F67_j62 B R a0 b0 u0 v0 w0 x0 y0 z0 a1 b1 d3)
(fun _ _ => False)) b2))
(pk R)) s1) ∧
((decide (b1 < a1)) = false →
 R (.returned (.slice u0 v0 w0)) t0)
def F67_L : Nat → List (Nat × TypeDesc) := fun i => match i with
  | 3 => [(3, .slice 0), (9, .slice 0), (10, .int .i64), (11, .int .i64)]
  | _ => []
theorem F67_ok {B : World} {R : Ending → Heap → Prop} (n0 : OA) (o0 p0 : Nat) {h : Heap} (H : F67 B R n0 o0 p0 h) : Ec B 91 #[.slice n0 o0 p0] R h :=
 Ek Tryz.func91 (by kernel_rfl) (by kernel_rfl) (by kernel_rfl) F67_L [] (by kernel_rfl) H

/-- plumb/dyadic.Valid -/
def F129_j21 (B : World) (R : Po) (a0 : Bool) (b0 : Heap) : Prop :=
 R (.returned (.bool a0)) b0
def F129_j54 (B : World) (R : Po) (c0 : Bool) (d0 : Heap) : Prop :=
 R (.returned (.bool c0)) d0
def F129 (B : World) (R : Po) (e0 : Bool) (f0 : OA) (g0 i0 : Nat) (j0 : Int) (h : Heap) : Prop :=
 alW h (.cells #[.bool e0, .slice f0 g0 i0, .int .i64 j0] 38) fun k0 l0 =>
 iP k0 0 fun m0 n0 =>
 isP (some ⟨m0, n0 + 1, none⟩) fun o0 p0 => ∃ q0 r0 s0, cS l0 o0 p0 q0 r0 s0 ∧
((decide ((r0 : Int) = (0 : Int))) = true →
 iP k0 0 fun t0 u0 =>
 iP t0 u0 fun v0 w0 => ∃ x0, cell? l0 ⟨v0, w0, none⟩ = some (.bool x0) ∧
((!x0) = true →
 iP k0 0 fun y0 z0 =>
 isP (some ⟨y0, z0 + 2, none⟩) fun a1 b1 => ∃ c1, cI l0 a1 b1 .i64 c1 ∧
 F129_j21 B R (decide (c1 = (0 : Int))) l0) ∧
((!x0) = false →
 F129_j21 B R false l0)) ∧
((decide ((r0 : Int) = (0 : Int))) = false →
 iP k0 0 fun d1 e1 =>
 isP (some ⟨d1, e1 + 1, none⟩) fun f1 g1 => ∃ i1 j1 k1, cS l0 f1 g1 i1 j1 k1 ∧
 Ec B 117 #[.slice i1 j1 k1] (retE (fun l1 m1 => ∃ n1, l1 = .bool n1 ∧
(n1 = true →
 iP k0 0 fun o1 p1 =>
 isP (some ⟨o1, p1 + 1, none⟩) fun q1 r1 => ∃ s1 t1 u1, cS m1 q1 r1 s1 t1 u1 ∧
 ixW s1 t1 (0 : Int) 1 fun v1 w1 =>
 iP v1 w1 fun x1 y1 => ∃ z1, cI m1 x1 y1 .i64 z1 ∧
((decide ((bitsI .and .i64 z1 (1 : Int)) = (1 : Int))) = true →
 iP k0 0 fun a2 b2 =>
 isP (some ⟨a2, b2 + 2, none⟩) fun c2 d2 => ∃ e2, cI m1 c2 d2 .i64 e2 ∧
((decide ((-1048576 : Int) ≤ e2)) = true →
 iP k0 0 fun f2 g2 =>
 isP (some ⟨f2, g2 + 2, none⟩) fun i2 j2 => ∃ k2, cI m1 i2 j2 .i64 k2 ∧
 F129_j54 B R (decide (k2 ≤ (1048576 : Int))) m1) ∧
((decide ((-1048576 : Int) ≤ e2)) = false →
 F129_j54 B R false m1)) ∧
((decide ((bitsI .and .i64 z1 (1 : Int)) = (1 : Int))) = false →
(false = true →
 iP k0 0 fun l2 m2 =>
 isP (some ⟨l2, m2 + 2, none⟩) fun n2 o2 => ∃ p2, cI m1 n2 o2 .i64 p2 ∧
 F129_j54 B R (decide (p2 ≤ (1048576 : Int))) m1) ∧
(false = false →
 F129_j54 B R false m1))) ∧
(n1 = false →
(false = true →
 iP k0 0 fun q2 r2 =>
 isP (some ⟨q2, r2 + 2, none⟩) fun s2 t2 => ∃ u2, cI m1 s2 t2 .i64 u2 ∧
((decide ((-1048576 : Int) ≤ u2)) = true →
 iP k0 0 fun v2 w2 =>
 isP (some ⟨v2, w2 + 2, none⟩) fun x2 y2 => ∃ z2, cI m1 x2 y2 .i64 z2 ∧
 F129_j54 B R (decide (z2 ≤ (1048576 : Int))) m1) ∧
((decide ((-1048576 : Int) ≤ u2)) = false →
 F129_j54 B R false m1)) ∧
(false = false →
(false = true →
 iP k0 0 fun a3 b3 =>
 isP (some ⟨a3, b3 + 2, none⟩) fun c3 d3 => ∃ e3, cI m1 c3 d3 .i64 e3 ∧
 F129_j54 B R (decide (e3 ≤ (1048576 : Int))) m1) ∧
(false = false →
 F129_j54 B R false m1))))
(pk R)) l0)
def F129_L : Nat → List (Nat × TypeDesc) := fun _ => []
theorem F129_ok {B : World} {R : Ending → Heap → Prop} (e0 : Bool) (f0 : OA) (g0 i0 : Nat) (j0 : Int) {h : Heap} (H : F129 B R e0 f0 g0 i0 j0 h) : Ec B 78 #[.agg #[.bool e0, .slice f0 g0 i0, .int .i64 j0]] R h :=
 Ek Tryz.func78 (by kernel_rfl) (by kernel_rfl) (by kernel_rfl) F129_L [] (by kernel_rfl) H

/-- plumb/dyadic.whole -/
def F130_j40 (B : World) (R : Po) (a0 : Lp) (b0 : Nat) (c0 : OA) (d0 : Heap) : Prop :=
 R (.returned (.pointer c0)) d0
def F130 (B : World) (R : Po) (e0 : Bool) (f0 : OA) (g0 i0 : Nat) (h : Heap) : Prop :=
 alW h (.cells #[.bool false, .slice none 0 0] 61) fun j0 k0 =>
∃ a0 : Lp, ∃ l0, a0 l0 [.bool e0, .slice f0 g0 i0, .pointer (some ⟨j0, 0, none⟩), .int .i64 (g0 : Int), .int .i64 (0 : Int)] k0 ∧
∀ (b0 : Nat) (m0 : Heap) (n0 : Bool) (o0 : OA) (p0 q0 : Nat) (r0 : OA) (s0 t0 : Int), a0 b0 [.bool n0, .slice o0 p0 q0, .pointer r0, .int .i64 s0, .int .i64 t0] m0 → ∀ _r : Nat → Value,
((decide (t0 < s0)) = true →
 Ec B 68 #[.pointer r0, .pointer r0, .int .u64 (30 : Int)] (retE (fun u0 v0 => ∃ w0, u0 = .pointer w0 ∧
 ixW o0 p0 (IntKind.i64.wrap ((IntKind.i64.wrap ((p0 : Int) - (1 : Int))) - t0)) 1 fun x0 y0 =>
 iP x0 y0 fun z0 a1 => ∃ b1, cI v0 z0 a1 .i64 b1 ∧
 Ec B 27 #[.int .i64 b1] (retE (fun c1 d1 => ∃ e1, c1 = .pointer e1 ∧
 Ec B 118 #[.pointer r0, .pointer r0, .pointer e1] (retE (fun f1 g1 => ∃ i1, f1 = .pointer i1 ∧
∃ j1, j1 < b0 ∧ a0 j1 [.bool n0, .slice o0 p0 q0, .pointer r0, .int .i64 s0, .int .i64 (IntKind.i64.wrap (t0 + (1 : Int)))] g1)
(pk R)) d1)
(pk R)) v0)
(pk R)) m0) ∧
((decide (t0 < s0)) = false →
(n0 = true →
 Ec B 119 #[.pointer r0, .pointer r0] (retE (fun k1 l1 => ∃ m1, k1 = .pointer m1 ∧
 F130_j40 B R a0 b0 r0 l1)
(pk R)) m0) ∧
(n0 = false →
 F130_j40 B R a0 b0 r0 m0))
def F130_L : Nat → List (Nat × TypeDesc) := fun i => match i with
  | 3 => [(0, .bool), (1, .slice 0), (5, .pointer 0), (9, .int .i64), (10, .int .i64)]
  | _ => []
theorem F130_ok {B : World} {R : Ending → Heap → Prop} (e0 : Bool) (f0 : OA) (g0 i0 : Nat) {h : Heap} (H : F130 B R e0 f0 g0 i0 h) : Ec B 129 #[.bool e0, .slice f0 g0 i0] R h :=
 Ek Tryz.func129 (by kernel_rfl) (by kernel_rfl) (by kernel_rfl) F130_L [] (by kernel_rfl) H

/-- plumb/nat.Valid -/
def F174_j15 (B : World) (R : Po) (a0 : Lp) (b0 : Nat) (c0 : OA) (d0 e0 : Nat) (f0 : OA) (g0 i0 : Nat) (j0 k0 : Int) (l0 : Bool) (m0 : Heap) : Prop :=
(l0 = true →
 R (.returned (.bool false)) m0) ∧
(l0 = false →
 ∃ n0, n0 < b0 ∧ a0 n0 [.slice c0 d0 e0, .slice f0 g0 i0, .int .i64 j0, .int .i64 (IntKind.i64.wrap (k0 + (1 : Int)))] m0)
def F174_j23 (B : World) (R : Po) (a0 : Lp) (b0 : Nat) (o0 : Bool) (p0 : Heap) : Prop :=
 R (.returned (.bool o0)) p0
def F174 (B : World) (R : Po) (q0 : OA) (r0 s0 : Nat) (h : Heap) : Prop :=
 ∃ a0 : Lp, ∃ t0, a0 t0 [.slice q0 r0 s0, .slice q0 r0 s0, .int .i64 (r0 : Int), .int .i64 (0 : Int)] h ∧
∀ (b0 : Nat) (u0 : Heap) (v0 : OA) (w0 x0 : Nat) (y0 : OA) (z0 a1 : Nat) (b1 c1 : Int), a0 b0 [.slice v0 w0 x0, .slice y0 z0 a1, .int .i64 b1, .int .i64 c1] u0 → ∀ _r : Nat → Value,
((decide (c1 < b1)) = true →
 ixW y0 z0 c1 1 fun d1 e1 =>
 iP d1 e1 fun f1 g1 => ∃ i1, cI u0 f1 g1 .i64 i1 ∧
((decide (i1 < (0 : Int))) = true →
 F174_j15 B R a0 b0 v0 w0 x0 y0 z0 a1 b1 c1 true u0) ∧
((decide (i1 < (0 : Int))) = false →
 F174_j15 B R a0 b0 v0 w0 x0 y0 z0 a1 b1 c1 (decide ((1073741824 : Int) ≤ i1)) u0)) ∧
((decide (c1 < b1)) = false →
((decide ((w0 : Int) ≤ (2000 : Int))) = true →
((decide ((w0 : Int) = (0 : Int))) = true →
 F174_j23 B R a0 b0 true u0) ∧
((decide ((w0 : Int) = (0 : Int))) = false →
 ixW v0 w0 (IntKind.i64.wrap ((w0 : Int) - (1 : Int))) 1 fun j1 k1 =>
 iP j1 k1 fun l1 m1 => ∃ n1, cI u0 l1 m1 .i64 n1 ∧
 F174_j23 B R a0 b0 (!decide (n1 = (0 : Int))) u0)) ∧
((decide ((w0 : Int) ≤ (2000 : Int))) = false →
 F174_j23 B R a0 b0 false u0))
def F174_L : Nat → List (Nat × TypeDesc) := fun i => match i with
  | 2 => [(0, .slice 0), (5, .slice 0), (6, .int .i64), (7, .int .i64)]
  | _ => []
theorem F174_ok {B : World} {R : Ending → Heap → Prop} (q0 : OA) (r0 s0 : Nat) {h : Heap} (H : F174 B R q0 r0 s0 h) : Ec B 117 #[.slice q0 r0 s0] R h :=
 Ek Tryz.func117 (by kernel_rfl) (by kernel_rfl) (by kernel_rfl) F174_L [] (by kernel_rfl) H

/-- plumb/bits.Class -/
def F17 (B : World) (R : Po) (a0 : Int) (h : Heap) : Prop :=
  0 ≤ (52 : Int) ∧
 Ec B 44 #[.int .i64 (bitsI .and .i64 (Int.fdiv a0 (2 ^ min (Int.toNat (52 : Int)) IntKind.i64.bits)) (2047 : Int)), .int .i64 (bitsI .and .i64 a0 (4503599627370495 : Int)), .int .i64 (2047 : Int)] (retE (fun b0 c0 => ∃ d0, b0 = .int .i64 d0 ∧
 R (.returned (.int .i64 d0)) c0)
(pk R)) h
def F17_L : Nat → List (Nat × TypeDesc) := fun _ => []
theorem F17_ok {B : World} {R : Ending → Heap → Prop} (a0 : Int) {h : Heap} (H : F17 B R a0 h) : Ec B 36 #[.int .i64 a0] R h :=
 Ek Tryz.func36 (by kernel_rfl) (by kernel_rfl) (by kernel_rfl) F17_L [] (by kernel_rfl) H

/-- plumb/bits.classed -/
def F53_j11 (B : World) (R : Po) (a0 : Int) (b0 : Heap) : Prop :=
 R (.returned (.int .i64 a0)) b0
def F53_j14 (B : World) (R : Po) (c0 : Int) (d0 : Heap) : Prop :=
 F53_j11 B R c0 d0
def F53_j22 (B : World) (R : Po) (e0 : Int) (f0 : Heap) : Prop :=
 F53_j14 B R e0 f0
def F53_j25 (B : World) (R : Po) (g0 : Int) (i0 : Heap) : Prop :=
 F53_j22 B R g0 i0
def F53_j17 (B : World) (R : Po) (j0 k0 : Int) (l0 : Bool) (m0 : Heap) : Prop :=
(l0 = true →
 F53_j22 B R (0 : Int) m0) ∧
(l0 = false →
((decide (j0 = (0 : Int))) = true →
 F53_j25 B R (1 : Int) m0) ∧
((decide (j0 = (0 : Int))) = false →
 F53_j25 B R k0 m0))
def F53_j4 (B : World) (R : Po) (n0 o0 p0 q0 : Int) (r0 : Bool) (s0 : Heap) : Prop :=
(r0 = true →
 F53_j11 B R (4 : Int) s0) ∧
(r0 = false →
((decide (n0 = p0)) = true →
 F53_j14 B R (3 : Int) s0) ∧
((decide (n0 = p0)) = false →
((decide (n0 = (0 : Int))) = true →
 F53_j17 B R n0 q0 (decide (o0 = (0 : Int))) s0) ∧
((decide (n0 = (0 : Int))) = false →
 F53_j17 B R n0 q0 false s0)))
def F53 (B : World) (R : Po) (t0 u0 v0 : Int) (h : Heap) : Prop :=
((decide (t0 = v0)) = true →
 F53_j4 B R t0 u0 v0 (2 : Int) (!decide (u0 = (0 : Int))) h) ∧
((decide (t0 = v0)) = false →
 F53_j4 B R t0 u0 v0 (2 : Int) false h)
def F53_L : Nat → List (Nat × TypeDesc) := fun _ => []
theorem F53_ok {B : World} {R : Ending → Heap → Prop} (t0 u0 v0 : Int) {h : Heap} (H : F53 B R t0 u0 v0 h) : Ec B 44 #[.int .i64 t0, .int .i64 u0, .int .i64 v0] R h :=
 Ek Tryz.func44 (by kernel_rfl) (by kernel_rfl) (by kernel_rfl) F53_L [] (by kernel_rfl) H

/-- plumb/bits.Float -/
def F54 (B : World) (R : Po) (a0 : Int) (h : Heap) : Prop :=
 Ec B 64 #[.int .u64 (IntKind.u64.wrap a0)] (retE (fun b0 c0 => ∃ d0, b0 = .float .f64 d0 ∧
 R (.returned (.float .f64 d0)) c0)
(pk R)) h
def F54_L : Nat → List (Nat × TypeDesc) := fun _ => []
theorem F54_ok {B : World} {R : Ending → Heap → Prop} (a0 : Int) {h : Heap} (H : F54 B R a0 h) : Ec B 31 #[.int .i64 a0] R h :=
 Ek Tryz.func31 (by kernel_rfl) (by kernel_rfl) (by kernel_rfl) F54_L [] (by kernel_rfl) H

/-- plumb/bits.Of -/
def F56 (B : World) (R : Po) (a0 : Nat) (h : Heap) : Prop :=
((FloatKind.f64.format.order a0 a0 != some .eq) = true →
 R (.returned (.int .i64 (9221120237041090561 : Int))) h) ∧
((FloatKind.f64.format.order a0 a0 != some .eq) = false →
 Ec B 56 #[.float .f64 a0] (retE (fun b0 c0 => ∃ d0, b0 = .int .u64 d0 ∧
 R (.returned (.int .i64 (IntKind.i64.wrap d0))) c0)
(pk R)) h)
def F56_L : Nat → List (Nat × TypeDesc) := fun _ => []
theorem F56_ok {B : World} {R : Ending → Heap → Prop} (a0 : Nat) {h : Heap} (H : F56 B R a0 h) : Ec B 25 #[.float .f64 a0] R h :=
 Ek Tryz.func25 (by kernel_rfl) (by kernel_rfl) (by kernel_rfl) F56_L [] (by kernel_rfl) H

/-- plumb/bits.Neg -/
def F99 (B : World) (R : Po) (a0 : Int) (h : Heap) : Prop :=
 Ec B 36 #[.int .i64 a0] (retE (fun b0 c0 => ∃ d0, b0 = .int .i64 d0 ∧
((decide (d0 = (4 : Int))) = true →
 R (.returned (.int .i64 (9221120237041090561 : Int))) c0) ∧
((decide (d0 = (4 : Int))) = false →
 R (.returned (.int .i64 (bitsI .xor .i64 a0 (-9223372036854775808 : Int)))) c0))
(pk R)) h
def F99_L : Nat → List (Nat × TypeDesc) := fun _ => []
theorem F99_ok {B : World} {R : Ending → Heap → Prop} (a0 : Int) {h : Heap} (H : F99 B R a0 h) : Ec B 15 #[.int .i64 a0] R h :=
 Ek Tryz.func15 (by kernel_rfl) (by kernel_rfl) (by kernel_rfl) F99_L [] (by kernel_rfl) H

/-- math.IsInf -/
def F118_j8 (B : World) (R : Po) (a0 : Nat) (b0 : Heap) : Prop :=
 R (.returned (.bool (FloatKind.f64.format.order a0 9218868437227405311 == some .gt))) b0
def F118_j11 (B : World) (R : Po) (c0 : Nat) (d0 : Heap) : Prop :=
 F118_j8 B R c0 d0
def F118 (B : World) (R : Po) (e0 : Nat) (f0 : Int) (h : Heap) : Prop :=
((decide (f0 = (0 : Int))) = true →
 Ec B 35 #[.float .f64 e0] (retE (fun g0 i0 => ∃ j0, g0 = .float .f64 j0 ∧
 F118_j8 B R j0 i0)
(pk R)) h) ∧
((decide (f0 = (0 : Int))) = false →
((decide (f0 < (0 : Int))) = true →
 F118_j11 B R (Op.negFloat .f64 e0) h) ∧
((decide (f0 < (0 : Int))) = false →
 F118_j11 B R e0 h))
def F118_L : Nat → List (Nat × TypeDesc) := fun _ => []
theorem F118_ok {B : World} {R : Ending → Heap → Prop} (e0 : Nat) (f0 : Int) {h : Heap} (H : F118 B R e0 f0 h) : Ec B 65 #[.float .f64 e0, .int .i64 f0] R h :=
 Ek Tryz.func65 (by kernel_rfl) (by kernel_rfl) (by kernel_rfl) F118_L [] (by kernel_rfl) H
end Go.Proofs
