import Derived.Test.YtpnfpefcjeafbaaGreatFmtA09
import Derived.Test.YtpnfpefcjeafbaaGreatFmtA40
/- Here stand lemmas and contracts, in the order in which they are used. -/
set_option linter.unusedVariables false
namespace Go.Proofs
open Go Go.Eng
/-- (plumb/round.number).to32 -/
def F1333_j123 (B : World) (R : Po) (a0 : Int) (b0 : Bool) (c0 : Heap) : Prop :=
 R (.returned (.tuple #[.int .i64 a0, .bool b0])) c0
def F1333_j132 (B : World) (R : Po) (d0 : Int) (e0 : Bool) (f0 : Heap) : Prop :=
 R (.returned (.tuple #[.int .i64 d0, .bool e0])) f0
def F1333_j12 (B : World) (R : Po) (g0 : OA) (i0 j0 : Int) (k0 : Heap) : Prop :=
((!decide (i0 = (0 : Int))) = true →
 F1333_j123 B R j0 true k0) ∧
((!decide (i0 = (0 : Int))) = false →
 isP g0 fun l0 m0 =>
 isP (some ⟨l0, m0 + 2, none⟩) fun n0 o0 => ∃ p0, cell? k0 ⟨n0, o0, none⟩ = some (.bool p0) ∧
 F1333_j132 B R j0 p0 k0)
def F1333_j9 (B : World) (R : Po) (q0 r0 : OA) (s0 t0 : Int) (u0 : Bool) (v0 : Heap) : Prop :=
(u0 = true →
 isP r0 fun w0 x0 =>
 iP w0 x0 fun y0 z0 => ∃ a1, cell? v0 ⟨y0, z0, none⟩ = some (.pointer a1) ∧
 Ec B 54 #[.pointer a1] (retE (fun b1 c1 => ∃ d1, b1 = .int .i64 d1 ∧
((decide ((0 : Int) < d1)) = true →
 F1333_j12 B R q0 s0 (0 : Int) c1) ∧
((decide ((0 : Int) < d1)) = false →
 F1333_j12 B R q0 s0 (2147483648 : Int) c1))
(pk R)) v0) ∧
(u0 = false →
 F1333_j12 B R q0 s0 t0 v0)
def F1333_j96 (B : World) (R : Po) (e1 f1 : OA) (g1 i1 : Int) (j1 : Bool) (k1 : Heap) : Prop :=
(j1 = true →
 F1333_j9 B R e1 f1 g1 i1 true k1) ∧
(j1 = false →
 F1333_j9 B R e1 f1 g1 i1 (decide (i1 = (2147483648 : Int))) k1)
def F1333_j8 (B : World) (R : Po) (l1 m1 : OA) (n1 o1 : Int) (p1 : Heap) : Prop :=
((decide (o1 = (0 : Int))) = true →
 isP m1 fun q1 r1 =>
 iP q1 r1 fun s1 t1 => ∃ u1, cell? p1 ⟨s1, t1, none⟩ = some (.pointer u1) ∧
 Ec B 54 #[.pointer u1] (retE (fun v1 w1 => ∃ x1, v1 = .int .i64 x1 ∧
 F1333_j96 B R l1 m1 n1 o1 (decide (x1 < (0 : Int))) w1)
(pk R)) p1) ∧
((decide (o1 = (0 : Int))) = false →
 F1333_j96 B R l1 m1 n1 o1 false p1)
def F1333 (B : World) (R : Po) (y1 : OA) (z1 : Int) (a2 : Bool) (b2 : Value) (h : Heap) : Prop :=
 alW h (.cells #[.pointer y1, .int .i64 z1, .bool a2] 46) fun c2 d2 =>
 alW d2 (.cells #[b2] 83) fun e2 f2 =>
 iP c2 0 fun g2 i2 =>
∃ j2, cell? f2 ⟨g2, i2, none⟩ = some (.pointer j2) ∧
∃ k2, cell? f2 ⟨g2, i2 + 1, none⟩ = some (.int .i64 k2) ∧
∃ l2, cell? f2 ⟨g2, i2 + 1 + 1, none⟩ = some (.bool l2) ∧
 Ec B 80 #[.agg #[.pointer j2, .int .i64 k2, .bool l2]] (retE (fun m2 n2 => ∃ o2 p2 q2, m2 = .agg #[.pointer o2, .int .i64 p2, .bool q2] ∧
 alW n2 (.cells #[.pointer none, .int .i64 0, .bool false] 46) fun r2 s2 =>
 iP r2 0 fun t2 u2 => stC s2 t2 u2 (.pointer o2) fun v2 =>
 stC v2 t2 (u2 + 1) (.int .i64 p2) fun w2 =>
 stC w2 t2 (u2 + 1 + 1) (.bool q2) fun x2 =>
 alW x2 (.cells #[.int .u32 0, .int .u8 0, .int .i8 0, .int .u8 0, .bool false, .slice none 0 0, .int .i32 0] 120) fun y2 z2 =>
 iP r2 0 fun a3 b3 =>
 iP a3 b3 fun c3 d3 => ∃ e3, cell? z2 ⟨c3, d3, none⟩ = some (.pointer e3) ∧
 Ec B 81 #[.pointer (some ⟨y2, 0, none⟩), .pointer e3] (retE (fun f3 g3 => ∃ i3, f3 = .pointer i3 ∧
 iP r2 0 fun j3 k3 =>
 isP (some ⟨j3, k3 + 1, none⟩) fun l3 m3 => ∃ n3, cI g3 l3 m3 .i64 n3 ∧
 Ec B 82 #[.pointer i3, .pointer i3, .int .i64 (if (4194304 : Int) < (if (-4194304 : Int) > n3 then (-4194304 : Int) else n3) then (4194304 : Int) else (if (-4194304 : Int) > n3 then (-4194304 : Int) else n3))] (retE (fun o3 p3 => ∃ q3, o3 = .pointer q3 ∧
 Ec B 83 #[.pointer i3] (retE (fun r3 s3 => ∃ t3 u3, r3 = .tuple #[.float .f32 t3, .int .i8 u3] ∧
 Ec B 77 #[.float .f32 t3] (retE (fun v3 w3 => ∃ x3, v3 = .int .i64 x3 ∧
((!decide (u3 = (0 : Int))) = true →
 iP e2 0 fun y3 z3 =>
 iP y3 z3 fun a4 b4 => ∃ c4, cell? w3 ⟨a4, b4, none⟩ = some c4 ∧
 iP r2 0 fun d4 e4 =>
 iP d4 e4 fun f4 g4 => ∃ i4, cell? w3 ⟨f4, g4, none⟩ = some (.pointer i4) ∧
 Ec B 54 #[.pointer i4] (retE (fun j4 k4 => ∃ l4, j4 = .int .i64 l4 ∧
 sameCells w3 k4 a4 b4 1 ∧ Ev B c4 #[.int .i64 x3, .bool (decide (l4 < (0 : Int))), .bool (decide (u3 = (1 : Int))), .func (.func 84) #[] #[], .func (.func 85) #[] #[]] (retE (fun m4 n4 => ∃ o4, m4 = .int .i64 o4 ∧
 F1333_j8 B R (some ⟨c2, 0, none⟩) (some ⟨r2, 0, none⟩) u3 o4 n4)
(fun _ _ => False)) k4)
(fun _ _ => False)) w3) ∧
((!decide (u3 = (0 : Int))) = false →
 F1333_j12 B R (some ⟨c2, 0, none⟩) u3 x3 w3))
(pk R)) s3)
(pk R)) p3)
(pk R)) g3)
(pk R)) z2)
(pk R)) f2
def F1333_L : Nat → List (Nat × TypeDesc) := fun _ => []
def F1333_J (B : World) (R : Po) : Nat → Option JT := fun i => match i with
  | 8 => some ⟨[(2, .pointer 0), (6, .pointer 0), (9, .int .i8), (10, .int .i64)], fun s v h => match s, v with
    | [], [.pointer l1, .pointer m1, .int _ n1, .int _ o1] => F1333_j8 B R l1 m1 n1 o1 h
    | _, _ => False⟩
  | 9 => some ⟨[(2, .pointer 0), (6, .pointer 0), (9, .int .i8), (10, .int .i64), (54, .bool)], fun s v h => match s, v with
    | [], [.pointer q0, .pointer r0, .int _ s0, .int _ t0, .bool u0] => F1333_j9 B R q0 r0 s0 t0 u0 h
    | _, _ => False⟩
  | 12 => some ⟨[(2, .pointer 0), (9, .int .i8), (10, .int .i64)], fun s v h => match s, v with
    | [], [.pointer g0, .int _ i0, .int _ j0] => F1333_j12 B R g0 i0 j0 h
    | _, _ => False⟩
  | _ => none
theorem F1333_ok {B : World} {R : Ending → Heap → Prop} (y1 : OA) (z1 : Int) (a2 : Bool) (b2 : Value) {h : Heap} (H : F1333 B R y1 z1 a2 b2 h) : Ec B 50 #[.agg #[.pointer y1, .int .i64 z1, .bool a2], .agg #[b2]] R h :=
 Ej Tryz.func50 (by kernel_rfl) (by kernel_rfl) (by kernel_rfl) F1333_L (F1333_J B R) [] (by kernel_rfl) (by kernel_rfl) H

/-- (*math/big.Float).Float32 -/
def F1335_j33 (B : World) (R : Po) (a0 : OA) (b0 c0 d0 : Int) (e0 : Heap) : Prop :=
 isP a0 fun f0 g0 =>
 isP (some ⟨f0, g0 + 2, none⟩) fun i0 j0 => ∃ k0, cI e0 i0 j0 .i8 k0 ∧
 Ec B 76 #[.int .u32 (bitsI .or .u32 (bitsI .or .u32 b0 c0) d0)] (retE (fun l0 m0 => ∃ n0, l0 = .float .f32 n0 ∧
 sameCells e0 m0 i0 j0 1 ∧ R (.returned (.tuple #[.float .f32 n0, .int .i8 k0])) m0)
(fun _ _ => False)) e0
def F1335_j28 (B : World) (R : Po) (o0 : Int) (p0 : OA) (q0 r0 : Int) (s0 : Heap) : Prop :=
((decide (o0 < (-126 : Int))) = true →
 isP p0 fun t0 u0 =>
 isP (some ⟨t0, u0 + 5, none⟩) fun v0 w0 => ∃ x0 y0 z0, cS s0 v0 w0 x0 y0 z0 ∧
 Ec B 127 #[.slice x0 y0 z0] (retE (fun a1 b1 => ∃ c1, a1 = .int .u32 c1 ∧
0 ≤ (IntKind.u64.wrap (IntKind.i64.wrap ((32 : Int) - (IntKind.i64.wrap ((150 : Int) + (IntKind.i64.wrap o0)))))) ∧
 F1335_j33 B R p0 q0 r0 (Int.fdiv c1 (2 ^ min (Int.toNat (IntKind.u64.wrap (IntKind.i64.wrap ((32 : Int) - (IntKind.i64.wrap ((150 : Int) + (IntKind.i64.wrap o0))))))) IntKind.u32.bits)) b1)
(pk R)) s0) ∧
((decide (o0 < (-126 : Int))) = false →
 0 ≤ (23 : Int) ∧
 isP p0 fun d1 e1 =>
 isP (some ⟨d1, e1 + 5, none⟩) fun f1 g1 => ∃ i1 j1 k1, cS s0 f1 g1 i1 j1 k1 ∧
 Ec B 127 #[.slice i1 j1 k1] (retE (fun l1 m1 => ∃ n1, l1 = .int .u32 n1 ∧
0 ≤ (8 : Int) ∧
 F1335_j33 B R p0 q0 (IntKind.u32.wrap ((IntKind.u32.wrap (IntKind.i32.wrap (o0 + (127 : Int)))) * 2 ^ min (Int.toNat (23 : Int)) IntKind.u32.bits)) (bitsI .and .u32 (Int.fdiv n1 (2 ^ min (Int.toNat (8 : Int)) IntKind.u32.bits)) (8388607 : Int)) m1)
(pk R)) s0)
def F1335_j22 (B : World) (R : Po) (o1 : OA) (p1 : Int) (q1 : OA) (r1 : Bool) (s1 : Heap) : Prop :=
(r1 = true →
 isP o1 fun t1 u1 =>
 iP t1 u1 fun v1 w1 =>
 isP (some ⟨v1, w1 + 4, none⟩) fun x1 y1 => ∃ z1, cell? s1 ⟨x1, y1, none⟩ = some (.bool z1) ∧
(z1 = true →
 Ec B 98 #[.int .i64 (-1 : Int)] (retE (fun a2 b2 => ∃ c2, a2 = .float .f64 c2 ∧
 cvW .f64 c2 .f32 fun d2 =>
 R (.returned (.tuple #[.float .f32 d2, .int .i8 (-1 : Int)])) b2)
(pk R)) s1) ∧
(z1 = false →
 Ec B 98 #[.int .i64 (1 : Int)] (retE (fun e2 f2 => ∃ g2, e2 = .float .f64 g2 ∧
 cvW .f64 g2 .f32 fun i2 =>
 R (.returned (.tuple #[.float .f32 i2, .int .i8 (1 : Int)])) f2)
(pk R)) s1)) ∧
(r1 = false →
 isP o1 fun j2 k2 =>
 iP j2 k2 fun l2 m2 =>
 isP (some ⟨l2, m2 + 4, none⟩) fun n2 o2 => ∃ p2, cell? s1 ⟨n2, o2, none⟩ = some (.bool p2) ∧
(p2 = true →
 F1335_j28 B R p1 q1 (2147483648 : Int) (0 : Int) s1) ∧
(p2 = false →
 F1335_j28 B R p1 q1 (0 : Int) (0 : Int) s1))
def F1335_j17 (B : World) (R : Po) (q2 : OA) (r2 : Int) (s2 : Heap) : Prop :=
 alW s2 (.cells #[.int .u32 0, .int .u8 0, .int .i8 0, .int .u8 0, .bool false, .slice none 0 0, .int .i32 0] 120) fun t2 u2 =>
 iP t2 0 fun v2 w2 =>
 iP v2 w2 fun x2 y2 => stC u2 x2 y2 (.int .u32 (IntKind.u32.wrap r2)) fun z2 =>
 Ec B 126 #[.pointer (some ⟨t2, 0, none⟩), .pointer q2] (retE (fun a3 b3 => ∃ c3, a3 = .pointer c3 ∧
 iP t2 0 fun d3 e3 =>
 isP (some ⟨d3, e3 + 6, none⟩) fun f3 g3 => ∃ i3, cI b3 f3 g3 .i32 i3 ∧
 iP t2 0 fun j3 k3 =>
 isP (some ⟨j3, k3 + 3, none⟩) fun l3 m3 => ∃ n3, cI b3 l3 m3 .u8 n3 ∧
((decide (n3 = (2 : Int))) = true →
 F1335_j22 B R q2 (IntKind.i32.wrap (i3 - (1 : Int))) (some ⟨t2, 0, none⟩) true b3) ∧
((decide (n3 = (2 : Int))) = false →
 F1335_j22 B R q2 (IntKind.i32.wrap (i3 - (1 : Int))) (some ⟨t2, 0, none⟩) (decide ((127 : Int) < (IntKind.i32.wrap (i3 - (1 : Int))))) b3))
(pk R)) z2
def F1335_j9 (B : World) (R : Po) (o3 : OA) (p3 : Int) (q3 : Bool) (r3 : Heap) : Prop :=
(q3 = true →
 isP o3 fun s3 t3 =>
 iP s3 t3 fun u3 v3 =>
 isP (some ⟨u3, v3 + 4, none⟩) fun w3 x3 => ∃ y3, cell? r3 ⟨w3, x3, none⟩ = some (.bool y3) ∧
(y3 = true →
 R (.returned (.tuple #[.float .f32 (Op.negFloat .f32 0), .int .i8 (1 : Int)])) r3) ∧
(y3 = false →
 R (.returned (.tuple #[.float .f32 0, .int .i8 (-1 : Int)])) r3)) ∧
(q3 = false →
((decide (p3 = (0 : Int))) = true →
 isP o3 fun z3 a4 =>
 iP z3 a4 fun b4 c4 =>
 isP (some ⟨b4, c4 + 4, none⟩) fun d4 e4 => ∃ f4, cell? r3 ⟨d4, e4, none⟩ = some (.bool f4) ∧
(f4 = true →
 R (.returned (.tuple #[.float .f32 2147483649, .int .i8 (-1 : Int)])) r3) ∧
(f4 = false →
 R (.returned (.tuple #[.float .f32 1, .int .i8 (1 : Int)])) r3)) ∧
((decide (p3 = (0 : Int))) = false →
 F1335_j17 B R o3 p3 r3))
def F1335_j2 (B : World) (R : Po) (g4 : OA) (i4 : Heap) : Prop :=
 isP g4 fun j4 k4 =>
 iP j4 k4 fun l4 m4 =>
 isP (some ⟨l4, m4 + 3, none⟩) fun n4 o4 => ∃ p4, cI i4 n4 o4 .u8 p4 ∧
((decide (p4 = (1 : Int))) = true →
 isP g4 fun q4 r4 =>
 iP q4 r4 fun s4 t4 =>
 isP (some ⟨s4, t4 + 6, none⟩) fun u4 v4 => ∃ w4, cI i4 u4 v4 .i32 w4 ∧
((decide ((IntKind.i32.wrap (w4 - (1 : Int))) < (-126 : Int))) = true →
((decide ((IntKind.i64.wrap ((150 : Int) + (IntKind.i64.wrap (IntKind.i32.wrap (w4 - (1 : Int)))))) < (0 : Int))) = true →
 F1335_j9 B R g4 (IntKind.i64.wrap ((150 : Int) + (IntKind.i64.wrap (IntKind.i32.wrap (w4 - (1 : Int)))))) true i4) ∧
((decide ((IntKind.i64.wrap ((150 : Int) + (IntKind.i64.wrap (IntKind.i32.wrap (w4 - (1 : Int)))))) < (0 : Int))) = false →
((decide ((IntKind.i64.wrap ((150 : Int) + (IntKind.i64.wrap (IntKind.i32.wrap (w4 - (1 : Int)))))) = (0 : Int))) = true →
 isP g4 fun x4 y4 =>
 iP x4 y4 fun z4 a5 =>
 isP (some ⟨z4, a5 + 5, none⟩) fun b5 c5 => ∃ d5 e5 f5, cS i4 b5 c5 d5 e5 f5 ∧
 isP g4 fun g5 i5 =>
 iP g5 i5 fun j5 k5 =>
 isP (some ⟨j5, k5 + 5, none⟩) fun l5 m5 => ∃ n5 o5 p5, cS i4 l5 m5 n5 o5 p5 ∧
 Ec B 125 #[.slice d5 e5 f5, .int .u64 (IntKind.u64.wrap ((IntKind.u64.wrap ((IntKind.u64.wrap (o5 : Int)) * (64 : Int))) - (1 : Int)))] (retE (fun q5 r5 => ∃ s5, q5 = .int .u64 s5 ∧
 F1335_j9 B R g4 (IntKind.i64.wrap ((150 : Int) + (IntKind.i64.wrap (IntKind.i32.wrap (w4 - (1 : Int)))))) (decide (s5 = (0 : Int))) r5)
(fun _ _ => False)) i4) ∧
((decide ((IntKind.i64.wrap ((150 : Int) + (IntKind.i64.wrap (IntKind.i32.wrap (w4 - (1 : Int)))))) = (0 : Int))) = false →
 F1335_j9 B R g4 (IntKind.i64.wrap ((150 : Int) + (IntKind.i64.wrap (IntKind.i32.wrap (w4 - (1 : Int)))))) false i4))) ∧
((decide ((IntKind.i32.wrap (w4 - (1 : Int))) < (-126 : Int))) = false →
 F1335_j17 B R g4 (24 : Int) i4)) ∧
((decide (p4 = (1 : Int))) = false →
((decide (p4 = (0 : Int))) = true →
 isP g4 fun t5 u5 =>
 iP t5 u5 fun v5 w5 =>
 isP (some ⟨v5, w5 + 4, none⟩) fun x5 y5 => ∃ z5, cell? i4 ⟨x5, y5, none⟩ = some (.bool z5) ∧
(z5 = true →
 R (.returned (.tuple #[.float .f32 (Op.negFloat .f32 0), .int .i8 (0 : Int)])) i4) ∧
(z5 = false →
 R (.returned (.tuple #[.float .f32 0, .int .i8 (0 : Int)])) i4)) ∧
((decide (p4 = (0 : Int))) = false →
((decide (p4 = (2 : Int))) = true →
 isP g4 fun a6 b6 =>
 iP a6 b6 fun c6 d6 =>
 isP (some ⟨c6, d6 + 4, none⟩) fun e6 f6 => ∃ g6, cell? i4 ⟨e6, f6, none⟩ = some (.bool g6) ∧
(g6 = true →
 Ec B 98 #[.int .i64 (-1 : Int)] (retE (fun i6 j6 => ∃ k6, i6 = .float .f64 k6 ∧
 cvW .f64 k6 .f32 fun l6 =>
 R (.returned (.tuple #[.float .f32 l6, .int .i8 (0 : Int)])) j6)
(pk R)) i4) ∧
(g6 = false →
 Ec B 98 #[.int .i64 (1 : Int)] (retE (fun m6 n6 => ∃ o6, m6 = .float .f64 o6 ∧
 cvW .f64 o6 .f32 fun p6 =>
 R (.returned (.tuple #[.float .f32 p6, .int .i8 (0 : Int)])) n6)
(pk R)) i4)) ∧
((decide (p4 = (2 : Int))) = false →
 R (.panicked [{ v := .iface 9 (.string ⟨#[117, 110, 114, 101, 97, 99, 104, 97, 98, 108, 101]⟩), recovered := false }]) i4)))
def F1335 (B : World) (R : Po) (q6 : OA) (h : Heap) : Prop :=
(false = true →
 Ec B 123 #[.pointer q6] (retE (fun r6 s6 => r6 = .tuple #[] ∧
 F1335_j2 B R q6 s6)
(pk R)) h) ∧
(false = false →
 F1335_j2 B R q6 h)
def F1335_L : Nat → List (Nat × TypeDesc) := fun _ => []
def F1335_J (B : World) (R : Po) : Nat → Option JT := fun i => match i with
  | 2 => some ⟨[(0, .pointer 0)], fun s v h => match s, v with
    | [], [.pointer g4] => F1335_j2 B R g4 h
    | _, _ => False⟩
  | 9 => some ⟨[(0, .pointer 0), (5, .int .i64), (51, .bool)], fun s v h => match s, v with
    | [], [.pointer o3, .int _ p3, .bool q3] => F1335_j9 B R o3 p3 q3 h
    | _, _ => False⟩
  | 17 => some ⟨[(0, .pointer 0), (5, .int .i64)], fun s v h => match s, v with
    | [], [.pointer q2, .int _ r2] => F1335_j17 B R q2 r2 h
    | _, _ => False⟩
  | 22 => some ⟨[(0, .pointer 0), (4, .int .i32), (7, .pointer 0), (78, .bool)], fun s v h => match s, v with
    | [], [.pointer o1, .int _ p1, .pointer q1, .bool r1] => F1335_j22 B R o1 p1 q1 r1 h
    | _, _ => False⟩
  | 28 => some ⟨[(4, .int .i32), (7, .pointer 0), (8, .int .u32), (9, .int .u32)], fun s v h => match s, v with
    | [], [.int _ o0, .pointer p0, .int _ q0, .int _ r0] => F1335_j28 B R o0 p0 q0 r0 h
    | _, _ => False⟩
  | 33 => some ⟨[(7, .pointer 0), (8, .int .u32), (9, .int .u32), (10, .int .u32)], fun s v h => match s, v with
    | [], [.pointer a0, .int _ b0, .int _ c0, .int _ d0] => F1335_j33 B R a0 b0 c0 d0 h
    | _, _ => False⟩
  | _ => none
theorem F1335_ok {B : World} {R : Ending → Heap → Prop} (q6 : OA) {h : Heap} (H : F1335 B R q6 h) : Ec B 83 #[.pointer q6] R h :=
 Ej Tryz.func83 (by kernel_rfl) (by kernel_rfl) (by kernel_rfl) F1335_L (F1335_J B R) [] (by kernel_rfl) (by kernel_rfl) H

/-- math/big.msb32 -/
def F1338_j5 (B : World) (R : Po) (a0 : OA) (b0 c0 : Nat) (d0 : Int) (e0 : Bool) (f0 : Heap) : Prop :=
(e0 = true →
 R (.panicked [{ v := .iface 9 (.string ⟨#[120, 32, 110, 111, 116, 32, 110, 111, 114, 109, 97, 108, 105, 122, 101, 100]⟩), recovered := false }]) f0) ∧
(e0 = false →
((decide ((64 : Int) = (32 : Int))) = true →
 ixW a0 b0 d0 1 fun g0 i0 =>
 iP g0 i0 fun j0 k0 => ∃ l0, cI f0 j0 k0 .u64 l0 ∧
 R (.returned (.int .u32 (IntKind.u32.wrap l0))) f0) ∧
((decide ((64 : Int) = (32 : Int))) = false →
((decide ((64 : Int) = (64 : Int))) = true →
 ixW a0 b0 d0 1 fun m0 n0 =>
 iP m0 n0 fun o0 p0 => ∃ q0, cI f0 o0 p0 .u64 q0 ∧
0 ≤ (32 : Int) ∧
 R (.returned (.int .u32 (IntKind.u32.wrap (Int.fdiv q0 (2 ^ min (Int.toNat (32 : Int)) IntKind.u64.bits))))) f0) ∧
((decide ((64 : Int) = (64 : Int))) = false →
 R (.panicked [{ v := .iface 9 (.string ⟨#[117, 110, 114, 101, 97, 99, 104, 97, 98, 108, 101]⟩), recovered := false }]) f0)))
def F1338 (B : World) (R : Po) (r0 : OA) (s0 t0 : Nat) (h : Heap) : Prop :=
((decide ((IntKind.i64.wrap ((s0 : Int) - (1 : Int))) < (0 : Int))) = true →
 R (.returned (.int .u32 (0 : Int))) h) ∧
((decide ((IntKind.i64.wrap ((s0 : Int) - (1 : Int))) < (0 : Int))) = false →
(false = true →
 ixW r0 s0 (IntKind.i64.wrap ((s0 : Int) - (1 : Int))) 1 fun u0 v0 =>
 iP u0 v0 fun w0 x0 => ∃ y0, cI h w0 x0 .u64 y0 ∧
 F1338_j5 B R r0 s0 t0 (IntKind.i64.wrap ((s0 : Int) - (1 : Int))) (decide ((bitsI .and .u64 y0 (9223372036854775808 : Int)) = (0 : Int))) h) ∧
(false = false →
 F1338_j5 B R r0 s0 t0 (IntKind.i64.wrap ((s0 : Int) - (1 : Int))) false h))
def F1338_L : Nat → List (Nat × TypeDesc) := fun _ => []
def F1338_J (B : World) (R : Po) : Nat → Option JT := fun i => match i with
  | 5 => some ⟨[(0, .slice 0), (3, .int .i64), (16, .bool)], fun s v h => match s, v with
    | [], [.slice a0 b0 c0, .int _ d0, .bool e0] => F1338_j5 B R a0 b0 c0 d0 e0 h
    | _, _ => False⟩
  | _ => none
theorem F1338_ok {B : World} {R : Ending → Heap → Prop} (r0 : OA) (s0 t0 : Nat) {h : Heap} (H : F1338 B R r0 s0 t0 h) : Ec B 127 #[.slice r0 s0 t0] R h :=
 Ej Tryz.func127 (by kernel_rfl) (by kernel_rfl) (by kernel_rfl) F1338_L (F1338_J B R) [] (by kernel_rfl) (by kernel_rfl) H

/-- plumb/round.To32 -/
def F1375 (B : World) (R : Po) (a0 : Bool) (b0 : OA) (c0 d0 : Nat) (e0 f0 : Int) (h : Heap) : Prop :=
 alW h (.cells #[.bool a0, .slice b0 c0 d0, .int .i64 e0] 38) fun g0 i0 =>
 iP g0 0 fun j0 k0 =>
∃ l0, cell? i0 ⟨j0, k0, none⟩ = some (.bool l0) ∧
∃ m0 n0 o0, cell? i0 ⟨j0, k0 + 1, none⟩ = some (.slice m0 n0 o0) ∧
∃ p0, cell? i0 ⟨j0, k0 + 1 + 1, none⟩ = some (.int .i64 p0) ∧
 alW i0 (.cells #[.bool l0, .slice m0 n0 o0, .int .i64 p0] 38) fun q0 r0 =>
 Ec B 48 #[.int .i64 f0, .slice (some ⟨q0, 0, none⟩) 1 1, .func (.func 49) #[] #[], .func (.func 50) #[] #[], .int .i64 (2147483648 : Int)] (retE (fun s0 t0 => ∃ u0 v0 w0, s0 = .tuple #[.int .i64 u0, .bool v0, .int .i64 w0] ∧
 R (.returned (.tuple #[.int .i64 u0, .bool v0, .int .i64 w0])) t0)
(pk R)) r0
def F1375_L : Nat → List (Nat × TypeDesc) := fun _ => []
theorem F1375_ok {B : World} {R : Ending → Heap → Prop} (a0 : Bool) (b0 : OA) (c0 d0 : Nat) (e0 f0 : Int) {h : Heap} (H : F1375 B R a0 b0 c0 d0 e0 f0 h) : Ec B 22 #[.agg #[.bool a0, .slice b0 c0 d0, .int .i64 e0], .int .i64 f0] R h :=
 Ek Tryz.func22 (by kernel_rfl) (by kernel_rfl) (by kernel_rfl) F1375_L [] (by kernel_rfl) H
end Go.Proofs
set_option linter.unusedVariables false
/-! round.To32 of the number 2; sums.Sum32 and sums.Left of two ones; plumblaw5.alive. -/
namespace Go.Proofs
open Go Go.Eng
variable {B : World} {R : Ending → Heap → Prop} {h : Heap}
/-- math/big.msb32. -/
theorem K1338 {q o n c : Nat} {ws : List Nat} (M : Mn h q o n c ws) (h0 : 0 < n) (H : R (.returned (.int .u32 ((ws.getD (n - 1) 0 / 4294967296 : Nat) : Int))) h) : Ent Tryz.prog B 127 #[.slice (some ⟨q, o, none⟩) n c] R h := by
  have hl := M.len
  have hc := M.lim
  have hle := M.le
  have e1 : IntKind.i64.wrap ((n : Int) - 1) = ((n - 1 : Nat) : Int) := by rw [i64_in (by omega) (by omega)]; omega
  refine F1338_ok _ _ _ ⟨fun e => ?_, fun _ => ⟨fun e => (by cases e), fun _ => ?_⟩⟩
  · rw [e1] at e; have := of_decide_eq_true e; omega
  rw [e1]
  refine ⟨fun e => (by cases e), fun _ => ⟨fun e => absurd e (by decide), fun _ => ⟨fun _ => ?_, fun e => (by cases e)⟩⟩⟩
  have hw : n - 1 < ws.length := by omega
  have hd := M.dig _ (List.getElem_mem hw)
  rw [List.getD_eq_getElem?_getD, List.getElem?_eq_getElem hw] at H
  refine M.sl.get (n - 1) rfl (by omega) (by omega) ⟨by decide, ?_⟩
  have H : R (.returned (.int .u32 ((ws[n - 1] / 4294967296 : Nat) : Int))) h := H
  have hd : ws[n - 1] < 18446744073709551616 := hd
  generalize ws[n - 1] = w at *
  have h1 := fdiv_pow (x := w) (s := 32) (by decide)
  rw [show ((32 : Nat) : Int) = 32 from rfl, show (2 : Nat) ^ 32 = 4294967296 by decide] at h1
  rw [h1, wrap_u32_in (by omega) (by omega)]
  exact H
/-- Float32 of 2. -/
theorem K1335c {r q : Nat} {pr ac : Int} (F : FltV h r q pr ac false 1 9223372036854775808 2) (hpr : 53 < pr)
    (H : ∀ h', Ext h h' → R (.returned (.tuple #[.float .f32 1073741824, .int .i8 (0 : Int)])) h') :
    Ent Tryz.prog B 83 #[.pointer (some ⟨r, 0, none⟩)] R h := by
  obtain ⟨o, c, ws, F1, M1, v1, hT, hq⟩ := F
  refine F1335_ok _ ⟨fun e => by simp at e, fun _ => F1.lfo ⟨fun _ => F1.lex ?_, fun e => absurd (of_decide_eq_false e) (by simp)⟩⟩
  have w1 : IntKind.i32.wrap ((2 : Int) - (1 : Int)) = 1 := by decide +kernel
  rw [w1]
  refine ⟨fun e => absurd e (by decide), fun _ => ?_⟩
  refine alK fun rz g1 erz f1 o1 z1 => ?_
  have Z1 : Flt g1 rz 0 0 0 false none 0 0 0 := o1
  have hrz : rz ≠ r := by have := F1.lt; omega
  have hrq : rz ≠ q := by have := M1.lt; omega
  refine ⟨rz, 0, rfl, rz, 0, rfl, Own.stC Z1 (by simp) rfl fun a2 f2 => ?_⟩
  have w2 : IntKind.u32.wrap (24 : Int) = ((24 : Nat) : Int) := by decide +kernel
  rw [w2] at a2 f2 ⊢
  generalize setCell g1 ⟨rz, 0, none⟩ (.int .u32 ((24 : Nat) : Int)) = g2 at a2 f2 ⊢
  have Z2 : Flt g2 rz ((24 : Nat) : Int) 0 0 false none 0 0 0 := a2
  have F2 : FltV g2 r q pr ac false 1 9223372036854775808 2 := ⟨o, c, ws, (F1.fr f1 id).fr f2 (fun e => hrz e.symm), (M1.fr f1 id).fr f2 (fun e => hrq e.symm), v1, hT, hq⟩
  refine K1098b Z2 F2 hrz hrq hpr (by decide) (by decide) (by decide) (by decide) (by decide) fun g3 q3 o3 c3 Z3 M3 f3 => ⟨_, rfl, ?_⟩
  have fx : Ext h g3 := by
    have a := Fr.trans (Fr.trans (S := fun x => x = rz) (Ext.to f1) f2 fun _ _ e => e) f3 fun _ _ e => e
    exact Fr.toExt a fun x hx e => by omega
  have Fx : Flt g3 r pr ac 1 false (some ⟨q, o, none⟩) 1 c 2 := ((F1.fr f1 id).fr f2 (fun e => hrz e.symm)).fr f3 (fun e => hrz e.symm)
  have HH := H g3 fx
  have e1 : rn 9223372036854775808 (64 * 1 - 24) = 8388608 := by decide +kernel
  have e2 : accR 9223372036854775808 (64 * 1 - 24) false = 0 := by decide +kernel
  have e3 : rndE 8388608 24 = 0 := by decide +kernel
  have e4 : rndW 8388608 24 = 9223372036854775808 := by decide +kernel
  rw [e1] at Z3 M3
  rw [e2, e3] at Z3
  rw [e4] at M3
  clear H F2 Z2 a2 f2 f3 M1 F1 f1 o1 z1 Z1
  refine ⟨rz, 0, rfl, rz, 0 + 6, rfl, _, Own.cell Z3 _, rz, 0, rfl, rz, 0 + 3, rfl, _, Own.cell Z3 _, fun e => by simp at e, fun _ => ?_⟩
  have w3 : IntKind.i32.wrap (((2 : Int) + 0) - (1 : Int)) = 1 := by decide +kernel
  rw [w3]
  refine ⟨fun e => absurd e (by decide), fun _ => Fx.lng ⟨fun e => (by cases e), fun _ => ?_⟩⟩
  refine ⟨fun e => absurd e (by decide), fun e => ⟨by decide, rz, 0, rfl, rz, 0 + 5, rfl, _, _, _, Own.cell Z3 _, K1338 M3 (by decide) ⟨_, rfl, by decide, ?_⟩⟩⟩
  refine ⟨rz, 0, rfl, rz, 0 + 2, rfl, 0, Own.cell Z3 _, ?_⟩
  have w4 : bitsI .or .u32 (bitsI .or .u32 (0 : Int) (IntKind.u32.wrap ((IntKind.u32.wrap (IntKind.i32.wrap ((1 : Int) + (127 : Int)))) * 2 ^ min (Int.toNat (23 : Int)) IntKind.u32.bits))) (bitsI .and .u32 (Int.fdiv (([9223372036854775808].getD (1 - 1) 0 / 4294967296 : Nat) : Int) (2 ^ min (Int.toNat (8 : Int)) IntKind.u32.bits)) (8388607 : Int)) = ((1073741824 : Nat) : Int) := by decide +kernel
  rw [w4]
  exact E1331 ⟨_, rfl, rfl, HH⟩
/-- number.to32 of 1 times 2. -/
theorem K1333c {r q : Nat} {wv : Value} (hone : oneCell wv = true) (hx : IntAt h r q 1)
    (H : ∀ h', Ext h h' → R (.returned (.tuple #[.int .i64 (1073741824 : Int), .bool false])) h') :
    Ent Tryz.prog B 50 #[.agg #[.pointer (some ⟨r, 0, none⟩), .int .i64 (1 : Int), .bool false], .agg #[wv]] R h := by
  refine F1333_ok _ _ _ _ (alK fun r1 h1 e1 f1 o1 z1 => alK fun r2 h2 e2 f2 o2 z2 => ?_)
  have X2 := (hx.ext f1).ext f2
  have O1 := o1.ext f2
  refine ⟨r1, 0, rfl, _, O1.cell _, _, O1.cell _, _, O1.cell _, K1078 X2 (by decide) (by omega) (by omega) fun r3 q3 h3 f3 l3 X3 => ⟨_, _, _, rfl, ?_⟩⟩
  refine alK fun r4 h4 e4 f4 o4 z4 => ⟨r4, 0, rfl, o4.stC (by simp) rfl fun oa fa => oa.stC (by simp) rfl fun ob fb => ob.stC (by simp) rfl fun O4 fc => ?_⟩
  have fabc := Fr.trans (S := fun x => x = r4) (Fr.trans (S := fun x => x = r4) fa fb fun _ _ e => e) fc fun _ _ e => e
  generalize setCell (setCell (setCell h4 _ _) _ _) _ _ = h5 at *
  have O4 : Own h5 r4 #[.pointer (some ⟨r3, 0, none⟩), .int .i64 (1 - 1), .bool false] := O4
  have F5 : Ext h h5 := Fr.trans (Ext.trans (Ext.trans (Ext.trans f1 f2) f3) f4) fabc fun x hx e => by have := f3.size; omega
  have G5 : Ext h2 h5 := Fr.trans (Ext.trans f3 f4) fabc fun x hx e => by have := f3.size; omega
  have G35 : Ext h3 h5 := Fr.trans f4 fabc fun x hx e => by omega
  have X5 : IntAt h5 r3 q3 2 := X3.ext G35
  refine alK fun r6 h6 e6 f6 o6 z6 => ⟨r4, 0, rfl, r4, 0, rfl, _, (O4.ext f6).cell _, ?_⟩
  have Z6 : Flt h6 r6 0 0 0 false none 0 0 0 := o6
  have X6 := X5.ext f6
  have lx := X5.lt
  have lq := X5.lq
  have lo4 := O4.lt
  have F6 := Ext.trans F5 f6
  clear hx X2 X3
  have hbl : bl (2 : Int).natAbs = 2 := by decide +kernel
  refine K1079 Z6 X6 (by omega) (by omega) (by decide) (by decide +kernel) fun q n h7 f7 l7 hn1 hn2 hn3 V7 => ⟨_, rfl, r4, 0, rfl, r4, 0 + 1, rfl, _, ((O4.ext f6).fr f7 (by omega)).cell _, ?_⟩
  rw [hbl] at hn1 hn3 V7
  have hn : n = 1 := by omega
  subst hn
  have eV : (2 : Int).natAbs * 2 ^ (64 * 1 - 2) = 9223372036854775808 := by decide +kernel
  have e0 : decide ((2 : Int) < 0) = false := by decide
  rw [eV, e0] at V7
  have hm : max ((2 : Nat) : Int) 64 = 64 := by decide
  rw [hm] at V7
  refine K1080 (e := 0) V7 (by decide) (by decide) (by decide) (by decide) (by decide) (by decide) (by decide) (by decide) (by decide) (by decide) fun h8 V8 f8 => ⟨_, rfl, ?_⟩
  have V8 : FltV h8 r6 q 64 0 false 1 9223372036854775808 2 := V8
  refine K1335c V8 (by decide) fun h9 f9 => ⟨_, _, rfl, ?_⟩
  have n7 : ∀ x, x < h6.size → x ≠ r6 → ¬ (x = r6 ∨ x = q) := fun x a b c => by omega
  have s7 := f7.size
  have kp : ∀ {x : Nat} {cs : Array Value}, Own h6 x cs → x ≠ r6 → Own h9 x cs := fun o hx => ((o.fr f7 hx).fr f8 (n7 _ o.lt hx)).ext f9
  have E9 : Ext h h9 := Fr.trans (Fr.trans (Fr.trans F6 f7 fun x hx e => by have := F5.size; omega) f8 fun x hx e => by have := F5.size; omega) f9 fun x hx e => e
  have HH := H _ E9
  have O1' := kp ((O1.ext G5).ext f6) (by have := f3.size; omega)
  refine F1332_ok _ ⟨fun e => absurd e (by decide +kernel), fun _ => E1334 ⟨_, rfl, ⟨_, rfl, fun e => absurd e (by decide), fun _ => ⟨fun e => absurd e (by decide), fun _ => ⟨r1, 0, rfl, r1, 0 + 2, rfl, _, O1'.cell _, ?_⟩⟩⟩⟩⟩
  have e5 : IntKind.i64.wrap ((1073741824 : Nat) : Int) = 1073741824 := by decide +kernel
  rw [e5]
  exact HH
end Go.Proofs
