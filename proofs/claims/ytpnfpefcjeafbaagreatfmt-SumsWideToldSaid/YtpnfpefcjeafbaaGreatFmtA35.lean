import Derived.Test.YtpnfpefcjeafbaaGreatFmtA09
/- Here stand lemmas and contracts, in the order in which they are used. -/
set_option linter.unusedVariables false
namespace Go.Proofs
open Go Go.Eng
/-- (plumb/round.number).to32 -/
def F1333_j123 (B : World) (R : Po) (a0 : Int) (b0 : Bool) (c0 : Heap) : Prop :=
 R (.returned (.tuple #[.int .i64 a0, .bool b0])) c0
def F1333_j132 (B : World) (R : Po) (d0 : Int) (e0 : Bool) (f0 : Heap) : Prop :=
 R (.returned (.tuple #[.int .i64 d0, .bool e0])) f0
def F1333_j12 (B : World) (R : Po) (g0 : OA) (i0 j0 : Int) (k0 : Heap) : Prop :=
((!decide (i0 = (0 : Int))) = true →
 F1333_j123 B R j0 true k0) ∧
((!decide (i0 = (0 : Int))) = false →
 isP g0 fun l0 m0 =>
 isP (some ⟨l0, m0 + 2, none⟩) fun n0 o0 => ∃ p0, cell? k0 ⟨n0, o0, none⟩ = some (.bool p0) ∧
 F1333_j132 B R j0 p0 k0)
def F1333_j9 (B : World) (R : Po) (q0 r0 : OA) (s0 t0 : Int) (u0 : Bool) (v0 : Heap) : Prop :=
(u0 = true →
 isP r0 fun w0 x0 =>
 iP w0 x0 fun y0 z0 => ∃ a1, cell? v0 ⟨y0, z0, none⟩ = some (.pointer a1) ∧
 Ec B 54 #[.pointer a1] (retE (fun b1 c1 => ∃ d1, b1 = .int .i64 d1 ∧
((decide ((0 : Int) < d1)) = true →
 F1333_j12 B R q0 s0 (0 : Int) c1) ∧
((decide ((0 : Int) < d1)) = false →
 F1333_j12 B R q0 s0 (2147483648 : Int) c1))
(pk R)) v0) ∧
(u0 = false →
 F1333_j12 B R q0 s0 t0 v0)
def F1333_j96 (B : World) (R : Po) (e1 f1 : OA) (g1 i1 : Int) (j1 : Bool) (k1 : Heap) : Prop :=
(j1 = true →
 F1333_j9 B R e1 f1 g1 i1 true k1) ∧
(j1 = false →
 F1333_j9 B R e1 f1 g1 i1 (decide (i1 = (2147483648 : Int))) k1)
def F1333_j8 (B : World) (R : Po) (l1 m1 : OA) (n1 o1 : Int) (p1 : Heap) : Prop :=
((decide (o1 = (0 : Int))) = true →
 isP m1 fun q1 r1 =>
 iP q1 r1 fun s1 t1 => ∃ u1, cell? p1 ⟨s1, t1, none⟩ = some (.pointer u1) ∧
 Ec B 54 #[.pointer u1] (retE (fun v1 w1 => ∃ x1, v1 = .int .i64 x1 ∧
 F1333_j96 B R l1 m1 n1 o1 (decide (x1 < (0 : Int))) w1)
(pk R)) p1) ∧
((decide (o1 = (0 : Int))) = false →
 F1333_j96 B R l1 m1 n1 o1 false p1)
def F1333 (B : World) (R : Po) (y1 : OA) (z1 : Int) (a2 : Bool) (b2 : Value) (h : Heap) : Prop :=
 alW h (.cells #[.pointer y1, .int .i64 z1, .bool a2] 46) fun c2 d2 =>
 alW d2 (.cells #[b2] 83) fun e2 f2 =>
 iP c2 0 fun g2 i2 =>
∃ j2, cell? f2 ⟨g2, i2, none⟩ = some (.pointer j2) ∧
∃ k2, cell? f2 ⟨g2, i2 + 1, none⟩ = some (.int .i64 k2) ∧
∃ l2, cell? f2 ⟨g2, i2 + 1 + 1, none⟩ = some (.bool l2) ∧
 Ec B 80 #[.agg #[.pointer j2, .int .i64 k2, .bool l2]] (retE (fun m2 n2 => ∃ o2 p2 q2, m2 = .agg #[.pointer o2, .int .i64 p2, .bool q2] ∧
 alW n2 (.cells #[.pointer none, .int .i64 0, .bool false] 46) fun r2 s2 =>
 iP r2 0 fun t2 u2 => stC s2 t2 u2 (.pointer o2) fun v2 =>
 stC v2 t2 (u2 + 1) (.int .i64 p2) fun w2 =>
 stC w2 t2 (u2 + 1 + 1) (.bool q2) fun x2 =>
 alW x2 (.cells #[.int .u32 0, .int .u8 0, .int .i8 0, .int .u8 0, .bool false, .slice none 0 0, .int .i32 0] 120) fun y2 z2 =>
 iP r2 0 fun a3 b3 =>
 iP a3 b3 fun c3 d3 => ∃ e3, cell? z2 ⟨c3, d3, none⟩ = some (.pointer e3) ∧
 Ec B 81 #[.pointer (some ⟨y2, 0, none⟩), .pointer e3] (retE (fun f3 g3 => ∃ i3, f3 = .pointer i3 ∧
 iP r2 0 fun j3 k3 =>
 isP (some ⟨j3, k3 + 1, none⟩) fun l3 m3 => ∃ n3, cI g3 l3 m3 .i64 n3 ∧
 Ec B 82 #[.pointer i3, .pointer i3, .int .i64 (if (4194304 : Int) < (if (-4194304 : Int) > n3 then (-4194304 : Int) else n3) then (4194304 : Int) else (if (-4194304 : Int) > n3 then (-4194304 : Int) else n3))] (retE (fun o3 p3 => ∃ q3, o3 = .pointer q3 ∧
 Ec B 83 #[.pointer i3] (retE (fun r3 s3 => ∃ t3 u3, r3 = .tuple #[.float .f32 t3, .int .i8 u3] ∧
 Ec B 77 #[.float .f32 t3] (retE (fun v3 w3 => ∃ x3, v3 = .int .i64 x3 ∧
((!decide (u3 = (0 : Int))) = true →
 iP e2 0 fun y3 z3 =>
 iP y3 z3 fun a4 b4 => ∃ c4, cell? w3 ⟨a4, b4, none⟩ = some c4 ∧
 iP r2 0 fun d4 e4 =>
 iP d4 e4 fun f4 g4 => ∃ i4, cell? w3 ⟨f4, g4, none⟩ = some (.pointer i4) ∧
 Ec B 54 #[.pointer i4] (retE (fun j4 k4 => ∃ l4, j4 = .int .i64 l4 ∧
 sameCells w3 k4 a4 b4 1 ∧ Ev B c4 #[.int .i64 x3, .bool (decide (l4 < (0 : Int))), .bool (decide (u3 = (1 : Int))), .func (.func 84) #[] #[], .func (.func 85) #[] #[]] (retE (fun m4 n4 => ∃ o4, m4 = .int .i64 o4 ∧
 F1333_j8 B R (some ⟨c2, 0, none⟩) (some ⟨r2, 0, none⟩) u3 o4 n4)
(fun _ _ => False)) k4)
(fun _ _ => False)) w3) ∧
((!decide (u3 = (0 : Int))) = false →
 F1333_j12 B R (some ⟨c2, 0, none⟩) u3 x3 w3))
(pk R)) s3)
(pk R)) p3)
(pk R)) g3)
(pk R)) z2)
(pk R)) f2
def F1333_L : Nat → List (Nat × TypeDesc) := fun _ => []
def F1333_J (B : World) (R : Po) : Nat → Option JT := fun i => match i with
  | 8 => some ⟨[(2, .pointer 0), (6, .pointer 0), (9, .int .i8), (10, .int .i64)], fun s v h => match s, v with
    | [], [.pointer l1, .pointer m1, .int _ n1, .int _ o1] => F1333_j8 B R l1 m1 n1 o1 h
    | _, _ => False⟩
  | 9 => some ⟨[(2, .pointer 0), (6, .pointer 0), (9, .int .i8), (10, .int .i64), (54, .bool)], fun s v h => match s, v with
    | [], [.pointer q0, .pointer r0, .int _ s0, .int _ t0, .bool u0] => F1333_j9 B R q0 r0 s0 t0 u0 h
    | _, _ => False⟩
  | 12 => some ⟨[(2, .pointer 0), (9, .int .i8), (10, .int .i64)], fun s v h => match s, v with
    | [], [.pointer g0, .int _ i0, .int _ j0] => F1333_j12 B R g0 i0 j0 h
    | _, _ => False⟩
  | _ => none
theorem F1333_ok {B : World} {R : Ending → Heap → Prop} (y1 : OA) (z1 : Int) (a2 : Bool) (b2 : Value) {h : Heap} (H : F1333 B R y1 z1 a2 b2 h) : Ec B 50 #[.agg #[.pointer y1, .int .i64 z1, .bool a2], .agg #[b2]] R h :=
 Ej Tryz.func50 (by kernel_rfl) (by kernel_rfl) (by kernel_rfl) F1333_L (F1333_J B R) [] (by kernel_rfl) (by kernel_rfl) H

/-- (*math/big.Float).Float32 -/
def F1335_j33 (B : World) (R : Po) (a0 : OA) (b0 c0 d0 : Int) (e0 : Heap) : Prop :=
 isP a0 fun f0 g0 =>
 isP (some ⟨f0, g0 + 2, none⟩) fun i0 j0 => ∃ k0, cI e0 i0 j0 .i8 k0 ∧
 Ec B 76 #[.int .u32 (bitsI .or .u32 (bitsI .or .u32 b0 c0) d0)] (retE (fun l0 m0 => ∃ n0, l0 = .float .f32 n0 ∧
 sameCells e0 m0 i0 j0 1 ∧ R (.returned (.tuple #[.float .f32 n0, .int .i8 k0])) m0)
(fun _ _ => False)) e0
def F1335_j28 (B : World) (R : Po) (o0 : Int) (p0 : OA) (q0 r0 : Int) (s0 : Heap) : Prop :=
((decide (o0 < (-126 : Int))) = true →
 isP p0 fun t0 u0 =>
 isP (some ⟨t0, u0 + 5, none⟩) fun v0 w0 => ∃ x0 y0 z0, cS s0 v0 w0 x0 y0 z0 ∧
 Ec B 127 #[.slice x0 y0 z0] (retE (fun a1 b1 => ∃ c1, a1 = .int .u32 c1 ∧
0 ≤ (IntKind.u64.wrap (IntKind.i64.wrap ((32 : Int) - (IntKind.i64.wrap ((150 : Int) + (IntKind.i64.wrap o0)))))) ∧
 F1335_j33 B R p0 q0 r0 (Int.fdiv c1 (2 ^ min (Int.toNat (IntKind.u64.wrap (IntKind.i64.wrap ((32 : Int) - (IntKind.i64.wrap ((150 : Int) + (IntKind.i64.wrap o0))))))) IntKind.u32.bits)) b1)
(pk R)) s0) ∧
((decide (o0 < (-126 : Int))) = false →
 0 ≤ (23 : Int) ∧
 isP p0 fun d1 e1 =>
 isP (some ⟨d1, e1 + 5, none⟩) fun f1 g1 => ∃ i1 j1 k1, cS s0 f1 g1 i1 j1 k1 ∧
 Ec B 127 #[.slice i1 j1 k1] (retE (fun l1 m1 => ∃ n1, l1 = .int .u32 n1 ∧
0 ≤ (8 : Int) ∧
 F1335_j33 B R p0 q0 (IntKind.u32.wrap ((IntKind.u32.wrap (IntKind.i32.wrap (o0 + (127 : Int)))) * 2 ^ min (Int.toNat (23 : Int)) IntKind.u32.bits)) (bitsI .and .u32 (Int.fdiv n1 (2 ^ min (Int.toNat (8 : Int)) IntKind.u32.bits)) (8388607 : Int)) m1)
(pk R)) s0)
def F1335_j22 (B : World) (R : Po) (o1 : OA) (p1 : Int) (q1 : OA) (r1 : Bool) (s1 : Heap) : Prop :=
(r1 = true →
 isP o1 fun t1 u1 =>
 iP t1 u1 fun v1 w1 =>
 isP (some ⟨v1, w1 + 4, none⟩) fun x1 y1 => ∃ z1, cell? s1 ⟨x1, y1, none⟩ = some (.bool z1) ∧
(z1 = true →
 Ec B 98 #[.int .i64 (-1 : Int)] (retE (fun a2 b2 => ∃ c2, a2 = .float .f64 c2 ∧
 cvW .f64 c2 .f32 fun d2 =>
 R (.returned (.tuple #[.float .f32 d2, .int .i8 (-1 : Int)])) b2)
(pk R)) s1) ∧
(z1 = false →
 Ec B 98 #[.int .i64 (1 : Int)] (retE (fun e2 f2 => ∃ g2, e2 = .float .f64 g2 ∧
 cvW .f64 g2 .f32 fun i2 =>
 R (.returned (.tuple #[.float .f32 i2, .int .i8 (1 : Int)])) f2)
(pk R)) s1)) ∧
(r1 = false →
 isP o1 fun j2 k2 =>
 iP j2 k2 fun l2 m2 =>
 isP (some ⟨l2, m2 + 4, none⟩) fun n2 o2 => ∃ p2, cell? s1 ⟨n2, o2, none⟩ = some (.bool p2) ∧
(p2 = true →
 F1335_j28 B R p1 q1 (2147483648 : Int) (0 : Int) s1) ∧
(p2 = false →
 F1335_j28 B R p1 q1 (0 : Int) (0 : Int) s1))
def F1335_j17 (B : World) (R : Po) (q2 : OA) (r2 : Int) (s2 : Heap) : Prop :=
 alW s2 (.cells #[.int .u32 0, .int .u8 0, .int .i8 0, .int .u8 0, .bool false, .slice none 0 0, .int .i32 0] 120) fun t2 u2 =>
 iP t2 0 fun v2 w2 =>
 iP v2 w2 fun x2 y2 => stC u2 x2 y2 (.int .u32 (IntKind.u32.wrap r2)) fun z2 =>
 Ec B 126 #[.pointer (some ⟨t2, 0, none⟩), .pointer q2] (retE (fun a3 b3 => ∃ c3, a3 = .pointer c3 ∧
 iP t2 0 fun d3 e3 =>
 isP (some ⟨d3, e3 + 6, none⟩) fun f3 g3 => ∃ i3, cI b3 f3 g3 .i32 i3 ∧
 iP t2 0 fun j3 k3 =>
 isP (some ⟨j3, k3 + 3, none⟩) fun l3 m3 => ∃ n3, cI b3 l3 m3 .u8 n3 ∧
((decide (n3 = (2 : Int))) = true →
 F1335_j22 B R q2 (IntKind.i32.wrap (i3 - (1 : Int))) (some ⟨t2, 0, none⟩) true b3) ∧
((decide (n3 = (2 : Int))) = false →
 F1335_j22 B R q2 (IntKind.i32.wrap (i3 - (1 : Int))) (some ⟨t2, 0, none⟩) (decide ((127 : Int) < (IntKind.i32.wrap (i3 - (1 : Int))))) b3))
(pk R)) z2
def F1335_j9 (B : World) (R : Po) (o3 : OA) (p3 : Int) (q3 : Bool) (r3 : Heap) : Prop :=
(q3 = true →
 isP o3 fun s3 t3 =>
 iP s3 t3 fun u3 v3 =>
 isP (some ⟨u3, v3 + 4, none⟩) fun w3 x3 => ∃ y3, cell? r3 ⟨w3, x3, none⟩ = some (.bool y3) ∧
(y3 = true →
 R (.returned (.tuple #[.float .f32 (Op.negFloat .f32 0), .int .i8 (1 : Int)])) r3) ∧
(y3 = false →
 R (.returned (.tuple #[.float .f32 0, .int .i8 (-1 : Int)])) r3)) ∧
(q3 = false →
((decide (p3 = (0 : Int))) = true →
 isP o3 fun z3 a4 =>
 iP z3 a4 fun b4 c4 =>
 isP (some ⟨b4, c4 + 4, none⟩) fun d4 e4 => ∃ f4, cell? r3 ⟨d4, e4, none⟩ = some (.bool f4) ∧
(f4 = true →
 R (.returned (.tuple #[.float .f32 2147483649, .int .i8 (-1 : Int)])) r3) ∧
(f4 = false →
 R (.returned (.tuple #[.float .f32 1, .int .i8 (1 : Int)])) r3)) ∧
((decide (p3 = (0 : Int))) = false →
 F1335_j17 B R o3 p3 r3))
def F1335_j2 (B : World) (R : Po) (g4 : OA) (i4 : Heap) : Prop :=
 isP g4 fun j4 k4 =>
 iP j4 k4 fun l4 m4 =>
 isP (some ⟨l4, m4 + 3, none⟩) fun n4 o4 => ∃ p4, cI i4 n4 o4 .u8 p4 ∧
((decide (p4 = (1 : Int))) = true →
 isP g4 fun q4 r4 =>
 iP q4 r4 fun s4 t4 =>
 isP (some ⟨s4, t4 + 6, none⟩) fun u4 v4 => ∃ w4, cI i4 u4 v4 .i32 w4 ∧
((decide ((IntKind.i32.wrap (w4 - (1 : Int))) < (-126 : Int))) = true →
((decide ((IntKind.i64.wrap ((150 : Int) + (IntKind.i64.wrap (IntKind.i32.wrap (w4 - (1 : Int)))))) < (0 : Int))) = true →
 F1335_j9 B R g4 (IntKind.i64.wrap ((150 : Int) + (IntKind.i64.wrap (IntKind.i32.wrap (w4 - (1 : Int)))))) true i4) ∧
((decide ((IntKind.i64.wrap ((150 : Int) + (IntKind.i64.wrap (IntKind.i32.wrap (w4 - (1 : Int)))))) < (0 : Int))) = false →
((decide ((IntKind.i64.wrap ((150 : Int) + (IntKind.i64.wrap (IntKind.i32.wrap (w4 - (1 : Int)))))) = (0 : Int))) = true →
 isP g4 fun x4 y4 =>
 iP x4 y4 fun z4 a5 =>
 isP (some ⟨z4, a5 + 5, none⟩) fun b5 c5 => ∃ d5 e5 f5, cS i4 b5 c5 d5 e5 f5 ∧
 isP g4 fun g5 i5 =>
 iP g5 i5 fun j5 k5 =>
 isP (some ⟨j5, k5 + 5, none⟩) fun l5 m5 => ∃ n5 o5 p5, cS i4 l5 m5 n5 o5 p5 ∧
 Ec B 125 #[.slice d5 e5 f5, .int .u64 (IntKind.u64.wrap ((IntKind.u64.wrap ((IntKind.u64.wrap (o5 : Int)) * (64 : Int))) - (1 : Int)))] (retE (fun q5 r5 => ∃ s5, q5 = .int .u64 s5 ∧
 F1335_j9 B R g4 (IntKind.i64.wrap ((150 : Int) + (IntKind.i64.wrap (IntKind.i32.wrap (w4 - (1 : Int)))))) (decide (s5 = (0 : Int))) r5)
(fun _ _ => False)) i4) ∧
((decide ((IntKind.i64.wrap ((150 : Int) + (IntKind.i64.wrap (IntKind.i32.wrap (w4 - (1 : Int)))))) = (0 : Int))) = false →
 F1335_j9 B R g4 (IntKind.i64.wrap ((150 : Int) + (IntKind.i64.wrap (IntKind.i32.wrap (w4 - (1 : Int)))))) false i4))) ∧
((decide ((IntKind.i32.wrap (w4 - (1 : Int))) < (-126 : Int))) = false →
 F1335_j17 B R g4 (24 : Int) i4)) ∧
((decide (p4 = (1 : Int))) = false →
((decide (p4 = (0 : Int))) = true →
 isP g4 fun t5 u5 =>
 iP t5 u5 fun v5 w5 =>
 isP (some ⟨v5, w5 + 4, none⟩) fun x5 y5 => ∃ z5, cell? i4 ⟨x5, y5, none⟩ = some (.bool z5) ∧
(z5 = true →
 R (.returned (.tuple #[.float .f32 (Op.negFloat .f32 0), .int .i8 (0 : Int)])) i4) ∧
(z5 = false →
 R (.returned (.tuple #[.float .f32 0, .int .i8 (0 : Int)])) i4)) ∧
((decide (p4 = (0 : Int))) = false →
((decide (p4 = (2 : Int))) = true →
 isP g4 fun a6 b6 =>
 iP a6 b6 fun c6 d6 =>
 isP (some ⟨c6, d6 + 4, none⟩) fun e6 f6 => ∃ g6, cell? i4 ⟨e6, f6, none⟩ = some (.bool g6) ∧
(g6 = true →
 Ec B 98 #[.int .i64 (-1 : Int)] (retE (fun i6 j6 => ∃ k6, i6 = .float .f64 k6 ∧
 cvW .f64 k6 .f32 fun l6 =>
 R (.returned (.tuple #[.float .f32 l6, .int .i8 (0 : Int)])) j6)
(pk R)) i4) ∧
(g6 = false →
 Ec B 98 #[.int .i64 (1 : Int)] (retE (fun m6 n6 => ∃ o6, m6 = .float .f64 o6 ∧
 cvW .f64 o6 .f32 fun p6 =>
 R (.returned (.tuple #[.float .f32 p6, .int .i8 (0 : Int)])) n6)
(pk R)) i4)) ∧
((decide (p4 = (2 : Int))) = false →
 R (.panicked [{ v := .iface 9 (.string ⟨#[117, 110, 114, 101, 97, 99, 104, 97, 98, 108, 101]⟩), recovered := false }]) i4)))
def F1335 (B : World) (R : Po) (q6 : OA) (h : Heap) : Prop :=
(false = true →
 Ec B 123 #[.pointer q6] (retE (fun r6 s6 => r6 = .tuple #[] ∧
 F1335_j2 B R q6 s6)
(pk R)) h) ∧
(false = false →
 F1335_j2 B R q6 h)
def F1335_L : Nat → List (Nat × TypeDesc) := fun _ => []
def F1335_J (B : World) (R : Po) : Nat → Option JT := fun i => match i with
  | 2 => some ⟨[(0, .pointer 0)], fun s v h => match s, v with
    | [], [.pointer g4] => F1335_j2 B R g4 h
    | _, _ => False⟩
  | 9 => some ⟨[(0, .pointer 0), (5, .int .i64), (51, .bool)], fun s v h => match s, v with
    | [], [.pointer o3, .int _ p3, .bool q3] => F1335_j9 B R o3 p3 q3 h
    | _, _ => False⟩
  | 17 => some ⟨[(0, .pointer 0), (5, .int .i64)], fun s v h => match s, v with
    | [], [.pointer q2, .int _ r2] => F1335_j17 B R q2 r2 h
    | _, _ => False⟩
  | 22 => some ⟨[(0, .pointer 0), (4, .int .i32), (7, .pointer 0), (78, .bool)], fun s v h => match s, v with
    | [], [.pointer o1, .int _ p1, .pointer q1, .bool r1] => F1335_j22 B R o1 p1 q1 r1 h
    | _, _ => False⟩
  | 28 => some ⟨[(4, .int .i32), (7, .pointer 0), (8, .int .u32), (9, .int .u32)], fun s v h => match s, v with
    | [], [.int _ o0, .pointer p0, .int _ q0, .int _ r0] => F1335_j28 B R o0 p0 q0 r0 h
    | _, _ => False⟩
  | 33 => some ⟨[(7, .pointer 0), (8, .int .u32), (9, .int .u32), (10, .int .u32)], fun s v h => match s, v with
    | [], [.pointer a0, .int _ b0, .int _ c0, .int _ d0] => F1335_j33 B R a0 b0 c0 d0 h
    | _, _ => False⟩
  | _ => none
theorem F1335_ok {B : World} {R : Ending → Heap → Prop} (q6 : OA) {h : Heap} (H : F1335 B R q6 h) : Ec B 83 #[.pointer q6] R h :=
 Ej Tryz.func83 (by kernel_rfl) (by kernel_rfl) (by kernel_rfl) F1335_L (F1335_J B R) [] (by kernel_rfl) (by kernel_rfl) H

/-- plumb/bits.Next32 -/
def F1336 (B : World) (R : Po) (a0 : Int) (h : Heap) : Prop :=
 Ec B 45 #[.int .i64 a0] (retE (fun b0 c0 => ∃ d0, b0 = .float .f32 d0 ∧
 Ec B 98 #[.int .i64 (1 : Int)] (retE (fun e0 f0 => ∃ g0, e0 = .float .f64 g0 ∧
 cvW .f64 g0 .f32 fun i0 =>
 Ec B 128 #[.float .f32 d0, .float .f32 i0] (retE (fun j0 k0 => ∃ l0, j0 = .float .f32 l0 ∧
 Ec B 77 #[.float .f32 l0] (retE (fun m0 n0 => ∃ o0, m0 = .int .i64 o0 ∧
 R (.returned (.int .i64 o0)) n0)
(pk R)) k0)
(pk R)) f0)
(pk R)) c0)
(pk R)) h
def F1336_L : Nat → List (Nat × TypeDesc) := fun _ => []
theorem F1336_ok {B : World} {R : Ending → Heap → Prop} (a0 : Int) {h : Heap} (H : F1336 B R a0 h) : Ec B 84 #[.int .i64 a0] R h :=
 Ek Tryz.func84 (by kernel_rfl) (by kernel_rfl) (by kernel_rfl) F1336_L [] (by kernel_rfl) H

/-- plumb/bits.Prev32 -/
def F1337 (B : World) (R : Po) (a0 : Int) (h : Heap) : Prop :=
 Ec B 45 #[.int .i64 a0] (retE (fun b0 c0 => ∃ d0, b0 = .float .f32 d0 ∧
 Ec B 77 #[.float .f32 (Op.negFloat .f32 d0)] (retE (fun e0 f0 => ∃ g0, e0 = .int .i64 g0 ∧
 Ec B 84 #[.int .i64 g0] (retE (fun i0 j0 => ∃ k0, i0 = .int .i64 k0 ∧
 Ec B 45 #[.int .i64 k0] (retE (fun l0 m0 => ∃ n0, l0 = .float .f32 n0 ∧
 Ec B 77 #[.float .f32 (Op.negFloat .f32 n0)] (retE (fun o0 p0 => ∃ q0, o0 = .int .i64 q0 ∧
 R (.returned (.int .i64 q0)) p0)
(pk R)) m0)
(pk R)) j0)
(pk R)) f0)
(pk R)) c0)
(pk R)) h
def F1337_L : Nat → List (Nat × TypeDesc) := fun _ => []
theorem F1337_ok {B : World} {R : Ending → Heap → Prop} (a0 : Int) {h : Heap} (H : F1337 B R a0 h) : Ec B 85 #[.int .i64 a0] R h :=
 Ek Tryz.func85 (by kernel_rfl) (by kernel_rfl) (by kernel_rfl) F1337_L [] (by kernel_rfl) H

/-- math/big.msb32 -/
def F1338_j5 (B : World) (R : Po) (a0 : OA) (b0 c0 : Nat) (d0 : Int) (e0 : Bool) (f0 : Heap) : Prop :=
(e0 = true →
 R (.panicked [{ v := .iface 9 (.string ⟨#[120, 32, 110, 111, 116, 32, 110, 111, 114, 109, 97, 108, 105, 122, 101, 100]⟩), recovered := false }]) f0) ∧
(e0 = false →
((decide ((64 : Int) = (32 : Int))) = true →
 ixW a0 b0 d0 1 fun g0 i0 =>
 iP g0 i0 fun j0 k0 => ∃ l0, cI f0 j0 k0 .u64 l0 ∧
 R (.returned (.int .u32 (IntKind.u32.wrap l0))) f0) ∧
((decide ((64 : Int) = (32 : Int))) = false →
((decide ((64 : Int) = (64 : Int))) = true →
 ixW a0 b0 d0 1 fun m0 n0 =>
 iP m0 n0 fun o0 p0 => ∃ q0, cI f0 o0 p0 .u64 q0 ∧
0 ≤ (32 : Int) ∧
 R (.returned (.int .u32 (IntKind.u32.wrap (Int.fdiv q0 (2 ^ min (Int.toNat (32 : Int)) IntKind.u64.bits))))) f0) ∧
((decide ((64 : Int) = (64 : Int))) = false →
 R (.panicked [{ v := .iface 9 (.string ⟨#[117, 110, 114, 101, 97, 99, 104, 97, 98, 108, 101]⟩), recovered := false }]) f0)))
def F1338 (B : World) (R : Po) (r0 : OA) (s0 t0 : Nat) (h : Heap) : Prop :=
((decide ((IntKind.i64.wrap ((s0 : Int) - (1 : Int))) < (0 : Int))) = true →
 R (.returned (.int .u32 (0 : Int))) h) ∧
((decide ((IntKind.i64.wrap ((s0 : Int) - (1 : Int))) < (0 : Int))) = false →
(false = true →
 ixW r0 s0 (IntKind.i64.wrap ((s0 : Int) - (1 : Int))) 1 fun u0 v0 =>
 iP u0 v0 fun w0 x0 => ∃ y0, cI h w0 x0 .u64 y0 ∧
 F1338_j5 B R r0 s0 t0 (IntKind.i64.wrap ((s0 : Int) - (1 : Int))) (decide ((bitsI .and .u64 y0 (9223372036854775808 : Int)) = (0 : Int))) h) ∧
(false = false →
 F1338_j5 B R r0 s0 t0 (IntKind.i64.wrap ((s0 : Int) - (1 : Int))) false h))
def F1338_L : Nat → List (Nat × TypeDesc) := fun _ => []
def F1338_J (B : World) (R : Po) : Nat → Option JT := fun i => match i with
  | 5 => some ⟨[(0, .slice 0), (3, .int .i64), (16, .bool)], fun s v h => match s, v with
    | [], [.slice a0 b0 c0, .int _ d0, .bool e0] => F1338_j5 B R a0 b0 c0 d0 e0 h
    | _, _ => False⟩
  | _ => none
theorem F1338_ok {B : World} {R : Ending → Heap → Prop} (r0 : OA) (s0 t0 : Nat) {h : Heap} (H : F1338 B R r0 s0 t0 h) : Ec B 127 #[.slice r0 s0 t0] R h :=
 Ej Tryz.func127 (by kernel_rfl) (by kernel_rfl) (by kernel_rfl) F1338_L (F1338_J B R) [] (by kernel_rfl) (by kernel_rfl) H

/-- math.Nextafter32 -/
def F1339_j3 (B : World) (R : Po) (a0 b0 : Nat) (c0 : Bool) (d0 : Heap) : Prop :=
(c0 = true →
 Ec B 97 #[] (retE (fun e0 f0 => ∃ g0, e0 = .float .f64 g0 ∧
 cvW .f64 g0 .f32 fun i0 =>
 R (.returned (.float .f32 i0)) f0)
(pk R)) d0) ∧
(c0 = false →
((FloatKind.f32.format.order a0 b0 == some .eq) = true →
 R (.returned (.float .f32 a0)) d0) ∧
((FloatKind.f32.format.order a0 b0 == some .eq) = false →
((FloatKind.f32.format.order a0 0 == some .eq) = true →
 Ec B 76 #[.int .u32 (1 : Int)] (retE (fun j0 k0 => ∃ l0, j0 = .float .f32 l0 ∧
 cvW .f32 l0 .f64 fun m0 =>
 cvW .f32 b0 .f64 fun n0 =>
 Ec B 162 #[.float .f64 m0, .float .f64 n0] (retE (fun o0 p0 => ∃ q0, o0 = .float .f64 q0 ∧
 cvW .f64 q0 .f32 fun r0 =>
 R (.returned (.float .f32 r0)) p0)
(pk R)) k0)
(pk R)) d0) ∧
((FloatKind.f32.format.order a0 0 == some .eq) = false →
(((FloatKind.f32.format.order b0 a0 == some .gt) == (FloatKind.f32.format.order a0 0 == some .gt)) = true →
 Ec B 116 #[.float .f32 a0] (retE (fun s0 t0 => ∃ u0, s0 = .int .u32 u0 ∧
 Ec B 76 #[.int .u32 (IntKind.u32.wrap (u0 + (1 : Int)))] (retE (fun v0 w0 => ∃ x0, v0 = .float .f32 x0 ∧
 R (.returned (.float .f32 x0)) w0)
(pk R)) t0)
(pk R)) d0) ∧
(((FloatKind.f32.format.order b0 a0 == some .gt) == (FloatKind.f32.format.order a0 0 == some .gt)) = false →
 Ec B 116 #[.float .f32 a0] (retE (fun y0 z0 => ∃ a1, y0 = .int .u32 a1 ∧
 Ec B 76 #[.int .u32 (IntKind.u32.wrap (a1 - (1 : Int)))] (retE (fun b1 c1 => ∃ d1, b1 = .float .f32 d1 ∧
 R (.returned (.float .f32 d1)) c1)
(pk R)) z0)
(pk R)) d0))))
def F1339_j9 (B : World) (R : Po) (e1 f1 : Nat) (g1 : Bool) (i1 : Heap) : Prop :=
 F1339_j3 B R e1 f1 g1 i1
def F1339 (B : World) (R : Po) (j1 k1 : Nat) (h : Heap) : Prop :=
 cvW .f32 j1 .f64 fun l1 =>
 Ec B 161 #[.float .f64 l1] (retE (fun m1 n1 => ∃ o1, m1 = .bool o1 ∧
(o1 = true →
 F1339_j9 B R j1 k1 true n1) ∧
(o1 = false →
 cvW .f32 k1 .f64 fun p1 =>
 Ec B 161 #[.float .f64 p1] (retE (fun q1 r1 => ∃ s1, q1 = .bool s1 ∧
 F1339_j9 B R j1 k1 s1 r1)
(pk R)) n1))
(pk R)) h
def F1339_L : Nat → List (Nat × TypeDesc) := fun _ => []
def F1339_J (B : World) (R : Po) : Nat → Option JT := fun i => match i with
  | 3 => some ⟨[(0, .float .f32), (1, .float .f32), (9, .bool)], fun s v h => match s, v with
    | [], [.float _ a0, .float _ b0, .bool c0] => F1339_j3 B R a0 b0 c0 h
    | _, _ => False⟩
  | _ => none
theorem F1339_ok {B : World} {R : Ending → Heap → Prop} (j1 k1 : Nat) {h : Heap} (H : F1339 B R j1 k1 h) : Ec B 128 #[.float .f32 j1, .float .f32 k1] R h :=
 Ej Tryz.func128 (by kernel_rfl) (by kernel_rfl) (by kernel_rfl) F1339_L (F1339_J B R) [] (by kernel_rfl) (by kernel_rfl) H

/-- plumb/round.To32 -/
def F1375 (B : World) (R : Po) (a0 : Bool) (b0 : OA) (c0 d0 : Nat) (e0 f0 : Int) (h : Heap) : Prop :=
 alW h (.cells #[.bool a0, .slice b0 c0 d0, .int .i64 e0] 38) fun g0 i0 =>
 iP g0 0 fun j0 k0 =>
∃ l0, cell? i0 ⟨j0, k0, none⟩ = some (.bool l0) ∧
∃ m0 n0 o0, cell? i0 ⟨j0, k0 + 1, none⟩ = some (.slice m0 n0 o0) ∧
∃ p0, cell? i0 ⟨j0, k0 + 1 + 1, none⟩ = some (.int .i64 p0) ∧
 alW i0 (.cells #[.bool l0, .slice m0 n0 o0, .int .i64 p0] 38) fun q0 r0 =>
 Ec B 48 #[.int .i64 f0, .slice (some ⟨q0, 0, none⟩) 1 1, .func (.func 49) #[] #[], .func (.func 50) #[] #[], .int .i64 (2147483648 : Int)] (retE (fun s0 t0 => ∃ u0 v0 w0, s0 = .tuple #[.int .i64 u0, .bool v0, .int .i64 w0] ∧
 R (.returned (.tuple #[.int .i64 u0, .bool v0, .int .i64 w0])) t0)
(pk R)) r0
def F1375_L : Nat → List (Nat × TypeDesc) := fun _ => []
theorem F1375_ok {B : World} {R : Ending → Heap → Prop} (a0 : Bool) (b0 : OA) (c0 d0 : Nat) (e0 f0 : Int) {h : Heap} (H : F1375 B R a0 b0 c0 d0 e0 f0 h) : Ec B 22 #[.agg #[.bool a0, .slice b0 c0 d0, .int .i64 e0], .int .i64 f0] R h :=
 Ek Tryz.func22 (by kernel_rfl) (by kernel_rfl) (by kernel_rfl) F1375_L [] (by kernel_rfl) H
end Go.Proofs
