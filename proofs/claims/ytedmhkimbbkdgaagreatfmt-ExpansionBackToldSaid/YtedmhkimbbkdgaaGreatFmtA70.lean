import Derived.Test.YtedmhkimbbkdgaaGreatFmtA03
/- Here stand lemmas: further functions: what they come to (written by program). -/
set_option linter.unusedVariables false
namespace Go.Proofs
open Go Go.Eng
/-- plumb/expansion.Exact -/
def F95 (B : World) (R : Po) (a0 : OA) (b0 c0 : Nat) (h : Heap) : Prop :=
 alW h (.cells #[.bool false, .slice none 0 0, .int .i64 0] 27) fun d0 e0 =>
 alW e0 (.cells #[.slice a0 b0 c0] 22) fun f0 g0 =>
 Ec B 22 #[.slice (some ⟨f0, 0, none⟩) 1 1] (retE (fun i0 j0 => ∃ k0, i0 = .int .i64 k0 ∧
((!decide (k0 = (0 : Int))) = true →
 iP d0 0 fun l0 m0 => stC j0 l0 m0 (.bool false) fun n0 =>
 stC n0 l0 (m0 + 1) (.slice none 0 0) fun o0 =>
 stC o0 l0 (m0 + 1 + 1) (.int .i64 0) fun p0 =>
 iP d0 0 fun q0 r0 =>
∃ s0, cell? p0 ⟨q0, r0, none⟩ = some (.bool s0) ∧
∃ t0 u0 v0, cell? p0 ⟨q0, r0 + 1, none⟩ = some (.slice t0 u0 v0) ∧
∃ w0, cell? p0 ⟨q0, r0 + 1 + 1, none⟩ = some (.int .i64 w0) ∧
 R (.returned (.tuple #[.agg #[.bool s0, .slice t0 u0 v0, .int .i64 w0], .int .i64 k0])) p0) ∧
((!decide (k0 = (0 : Int))) = false →
 0 ≤ (b0 : Int) ∧ (b0 : Int) ≤ (b0 : Int) ∧ 40 * (b0 : Int) ≤ 281474976710656 ∧ (b0 : Int) < 9223372036854775808 ∧
 alW j0 (.cells (mkCells #[.bool false, .slice none 0 0, .int .i64 0] (Int.toNat (b0 : Int) * 3)) 27) fun x0 y0 =>
∃ z0 : Lp, ∃ a1, z0 a1 [.slice a0 b0 c0, .pointer (some ⟨d0, 0, none⟩), .slice (some ⟨x0, 0, none⟩) (Int.toNat (b0 : Int)) (Int.toNat (b0 : Int)), .int .i64 (b0 : Int), .int .i64 (0 : Int)] y0 ∧
∀ (b1 : Nat) (c1 : Heap) (d1 : OA) (e1 f1 : Nat) (g1 i1 : OA) (j1 k1 : Nat) (l1 m1 : Int), z0 b1 [.slice d1 e1 f1, .pointer g1, .slice i1 j1 k1, .int .i64 l1, .int .i64 m1] c1 → ∀ _r : Nat → Value,
((decide (m1 < l1)) = true →
 ixW d1 e1 m1 1 fun n1 o1 =>
 iP n1 o1 fun p1 q1 => ∃ r1, cI c1 p1 q1 .i64 r1 ∧
 Ec B 18 #[.int .i64 r1] (retE (fun s1 t1 => ∃ u1 v1 w1 x1 y1 z1, s1 = .tuple #[.agg #[.bool u1, .slice v1 w1 x1, .int .i64 y1], .int .i64 z1] ∧
 ixW i1 j1 m1 3 fun a2 b2 =>
 iP a2 b2 fun c2 d2 => stC t1 c2 d2 (.bool u1) fun e2 =>
 stC e2 c2 (d2 + 1) (.slice v1 w1 x1) fun f2 =>
 stC f2 c2 (d2 + 1 + 1) (.int .i64 y1) fun g2 =>
∃ i2, i2 < b1 ∧ z0 i2 [.slice d1 e1 f1, .pointer g1, .slice i1 j1 k1, .int .i64 l1, .int .i64 (IntKind.i64.wrap (m1 + (1 : Int)))] g2)
(pk R)) c1) ∧
((decide (m1 < l1)) = false →
 Ec B 30 #[.slice i1 j1 k1] (retE (fun j2 k2 => ∃ l2 m2 n2 o2 p2 q2, j2 = .tuple #[.agg #[.bool l2, .slice m2 n2 o2, .int .i64 p2], .int .i64 q2] ∧
 isP g1 fun r2 s2 => stC k2 r2 s2 (.bool l2) fun t2 =>
 stC t2 r2 (s2 + 1) (.slice m2 n2 o2) fun u2 =>
 stC u2 r2 (s2 + 1 + 1) (.int .i64 p2) fun v2 =>
 isP g1 fun w2 x2 =>
∃ y2, cell? v2 ⟨w2, x2, none⟩ = some (.bool y2) ∧
∃ z2 a3 b3, cell? v2 ⟨w2, x2 + 1, none⟩ = some (.slice z2 a3 b3) ∧
∃ c3, cell? v2 ⟨w2, x2 + 1 + 1, none⟩ = some (.int .i64 c3) ∧
 R (.returned (.tuple #[.agg #[.bool y2, .slice z2 a3 b3, .int .i64 c3], .int .i64 q2])) v2)
(pk R)) c1)))
(pk R)) g0
def F95_L : Nat → List (Nat × TypeDesc) := fun i => match i with
  | 6 => [(0, .slice 0), (2, .pointer 0), (5, .slice 0), (18, .int .i64), (19, .int .i64)]
  | _ => []
theorem F95_ok {B : World} {R : Ending → Heap → Prop} (a0 : OA) (b0 c0 : Nat) {h : Heap} (H : F95 B R a0 b0 c0 h) : Ec B 13 #[.slice a0 b0 c0] R h :=
 Ek Tryz.func13 (by kernel_rfl) (by kernel_rfl) (by kernel_rfl) F95_L [] (by kernel_rfl) H
end Go.Proofs
namespace Go.Proofs
open Go Go.Eng
/-- plumb/plumblaw7.ExpansionBack -/
def F1340_j84 (B : World) (R : Po) (a0 : Bool) (b0 : Heap) : Prop :=
 R (.returned (.bool a0)) b0
def F1340_j79 (B : World) (R : Po) (c0 : OA) (d0 e0 : Nat) (f0 : OA) (g0 i0 : Nat) (j0 : Bool) (k0 : Heap) : Prop :=
(j0 = true →
 F1340_j84 B R (decide ((g0 : Int) ≤ (IntKind.i64.wrap ((IntKind.i64.wrap ((d0 : Int) * (3 : Int))) + (1 : Int))))) k0) ∧
(j0 = false →
 F1340_j84 B R false k0)
def F1340_j57 (B : World) (R : Po) (l0 : OA) (m0 n0 : Nat) (o0 p0 : OA) (q0 r0 : Nat) (s0 : OA) (t0 : Bool) (u0 : Heap) : Prop :=
(t0 = true →
 isP o0 fun v0 w0 =>
∃ x0, cell? u0 ⟨v0, w0, none⟩ = some (.bool x0) ∧
∃ y0 z0 a1, cell? u0 ⟨v0, w0 + 1, none⟩ = some (.slice y0 z0 a1) ∧
∃ b1, cell? u0 ⟨v0, w0 + 1 + 1, none⟩ = some (.int .i64 b1) ∧
 isP s0 fun c1 d1 =>
∃ e1, cell? u0 ⟨c1, d1, none⟩ = some (.bool e1) ∧
∃ f1 g1 i1, cell? u0 ⟨c1, d1 + 1, none⟩ = some (.slice f1 g1 i1) ∧
∃ j1, cell? u0 ⟨c1, d1 + 1 + 1, none⟩ = some (.int .i64 j1) ∧
 Ec B 8 #[.agg #[.bool x0, .slice y0 z0 a1, .int .i64 b1], .agg #[.bool e1, .slice f1 g1 i1, .int .i64 j1]] (retE (fun k1 l1 => ∃ m1, k1 = .bool m1 ∧
 F1340_j79 B R l0 m0 n0 p0 q0 r0 m1 l1)
(pk R)) u0) ∧
(t0 = false →
 F1340_j79 B R l0 m0 n0 p0 q0 r0 false u0)
def F1340_j3 (B : World) (R : Po) (n1 : OA) (o1 p1 : Nat) (q1 : Bool) (r1 : Heap) : Prop :=
(q1 = true →
 R (.returned (.bool false)) r1) ∧
(q1 = false →
 Ec B 6 #[.slice n1 o1 p1] (retE (fun s1 t1 => ∃ u1 v1 w1 x1 y1 z1, s1 = .tuple #[.agg #[.bool u1, .slice v1 w1 x1, .int .i64 y1], .bool z1] ∧
 alW t1 (.cells #[.bool false, .slice none 0 0, .int .i64 0] 27) fun a2 b2 =>
 iP a2 0 fun c2 d2 => stC b2 c2 d2 (.bool u1) fun e2 =>
 stC e2 c2 (d2 + 1) (.slice v1 w1 x1) fun f2 =>
 stC f2 c2 (d2 + 1 + 1) (.int .i64 y1) fun g2 =>
 iP a2 0 fun i2 j2 =>
∃ k2, cell? g2 ⟨i2, j2, none⟩ = some (.bool k2) ∧
∃ l2 m2 n2, cell? g2 ⟨i2, j2 + 1, none⟩ = some (.slice l2 m2 n2) ∧
∃ o2, cell? g2 ⟨i2, j2 + 1 + 1, none⟩ = some (.int .i64 o2) ∧
 Ec B 7 #[.agg #[.bool k2, .slice l2 m2 n2, .int .i64 o2]] (retE (fun p2 q2 => ∃ r2 s2 t2 u2, p2 = .tuple #[.slice r2 s2 t2, .int .i64 u2] ∧
 Ec B 6 #[.slice r2 s2 t2] (retE (fun v2 w2 => ∃ x2 y2 z2 a3 b3 c3, v2 = .tuple #[.agg #[.bool x2, .slice y2 z2 a3, .int .i64 b3], .bool c3] ∧
 alW w2 (.cells #[.bool false, .slice none 0 0, .int .i64 0] 27) fun d3 e3 =>
 iP d3 0 fun f3 g3 => stC e3 f3 g3 (.bool x2) fun i3 =>
 stC i3 f3 (g3 + 1) (.slice y2 z2 a3) fun j3 =>
 stC j3 f3 (g3 + 1 + 1) (.int .i64 b3) fun k3 =>
((decide (u2 = (0 : Int))) = true →
 F1340_j57 B R n1 o1 p1 (some ⟨a2, 0, none⟩) r2 s2 t2 (some ⟨d3, 0, none⟩) c3 k3) ∧
((decide (u2 = (0 : Int))) = false →
 F1340_j57 B R n1 o1 p1 (some ⟨a2, 0, none⟩) r2 s2 t2 (some ⟨d3, 0, none⟩) false k3))
(pk R)) q2)
(pk R)) g2)
(pk R)) r1)
def F1340 (B : World) (R : Po) (l3 : OA) (m3 n3 : Nat) (h : Heap) : Prop :=
 Ec B 4 #[.slice l3 m3 n3, .int .i64 (12 : Int)] (retE (fun o3 p3 => ∃ q3 r3 s3 t3, o3 = .tuple #[.slice q3 r3 s3, .bool t3] ∧
 Ec B 5 #[] (retE (fun u3 v3 => ∃ w3, u3 = .bool w3 ∧
((!w3) = true →
 F1340_j3 B R q3 r3 s3 true v3) ∧
((!w3) = false →
 F1340_j3 B R q3 r3 s3 (!t3) v3))
(pk R)) p3)
(pk R)) h
def F1340_L : Nat → List (Nat × TypeDesc) := fun _ => []
def F1340_J (B : World) (R : Po) : Nat → Option JT := fun i => match i with
  | 3 => some ⟨[(3, .slice 0), (21, .bool)], fun s v h => match s, v with
    | [], [.slice n1 o1 p1, .bool q1] => F1340_j3 B R n1 o1 p1 q1 h
    | _, _ => False⟩
  | _ => none
theorem F1340_ok {B : World} {R : Ending → Heap → Prop} (l3 : OA) (m3 n3 : Nat) {h : Heap} (H : F1340 B R l3 m3 n3 h) : Ec B 3 #[.slice l3 m3 n3] R h :=
 Ej Tryz.func3 (by kernel_rfl) (by kernel_rfl) (by kernel_rfl) F1340_L (F1340_J B R) [] (by kernel_rfl) (by kernel_rfl) H
end Go.Proofs
namespace Go.Proofs
open Go Go.Eng
/-- plumb/expansion.Parts -/
def F1341_j99 (B : World) (R : Po) (c3 d3 : Nat) (a0 : Lp) (b0 : Nat) (c0 d0 e0 : OA) (f0 : Int) (g0 : Bool) (i0 j0 : OA) (k0 : Heap) : Prop :=
(g0 = true →
 Enters Tryz.prog 14 ∧ FnD Tryz.prog B 14 #[.pointer i0, .pointer j0] (.panicking [{ v := .iface 48 (.agg #[]), recovered := false }]) (dfE fun l0 m0 => lvW (fun n0 => isP d0 fun o0 p0 => ∃ q0 r0 s0, cS n0 o0 p0 q0 r0 s0 ∧
 isP e0 fun t0 u0 => ∃ v0, cI n0 t0 u0 .i64 v0 ∧
 R (.returned (.tuple #[.slice q0 r0 s0, .int .i64 v0])) n0) (pk R) l0 m0) k0) ∧
(g0 = false →
 isP d0 fun w0 x0 => ∃ y0 z0 a1, cS k0 w0 x0 y0 z0 a1 ∧
 alW k0 (.cells #[.int .i64 f0] 3) fun b1 c1 =>
 apW c1 y0 z0 a1 (some ⟨b1, 0, none⟩) 1 1 8 3 #[.int .i64 0] fun d1 e1 f1 g1 =>
 isP d0 fun i1 j1 => stC g1 i1 j1 (.slice d1 e1 f1) fun k1 =>
 Ec B 18 #[.int .i64 f0] (retE (fun l1 m1 => ∃ n1 o1 p1 q1 r1 s1, l1 = .tuple #[.agg #[.bool n1, .slice o1 p1 q1, .int .i64 r1], .int .i64 s1] ∧
 alW m1 (.cells #[.bool false, .slice none 0 0, .int .i64 0] 27) fun t1 u1 =>
 iP t1 0 fun v1 w1 => stC u1 v1 w1 (.bool n1) fun x1 =>
 stC x1 v1 (w1 + 1) (.slice o1 p1 q1) fun y1 =>
 stC y1 v1 (w1 + 1 + 1) (.int .i64 r1) fun z1 =>
 isP c0 fun a2 b2 =>
∃ c2, cell? z1 ⟨a2, b2, none⟩ = some (.bool c2) ∧
∃ d2 e2 f2, cell? z1 ⟨a2, b2 + 1, none⟩ = some (.slice d2 e2 f2) ∧
∃ g2, cell? z1 ⟨a2, b2 + 1 + 1, none⟩ = some (.int .i64 g2) ∧
 iP t1 0 fun i2 j2 =>
∃ k2, cell? z1 ⟨i2, j2, none⟩ = some (.bool k2) ∧
∃ l2 m2 n2, cell? z1 ⟨i2, j2 + 1, none⟩ = some (.slice l2 m2 n2) ∧
∃ o2, cell? z1 ⟨i2, j2 + 1 + 1, none⟩ = some (.int .i64 o2) ∧
 Ec B 19 #[.agg #[.bool c2, .slice d2 e2 f2, .int .i64 g2], .agg #[.bool k2, .slice l2 m2 n2, .int .i64 o2]] (retE (fun p2 q2 => ∃ r2 s2 t2 u2 v2 w2, p2 = .tuple #[.agg #[.bool r2, .slice s2 t2 u2, .int .i64 v2], .int .i64 w2] ∧
 isP c0 fun x2 y2 => stC q2 x2 y2 (.bool r2) fun z2 =>
 stC z2 x2 (y2 + 1) (.slice s2 t2 u2) fun a3 =>
 stC a3 x2 (y2 + 1 + 1) (.int .i64 v2) fun b3 =>
([{ target := .fn (.func 14) #[], args := #[.pointer i0, .pointer j0] }] : List Deferred) = [{ target := .fn (.func 14) #[], args := #[.pointer (some ⟨c3, 0, none⟩), .pointer (some ⟨d3, 0, none⟩)] }] ∧ ∃ e3, e3 < b0 ∧ a0 e3 [.pointer c0, .pointer d0, .pointer e0] b3)
(fun f3 g3 => Enters Tryz.prog 14 ∧ FnD Tryz.prog B 14 #[.pointer i0, .pointer j0] (.panicking f3) (dfE fun i3 j3 => lvW (fun k3 => isP d0 fun l3 m3 => ∃ n3 o3 p3, cS k3 l3 m3 n3 o3 p3 ∧
 isP e0 fun q3 r3 => ∃ s3, cI k3 q3 r3 .i64 s3 ∧
 R (.returned (.tuple #[.slice n3 o3 p3, .int .i64 s3])) k3) (pk R) i3 j3) g3)) z1)
(fun t3 u3 => Enters Tryz.prog 14 ∧ FnD Tryz.prog B 14 #[.pointer i0, .pointer j0] (.panicking t3) (dfE fun v3 w3 => lvW (fun x3 => isP d0 fun y3 z3 => ∃ a4 b4 c4, cS x3 y3 z3 a4 b4 c4 ∧
 isP e0 fun d4 e4 => ∃ f4, cI x3 d4 e4 .i64 f4 ∧
 R (.returned (.tuple #[.slice a4 b4 c4, .int .i64 f4])) x3) (pk R) v3 w3) u3)) k1)
def F1341_j241 (B : World) (R : Po) (c3 d3 : Nat) (a0 : Lp) (b0 : Nat) (g4 : Lp) (i4 : Nat) (j4 k4 : OA) (l4 m4 : Int) (n4 o4 : OA) (p4 : Heap) : Prop :=
([{ target := .fn (.func 14) #[], args := #[.pointer n4, .pointer o4] }] : List Deferred) = [{ target := .fn (.func 14) #[], args := #[.pointer (some ⟨c3, 0, none⟩), .pointer (some ⟨d3, 0, none⟩)] }] ∧ ∃ q4, q4 < i4 ∧ g4 q4 [.pointer j4, .pointer k4, .int .i64 l4, .int .i64 (IntKind.i64.wrap (m4 + (1 : Int)))] p4
def F1341 (B : World) (R : Po) (r4 : Bool) (s4 : OA) (t4 u4 : Nat) (v4 : Int) (h : Heap) : Prop :=
 alW h (.cells #[.bool r4, .slice s4 t4 u4, .int .i64 v4] 27) fun w4 x4 =>
 alW x4 (.cells #[.slice none 0 0] 22) fun c3 y4 =>
 alW y4 (.cells #[.int .i64 0] 30) fun d3 z4 =>
 iP w4 0 fun a5 b5 =>
∃ c5, cell? z4 ⟨a5, b5, none⟩ = some (.bool c5) ∧
∃ d5 e5 f5, cell? z4 ⟨a5, b5 + 1, none⟩ = some (.slice d5 e5 f5) ∧
∃ g5, cell? z4 ⟨a5, b5 + 1 + 1, none⟩ = some (.int .i64 g5) ∧
 Ec B 15 #[.agg #[.bool c5, .slice d5 e5 f5, .int .i64 g5]] (retE (fun i5 j5 => ∃ k5, i5 = .bool k5 ∧
((!k5) = true →
 iP c3 0 fun l5 m5 => stC j5 l5 m5 (.slice none 0 0) fun n5 =>
 iP d3 0 fun o5 p5 => stC n5 o5 p5 (.int .i64 (11 : Int)) fun q5 =>
 Enters Tryz.prog 14 ∧ FnD Tryz.prog B 14 #[.pointer (some ⟨c3, 0, none⟩), .pointer (some ⟨d3, 0, none⟩)] .returning (dfE fun r5 s5 => lvW (fun t5 => iP c3 0 fun u5 v5 => ∃ w5 x5 y5, cS t5 u5 v5 w5 x5 y5 ∧
 iP d3 0 fun z5 a6 => ∃ b6, cI t5 z5 a6 .i64 b6 ∧
 R (.returned (.tuple #[.slice w5 x5 y5, .int .i64 b6])) t5) (pk R) r5 s5) q5) ∧
((!k5) = false →
 ∃ a0 : Lp, ∃ c6, a0 c6 [.pointer (some ⟨w4, 0, none⟩), .pointer (some ⟨c3, 0, none⟩), .pointer (some ⟨d3, 0, none⟩)] j5 ∧
∀ (b0 : Nat) (d6 : Heap) (e6 f6 g6 : OA), a0 b0 [.pointer e6, .pointer f6, .pointer g6] d6 → ∀ _r : Nat → Value,
 isP e6 fun i6 j6 =>
 isP (some ⟨i6, j6 + 1, none⟩) fun k6 l6 => ∃ m6 n6 o6, cS d6 k6 l6 m6 n6 o6 ∧
((decide ((0 : Int) < (n6 : Int))) = true →
 isP e6 fun p6 q6 =>
∃ r6, cell? d6 ⟨p6, q6, none⟩ = some (.bool r6) ∧
∃ s6 t6 u6, cell? d6 ⟨p6, q6 + 1, none⟩ = some (.slice s6 t6 u6) ∧
∃ v6, cell? d6 ⟨p6, q6 + 1 + 1, none⟩ = some (.int .i64 v6) ∧
 Ec B 16 #[.agg #[.bool r6, .slice s6 t6 u6, .int .i64 v6], .int .i64 (0 : Int)] (retE (fun w6 x6 => ∃ y6 z6 a7, w6 = .tuple #[.int .i64 y6, .bool z6, .int .i64 a7] ∧
 Ec B 17 #[.int .i64 y6] (retE (fun b7 c7 => ∃ d7, b7 = .int .i64 d7 ∧
((decide (d7 = (0 : Int))) = true →
 F1341_j99 B R c3 d3 a0 b0 e6 f6 g6 y6 true (some ⟨c3, 0, none⟩) (some ⟨d3, 0, none⟩) c7) ∧
((decide (d7 = (0 : Int))) = false →
 F1341_j99 B R c3 d3 a0 b0 e6 f6 g6 y6 (decide (d7 = (3 : Int))) (some ⟨c3, 0, none⟩) (some ⟨d3, 0, none⟩) c7))
(fun e7 f7 => Enters Tryz.prog 14 ∧ FnD Tryz.prog B 14 #[.pointer (some ⟨c3, 0, none⟩), .pointer (some ⟨d3, 0, none⟩)] (.panicking e7) (dfE fun g7 i7 => lvW (fun j7 => isP f6 fun k7 l7 => ∃ m7 n7 o7, cS j7 k7 l7 m7 n7 o7 ∧
 isP g6 fun p7 q7 => ∃ r7, cI j7 p7 q7 .i64 r7 ∧
 R (.returned (.tuple #[.slice m7 n7 o7, .int .i64 r7])) j7) (pk R) g7 i7) f7)) x6)
(fun s7 t7 => Enters Tryz.prog 14 ∧ FnD Tryz.prog B 14 #[.pointer (some ⟨c3, 0, none⟩), .pointer (some ⟨d3, 0, none⟩)] (.panicking s7) (dfE fun u7 v7 => lvW (fun w7 => isP f6 fun x7 y7 => ∃ z7 a8 b8, cS w7 x7 y7 z7 a8 b8 ∧
 isP g6 fun c8 d8 => ∃ e8, cI w7 c8 d8 .i64 e8 ∧
 R (.returned (.tuple #[.slice z7 a8 b8, .int .i64 e8])) w7) (pk R) u7 v7) t7)) d6) ∧
((decide ((0 : Int) < (n6 : Int))) = false →
 isP f6 fun f8 g8 => ∃ i8 j8 k8, cS d6 f8 g8 i8 j8 k8 ∧
(2 : Int) ≠ 0 ∧
∃ g4 : Lp, ∃ l8, g4 l8 [.pointer f6, .pointer g6, .int .i64 (IntKind.i64.wrap (Int.tdiv (j8 : Int) (2 : Int))), .int .i64 (0 : Int)] d6 ∧
∀ (i4 : Nat) (m8 : Heap) (n8 o8 : OA) (p8 q8 : Int), g4 i4 [.pointer n8, .pointer o8, .int .i64 p8, .int .i64 q8] m8 → ∀ _r : Nat → Value,
((decide (q8 < p8)) = true →
 isP n8 fun r8 s8 => ∃ t8 u8 v8, cS m8 r8 s8 t8 u8 v8 ∧
 isP n8 fun w8 x8 => ∃ y8 z8 a9, cS m8 w8 x8 y8 z8 a9 ∧
 isP n8 fun b9 c9 => ∃ d9 e9 f9, cS m8 b9 c9 d9 e9 f9 ∧
 isP n8 fun g9 i9 => ∃ j9 k9 l9, cS m8 g9 i9 j9 k9 l9 ∧
 isP n8 fun m9 n9 => ∃ o9 p9 q9, cS m8 m9 n9 o9 p9 q9 ∧
 ixW j9 k9 (IntKind.i64.wrap ((IntKind.i64.wrap ((p9 : Int) - (1 : Int))) - q8)) 1 fun r9 s9 =>
 iP r9 s9 fun t9 u9 => ∃ v9, cI m8 t9 u9 .i64 v9 ∧
 isP n8 fun w9 x9 => ∃ y9 z9 a10, cS m8 w9 x9 y9 z9 a10 ∧
 ixW y9 z9 q8 1 fun b10 c10 =>
 iP b10 c10 fun d10 e10 => ∃ f10, cI m8 d10 e10 .i64 f10 ∧
 ixW t8 u8 q8 1 fun g10 i10 =>
 iP g10 i10 fun j10 k10 => stC m8 j10 k10 (.int .i64 v9) fun l10 =>
 ixW y8 z8 (IntKind.i64.wrap ((IntKind.i64.wrap ((e9 : Int) - (1 : Int))) - q8)) 1 fun m10 n10 =>
 iP m10 n10 fun o10 p10 => stC l10 o10 p10 (.int .i64 f10) fun q10 =>
 F1341_j241 B R c3 d3 a0 b0 g4 i4 n8 o8 p8 q8 (some ⟨c3, 0, none⟩) (some ⟨d3, 0, none⟩) q10) ∧
((decide (q8 < p8)) = false →
 isP n8 fun r10 s10 => ∃ t10 u10 v10, cS m8 r10 s10 t10 u10 v10 ∧
 Ec B 20 #[.slice t10 u10 v10] (retE (fun w10 x10 => ∃ y10 z10 a11 b11, w10 = .tuple #[.slice y10 z10 a11, .int .i64 b11] ∧
 isP n8 fun c11 d11 => stC x10 c11 d11 (.slice y10 z10 a11) fun e11 =>
 isP o8 fun f11 g11 => stC e11 f11 g11 (.int .i64 b11) fun i11 =>
 Enters Tryz.prog 14 ∧ FnD Tryz.prog B 14 #[.pointer (some ⟨c3, 0, none⟩), .pointer (some ⟨d3, 0, none⟩)] .returning (dfE fun j11 k11 => lvW (fun l11 => isP n8 fun m11 n11 => ∃ o11 p11 q11, cS l11 m11 n11 o11 p11 q11 ∧
 isP o8 fun r11 s11 => ∃ t11, cI l11 r11 s11 .i64 t11 ∧
 R (.returned (.tuple #[.slice o11 p11 q11, .int .i64 t11])) l11) (pk R) j11 k11) i11)
(fun u11 v11 => Enters Tryz.prog 14 ∧ FnD Tryz.prog B 14 #[.pointer (some ⟨c3, 0, none⟩), .pointer (some ⟨d3, 0, none⟩)] (.panicking u11) (dfE fun w11 x11 => lvW (fun y11 => isP n8 fun z11 a12 => ∃ b12 c12 d12, cS y11 z11 a12 b12 c12 d12 ∧
 isP o8 fun e12 f12 => ∃ g12, cI y11 e12 f12 .i64 g12 ∧
 R (.returned (.tuple #[.slice b12 c12 d12, .int .i64 g12])) y11) (pk R) w11 x11) v11)) m8))))
(fun i12 j12 => Enters Tryz.prog 14 ∧ FnD Tryz.prog B 14 #[.pointer (some ⟨c3, 0, none⟩), .pointer (some ⟨d3, 0, none⟩)] (.panicking i12) (dfE fun k12 l12 => lvW (fun m12 => iP c3 0 fun n12 o12 => ∃ p12 q12 r12, cS m12 n12 o12 p12 q12 r12 ∧
 iP d3 0 fun s12 t12 => ∃ u12, cI m12 s12 t12 .i64 u12 ∧
 R (.returned (.tuple #[.slice p12 q12 r12, .int .i64 u12])) m12) (pk R) k12 l12) j12)) z4
def F1341_L : Nat → List (Nat × TypeDesc) := fun i => match i with
  | 4 => [(1, .pointer 0), (2, .pointer 0), (3, .pointer 0)]
  | 13 => [(2, .pointer 0), (3, .pointer 0), (51, .int .i64), (52, .int .i64)]
  | _ => []
theorem F1341_ok {B : World} {R : Ending → Heap → Prop} (r4 : Bool) (s4 : OA) (t4 u4 : Nat) (v4 : Int) {h : Heap} (H : F1341 B R r4 s4 t4 u4 v4 h) : Ec B 7 #[.agg #[.bool r4, .slice s4 t4 u4, .int .i64 v4]] R h :=
 Ed Tryz.func7 (by kernel_rfl) (by kernel_rfl) (by kernel_rfl) F1341_L [] (by kernel_rfl) H
end Go.Proofs
