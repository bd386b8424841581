import Derived.Test.YtkfafikejdhccaaGreatDoorA20
/- Here stand lemmas: what ExpansionProducts comes to (written by program). -/
set_option linter.unusedVariables false
namespace Go.Proofs
open Go Go.Eng
/-- plumb/plumblaw7.ExpansionProducts -/
def F10_j217 (B : World) (R : Po) (a0 : Bool) (b0 : Heap) : Prop :=
 R (.returned (.bool a0)) b0
def F10_j214 (B : World) (R : Po) (c0 : Bool) (d0 : Heap) : Prop :=
 F10_j217 B R c0 d0
def F10_j194 (B : World) (R : Po) (e0 f0 : OA) (g0 : Bool) (i0 : Heap) : Prop :=
(g0 = true →
 isP e0 fun j0 k0 =>
∃ l0, cell? i0 ⟨j0, k0, none⟩ = some (.bool l0) ∧
∃ m0 n0 o0, cell? i0 ⟨j0, k0 + 1, none⟩ = some (.slice m0 n0 o0) ∧
∃ p0, cell? i0 ⟨j0, k0 + 1 + 1, none⟩ = some (.int .i64 p0) ∧
 isP f0 fun q0 r0 =>
∃ s0, cell? i0 ⟨q0, r0, none⟩ = some (.bool s0) ∧
∃ t0 u0 v0, cell? i0 ⟨q0, r0 + 1, none⟩ = some (.slice t0 u0 v0) ∧
∃ w0, cell? i0 ⟨q0, r0 + 1 + 1, none⟩ = some (.int .i64 w0) ∧
 Ec B 41 #[.agg #[.bool l0, .slice m0 n0 o0, .int .i64 p0], .agg #[.bool s0, .slice t0 u0 v0, .int .i64 w0]] (retE (fun x0 y0 => ∃ z0, x0 = .bool z0 ∧
 F10_j214 B R z0 y0)
(pk R)) i0) ∧
(g0 = false →
 F10_j214 B R false i0)
def F10_j116 (B : World) (R : Po) (a1 : OA) (b1 c1 : Nat) (d1 : OA) (e1 f1 : Nat) (g1 i1 : OA) (j1 k1 : Nat) (l1 : Bool) (m1 : Heap) : Prop :=
(l1 = true →
 R (.returned (.bool false)) m1) ∧
(l1 = false →
((decide ((e1 : Int) = (0 : Int))) = true →
 R (.returned (.bool (decide ((j1 : Int) = (0 : Int))))) m1) ∧
((decide ((e1 : Int) = (0 : Int))) = false →
 ixW d1 e1 (0 : Int) 1 fun n1 o1 =>
 iP n1 o1 fun p1 q1 => ∃ r1, cI m1 p1 q1 .i64 r1 ∧
 Ec B 35 #[.slice a1 b1 c1, .int .i64 r1] (retE (fun s1 t1 => ∃ u1 v1 w1 x1, s1 = .tuple #[.slice u1 v1 w1, .int .i64 x1] ∧
 Ec B 39 #[.slice u1 v1 w1] (retE (fun y1 z1 => ∃ a2 b2 c2 d2 e2 f2, y1 = .tuple #[.agg #[.bool a2, .slice b2 c2 d2, .int .i64 e2], .bool f2] ∧
 alW z1 (.cells #[.bool false, .slice none 0 0, .int .i64 0] 29) fun g2 i2 =>
 iP g2 0 fun j2 k2 => stC i2 j2 k2 (.bool a2) fun l2 =>
 stC l2 j2 (k2 + 1) (.slice b2 c2 d2) fun m2 =>
 stC m2 j2 (k2 + 1 + 1) (.int .i64 e2) fun n2 =>
 ixW d1 e1 (0 : Int) 1 fun o2 p2 =>
 iP o2 p2 fun q2 r2 => ∃ s2, cI n2 q2 r2 .i64 s2 ∧
 Ec B 21 #[.int .i64 s2] (retE (fun t2 u2 => ∃ v2 w2 x2 y2 z2 a3, t2 = .tuple #[.agg #[.bool v2, .slice w2 x2 y2, .int .i64 z2], .int .i64 a3] ∧
 alW u2 (.cells #[.bool false, .slice none 0 0, .int .i64 0] 29) fun b3 c3 =>
 iP b3 0 fun d3 e3 => stC c3 d3 e3 (.bool v2) fun f3 =>
 stC f3 d3 (e3 + 1) (.slice w2 x2 y2) fun g3 =>
 stC g3 d3 (e3 + 1 + 1) (.int .i64 z2) fun i3 =>
 isP g1 fun j3 k3 =>
∃ l3, cell? i3 ⟨j3, k3, none⟩ = some (.bool l3) ∧
∃ m3 n3 o3, cell? i3 ⟨j3, k3 + 1, none⟩ = some (.slice m3 n3 o3) ∧
∃ p3, cell? i3 ⟨j3, k3 + 1 + 1, none⟩ = some (.int .i64 p3) ∧
 iP b3 0 fun q3 r3 =>
∃ s3, cell? i3 ⟨q3, r3, none⟩ = some (.bool s3) ∧
∃ t3 u3 v3, cell? i3 ⟨q3, r3 + 1, none⟩ = some (.slice t3 u3 v3) ∧
∃ w3, cell? i3 ⟨q3, r3 + 1 + 1, none⟩ = some (.int .i64 w3) ∧
 Ec B 23 #[.agg #[.bool l3, .slice m3 n3 o3, .int .i64 p3], .agg #[.bool s3, .slice t3 u3 v3, .int .i64 w3]] (retE (fun x3 y3 => ∃ z3 a4 b4 c4 d4 e4, x3 = .tuple #[.agg #[.bool z3, .slice a4 b4 c4, .int .i64 d4], .int .i64 e4] ∧
 alW y3 (.cells #[.bool false, .slice none 0 0, .int .i64 0] 29) fun f4 g4 =>
 iP f4 0 fun i4 j4 => stC g4 i4 j4 (.bool z3) fun k4 =>
 stC k4 i4 (j4 + 1) (.slice a4 b4 c4) fun l4 =>
 stC l4 i4 (j4 + 1 + 1) (.int .i64 d4) fun m4 =>
((decide (x1 = (0 : Int))) = true →
 F10_j194 B R (some ⟨g2, 0, none⟩) (some ⟨f4, 0, none⟩) f2 m4) ∧
((decide (x1 = (0 : Int))) = false →
 F10_j194 B R (some ⟨g2, 0, none⟩) (some ⟨f4, 0, none⟩) false m4))
(pk R)) i3)
(pk R)) n2)
(pk R)) t1)
(pk R)) m1))
def F10_j107 (B : World) (R : Po) (n4 : OA) (o4 p4 : Nat) (q4 : OA) (r4 s4 : Nat) (t4 u4 : OA) (v4 w4 : Nat) (x4 y4 : OA) (z4 : Bool) (a5 : Heap) : Prop :=
(z4 = true →
 F10_j116 B R n4 o4 p4 q4 r4 s4 t4 u4 v4 w4 true a5) ∧
(z4 = false →
 isP x4 fun b5 c5 =>
∃ d5, cell? a5 ⟨b5, c5, none⟩ = some (.bool d5) ∧
∃ e5 f5 g5, cell? a5 ⟨b5, c5 + 1, none⟩ = some (.slice e5 f5 g5) ∧
∃ i5, cell? a5 ⟨b5, c5 + 1 + 1, none⟩ = some (.int .i64 i5) ∧
 isP y4 fun j5 k5 =>
∃ l5, cell? a5 ⟨j5, k5, none⟩ = some (.bool l5) ∧
∃ m5 n5 o5, cell? a5 ⟨j5, k5 + 1, none⟩ = some (.slice m5 n5 o5) ∧
∃ p5, cell? a5 ⟨j5, k5 + 1 + 1, none⟩ = some (.int .i64 p5) ∧
 Ec B 41 #[.agg #[.bool d5, .slice e5 f5 g5, .int .i64 i5], .agg #[.bool l5, .slice m5 n5 o5, .int .i64 p5]] (retE (fun q5 r5 => ∃ s5, q5 = .bool s5 ∧
 F10_j116 B R n4 o4 p4 q4 r4 s4 t4 u4 v4 w4 (!s5) r5)
(pk R)) a5)
def F10_j26 (B : World) (R : Po) (t5 : OA) (u5 v5 : Nat) (w5 : OA) (x5 y5 : Nat) (z5 : Bool) (a6 : Heap) : Prop :=
(z5 = true →
 R (.returned (.bool false)) a6) ∧
(z5 = false →
 Ec B 39 #[.slice t5 u5 v5] (retE (fun b6 c6 => ∃ d6 e6 f6 g6 i6 j6, b6 = .tuple #[.agg #[.bool d6, .slice e6 f6 g6, .int .i64 i6], .bool j6] ∧
 alW c6 (.cells #[.bool false, .slice none 0 0, .int .i64 0] 29) fun k6 l6 =>
 iP k6 0 fun m6 n6 => stC l6 m6 n6 (.bool d6) fun o6 =>
 stC o6 m6 (n6 + 1) (.slice e6 f6 g6) fun p6 =>
 stC p6 m6 (n6 + 1 + 1) (.int .i64 i6) fun q6 =>
 Ec B 39 #[.slice w5 x5 y5] (retE (fun r6 s6 => ∃ t6 u6 v6 w6 x6 y6, r6 = .tuple #[.agg #[.bool t6, .slice u6 v6 w6, .int .i64 x6], .bool y6] ∧
 alW s6 (.cells #[.bool false, .slice none 0 0, .int .i64 0] 29) fun z6 a7 =>
 iP z6 0 fun b7 c7 => stC a7 b7 c7 (.bool t6) fun d7 =>
 stC d7 b7 (c7 + 1) (.slice u6 v6 w6) fun e7 =>
 stC e7 b7 (c7 + 1 + 1) (.int .i64 x6) fun f7 =>
 Ec B 40 #[.slice t5 u5 v5, .slice w5 x5 y5] (retE (fun g7 i7 => ∃ j7 k7 l7 m7, g7 = .tuple #[.slice j7 k7 l7, .int .i64 m7] ∧
 Ec B 39 #[.slice j7 k7 l7] (retE (fun n7 o7 => ∃ p7 q7 r7 s7 t7 u7, n7 = .tuple #[.agg #[.bool p7, .slice q7 r7 s7, .int .i64 t7], .bool u7] ∧
 alW o7 (.cells #[.bool false, .slice none 0 0, .int .i64 0] 29) fun v7 w7 =>
 iP v7 0 fun x7 y7 => stC w7 x7 y7 (.bool p7) fun z7 =>
 stC z7 x7 (y7 + 1) (.slice q7 r7 s7) fun a8 =>
 stC a8 x7 (y7 + 1 + 1) (.int .i64 t7) fun b8 =>
 iP k6 0 fun c8 d8 =>
∃ e8, cell? b8 ⟨c8, d8, none⟩ = some (.bool e8) ∧
∃ f8 g8 i8, cell? b8 ⟨c8, d8 + 1, none⟩ = some (.slice f8 g8 i8) ∧
∃ j8, cell? b8 ⟨c8, d8 + 1 + 1, none⟩ = some (.int .i64 j8) ∧
 iP z6 0 fun k8 l8 =>
∃ m8, cell? b8 ⟨k8, l8, none⟩ = some (.bool m8) ∧
∃ n8 o8 p8, cell? b8 ⟨k8, l8 + 1, none⟩ = some (.slice n8 o8 p8) ∧
∃ q8, cell? b8 ⟨k8, l8 + 1 + 1, none⟩ = some (.int .i64 q8) ∧
 Ec B 23 #[.agg #[.bool e8, .slice f8 g8 i8, .int .i64 j8], .agg #[.bool m8, .slice n8 o8 p8, .int .i64 q8]] (retE (fun r8 s8 => ∃ t8 u8 v8 w8 x8 y8, r8 = .tuple #[.agg #[.bool t8, .slice u8 v8 w8, .int .i64 x8], .int .i64 y8] ∧
 alW s8 (.cells #[.bool false, .slice none 0 0, .int .i64 0] 29) fun z8 a9 =>
 iP z8 0 fun b9 c9 => stC a9 b9 c9 (.bool t8) fun d9 =>
 stC d9 b9 (c9 + 1) (.slice u8 v8 w8) fun e9 =>
 stC e9 b9 (c9 + 1 + 1) (.int .i64 x8) fun f9 =>
((!decide (m7 = (0 : Int))) = true →
 F10_j107 B R t5 u5 v5 w5 x5 y5 (some ⟨k6, 0, none⟩) j7 k7 l7 (some ⟨v7, 0, none⟩) (some ⟨z8, 0, none⟩) true f9) ∧
((!decide (m7 = (0 : Int))) = false →
 F10_j107 B R t5 u5 v5 w5 x5 y5 (some ⟨k6, 0, none⟩) j7 k7 l7 (some ⟨v7, 0, none⟩) (some ⟨z8, 0, none⟩) (!u7) f9))
(pk R)) b8)
(pk R)) i7)
(pk R)) f7)
(pk R)) q6)
(pk R)) a6)
def F10_j20 (B : World) (R : Po) (g9 : OA) (i9 j9 : Nat) (k9 : OA) (l9 m9 : Nat) (n9 o9 : Bool) (p9 : Heap) : Prop :=
(o9 = true →
 F10_j26 B R g9 i9 j9 k9 l9 m9 true p9) ∧
(o9 = false →
 F10_j26 B R g9 i9 j9 k9 l9 m9 (!n9) p9)
def F10 (B : World) (R : Po) (q9 : OA) (r9 s9 : Nat) (t9 : OA) (u9 v9 : Nat) (h : Heap) : Prop :=
 Ec B 38 #[.slice q9 r9 s9, .int .i64 (6 : Int)] (retE (fun w9 x9 => ∃ y9 z9 a10 b10, w9 = .tuple #[.slice y9 z9 a10, .bool b10] ∧
 Ec B 38 #[.slice t9 u9 v9, .int .i64 (6 : Int)] (retE (fun c10 d10 => ∃ e10 f10 g10 i10, c10 = .tuple #[.slice e10 f10 g10, .bool i10] ∧
 Ec B 29 #[] (retE (fun j10 k10 => ∃ l10, j10 = .bool l10 ∧
((!l10) = true →
 F10_j20 B R y9 z9 a10 e10 f10 g10 i10 true k10) ∧
((!l10) = false →
 F10_j20 B R y9 z9 a10 e10 f10 g10 i10 (!b10) k10))
(pk R)) d10)
(pk R)) x9)
(pk R)) h
def F10_L : Nat → List (Nat × TypeDesc) := fun _ => []
theorem F10_ok {B : World} {R : Ending → Heap → Prop} (q9 : OA) (r9 s9 : Nat) (t9 : OA) (u9 v9 : Nat) {h : Heap} (H : F10 B R q9 r9 s9 t9 u9 v9 h) : Ec B 10 #[.slice q9 r9 s9, .slice t9 u9 v9] R h :=
 Ek Tryz.func10 (by kernel_rfl) (by kernel_rfl) (by kernel_rfl) F10_L [] (by kernel_rfl) H
end Go.Proofs
