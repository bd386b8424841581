import Derived.Test.YtkfafikejdhccaaGreatDoorA20
/- Here stand lemmas: what further functions come to (written by program). -/
set_option linter.unusedVariables false
namespace Go.Proofs
open Go Go.Eng
/-- plumb/plumblaw6.EftHalves -/
def F7_j53 (B : World) (R : Po) (a0 : Int) (b0 c0 : OA) (d0 : Bool) (e0 : Heap) : Prop :=
(d0 = true →
 R (.returned (.bool false)) e0) ∧
(d0 = false →
 isP b0 fun f0 g0 =>
∃ i0, cell? e0 ⟨f0, g0, none⟩ = some (.bool i0) ∧
∃ j0 k0 l0, cell? e0 ⟨f0, g0 + 1, none⟩ = some (.slice j0 k0 l0) ∧
∃ m0, cell? e0 ⟨f0, g0 + 1 + 1, none⟩ = some (.int .i64 m0) ∧
 isP c0 fun n0 o0 =>
∃ p0, cell? e0 ⟨n0, o0, none⟩ = some (.bool p0) ∧
∃ q0 r0 s0, cell? e0 ⟨n0, o0 + 1, none⟩ = some (.slice q0 r0 s0) ∧
∃ t0, cell? e0 ⟨n0, o0 + 1 + 1, none⟩ = some (.int .i64 t0) ∧
 Ec B 22 #[.agg #[.bool i0, .slice j0 k0 l0, .int .i64 m0], .agg #[.bool p0, .slice q0 r0 s0, .int .i64 t0]] (retE (fun u0 v0 => ∃ w0 x0 y0 z0 a1 b1, u0 = .tuple #[.agg #[.bool w0, .slice x0 y0 z0, .int .i64 a1], .int .i64 b1] ∧
 alW v0 (.cells #[.bool false, .slice none 0 0, .int .i64 0] 29) fun c1 d1 =>
 iP c1 0 fun e1 f1 => stC d1 e1 f1 (.bool w0) fun g1 =>
 stC g1 e1 (f1 + 1) (.slice x0 y0 z0) fun i1 =>
 stC i1 e1 (f1 + 1 + 1) (.int .i64 a1) fun j1 =>
 Ec B 21 #[.int .i64 a0] (retE (fun k1 l1 => ∃ m1 n1 o1 p1 q1 r1, k1 = .tuple #[.agg #[.bool m1, .slice n1 o1 p1, .int .i64 q1], .int .i64 r1] ∧
 alW l1 (.cells #[.bool false, .slice none 0 0, .int .i64 0] 29) fun s1 t1 =>
 iP s1 0 fun u1 v1 => stC t1 u1 v1 (.bool m1) fun w1 =>
 stC w1 u1 (v1 + 1) (.slice n1 o1 p1) fun x1 =>
 stC x1 u1 (v1 + 1 + 1) (.int .i64 q1) fun y1 =>
 iP c1 0 fun z1 a2 =>
∃ b2, cell? y1 ⟨z1, a2, none⟩ = some (.bool b2) ∧
∃ c2 d2 e2, cell? y1 ⟨z1, a2 + 1, none⟩ = some (.slice c2 d2 e2) ∧
∃ f2, cell? y1 ⟨z1, a2 + 1 + 1, none⟩ = some (.int .i64 f2) ∧
 iP s1 0 fun g2 i2 =>
∃ j2, cell? y1 ⟨g2, i2, none⟩ = some (.bool j2) ∧
∃ k2 l2 m2, cell? y1 ⟨g2, i2 + 1, none⟩ = some (.slice k2 l2 m2) ∧
∃ n2, cell? y1 ⟨g2, i2 + 1 + 1, none⟩ = some (.int .i64 n2) ∧
 Ec B 28 #[.agg #[.bool b2, .slice c2 d2 e2, .int .i64 f2], .agg #[.bool j2, .slice k2 l2 m2, .int .i64 n2]] (retE (fun o2 p2 => ∃ q2 r2, o2 = .tuple #[.int .i64 q2, .int .i64 r2] ∧
 R (.returned (.bool (decide (q2 = (0 : Int))))) p2)
(pk R)) y1)
(pk R)) j1)
(pk R)) e0)
def F7_j7 (B : World) (R : Po) (s2 : Int) (t2 : Bool) (u2 : Heap) : Prop :=
(t2 = true →
 Ec B 15 #[] (retE (fun v2 w2 => ∃ x2, v2 = .bool x2 ∧
 R (.returned (.bool x2)) w2)
(pk R)) u2) ∧
(t2 = false →
 Ec B 27 #[.int .i64 s2] (retE (fun y2 z2 => ∃ a3 b3 c3, y2 = .tuple #[.int .i64 a3, .int .i64 b3, .bool c3] ∧
 Ec B 21 #[.int .i64 a3] (retE (fun d3 e3 => ∃ f3 g3 i3 j3 k3 l3, d3 = .tuple #[.agg #[.bool f3, .slice g3 i3 j3, .int .i64 k3], .int .i64 l3] ∧
 alW e3 (.cells #[.bool false, .slice none 0 0, .int .i64 0] 29) fun m3 n3 =>
 iP m3 0 fun o3 p3 => stC n3 o3 p3 (.bool f3) fun q3 =>
 stC q3 o3 (p3 + 1) (.slice g3 i3 j3) fun r3 =>
 stC r3 o3 (p3 + 1 + 1) (.int .i64 k3) fun s3 =>
 Ec B 21 #[.int .i64 b3] (retE (fun t3 u3 => ∃ v3 w3 x3 y3 z3 a4, t3 = .tuple #[.agg #[.bool v3, .slice w3 x3 y3, .int .i64 z3], .int .i64 a4] ∧
 alW u3 (.cells #[.bool false, .slice none 0 0, .int .i64 0] 29) fun b4 c4 =>
 iP b4 0 fun d4 e4 => stC c4 d4 e4 (.bool v3) fun f4 =>
 stC f4 d4 (e4 + 1) (.slice w3 x3 y3) fun g4 =>
 stC g4 d4 (e4 + 1 + 1) (.int .i64 z3) fun i4 =>
((!c3) = true →
(true = true →
(true = true →
(true = true →
(true = true →
 F7_j53 B R s2 (some ⟨m3, 0, none⟩) (some ⟨b4, 0, none⟩) true i4) ∧
(true = false →
 iP b4 0 fun j4 k4 =>
 isP (some ⟨j4, k4 + 1, none⟩) fun l4 m4 => ∃ n4 o4 p4, cS i4 l4 m4 n4 o4 p4 ∧
((decide ((o4 : Int) = (1 : Int))) = true →
 iP b4 0 fun q4 r4 =>
 isP (some ⟨q4, r4 + 1, none⟩) fun s4 t4 => ∃ u4 v4 w4, cS i4 s4 t4 u4 v4 w4 ∧
 ixW u4 v4 (0 : Int) 1 fun x4 y4 =>
 iP x4 y4 fun z4 a5 => ∃ b5, cI i4 z4 a5 .i64 b5 ∧
 F7_j53 B R s2 (some ⟨m3, 0, none⟩) (some ⟨b4, 0, none⟩) (decide ((67108864 : Int) ≤ b5)) i4) ∧
((decide ((o4 : Int) = (1 : Int))) = false →
 F7_j53 B R s2 (some ⟨m3, 0, none⟩) (some ⟨b4, 0, none⟩) false i4))) ∧
(true = false →
 iP m3 0 fun c5 d5 =>
 isP (some ⟨c5, d5 + 1, none⟩) fun e5 f5 => ∃ g5 i5 j5, cS i4 e5 f5 g5 i5 j5 ∧
((decide ((i5 : Int) = (1 : Int))) = true →
 iP m3 0 fun k5 l5 =>
 isP (some ⟨k5, l5 + 1, none⟩) fun m5 n5 => ∃ o5 p5 q5, cS i4 m5 n5 o5 p5 q5 ∧
 ixW o5 p5 (0 : Int) 1 fun r5 s5 =>
 iP r5 s5 fun t5 u5 => ∃ v5, cI i4 t5 u5 .i64 v5 ∧
((decide ((67108864 : Int) ≤ v5)) = true →
 F7_j53 B R s2 (some ⟨m3, 0, none⟩) (some ⟨b4, 0, none⟩) true i4) ∧
((decide ((67108864 : Int) ≤ v5)) = false →
 iP b4 0 fun w5 x5 =>
 isP (some ⟨w5, x5 + 1, none⟩) fun y5 z5 => ∃ a6 b6 c6, cS i4 y5 z5 a6 b6 c6 ∧
((decide ((b6 : Int) = (1 : Int))) = true →
 iP b4 0 fun d6 e6 =>
 isP (some ⟨d6, e6 + 1, none⟩) fun f6 g6 => ∃ i6 j6 k6, cS i4 f6 g6 i6 j6 k6 ∧
 ixW i6 j6 (0 : Int) 1 fun l6 m6 =>
 iP l6 m6 fun n6 o6 => ∃ p6, cI i4 n6 o6 .i64 p6 ∧
 F7_j53 B R s2 (some ⟨m3, 0, none⟩) (some ⟨b4, 0, none⟩) (decide ((67108864 : Int) ≤ p6)) i4) ∧
((decide ((b6 : Int) = (1 : Int))) = false →
 F7_j53 B R s2 (some ⟨m3, 0, none⟩) (some ⟨b4, 0, none⟩) false i4))) ∧
((decide ((i5 : Int) = (1 : Int))) = false →
(false = true →
 F7_j53 B R s2 (some ⟨m3, 0, none⟩) (some ⟨b4, 0, none⟩) true i4) ∧
(false = false →
 iP b4 0 fun q6 r6 =>
 isP (some ⟨q6, r6 + 1, none⟩) fun s6 t6 => ∃ u6 v6 w6, cS i4 s6 t6 u6 v6 w6 ∧
((decide ((v6 : Int) = (1 : Int))) = true →
 iP b4 0 fun x6 y6 =>
 isP (some ⟨x6, y6 + 1, none⟩) fun z6 a7 => ∃ b7 c7 d7, cS i4 z6 a7 b7 c7 d7 ∧
 ixW b7 c7 (0 : Int) 1 fun e7 f7 =>
 iP e7 f7 fun g7 i7 => ∃ j7, cI i4 g7 i7 .i64 j7 ∧
 F7_j53 B R s2 (some ⟨m3, 0, none⟩) (some ⟨b4, 0, none⟩) (decide ((67108864 : Int) ≤ j7)) i4) ∧
((decide ((v6 : Int) = (1 : Int))) = false →
 F7_j53 B R s2 (some ⟨m3, 0, none⟩) (some ⟨b4, 0, none⟩) false i4))))) ∧
(true = false →
 iP b4 0 fun k7 l7 =>
 isP (some ⟨k7, l7 + 1, none⟩) fun m7 n7 => ∃ o7 p7 q7, cS i4 m7 n7 o7 p7 q7 ∧
((decide ((1 : Int) < (p7 : Int))) = true →
(true = true →
 F7_j53 B R s2 (some ⟨m3, 0, none⟩) (some ⟨b4, 0, none⟩) true i4) ∧
(true = false →
 iP b4 0 fun r7 s7 =>
 isP (some ⟨r7, s7 + 1, none⟩) fun t7 u7 => ∃ v7 w7 x7, cS i4 t7 u7 v7 w7 x7 ∧
((decide ((w7 : Int) = (1 : Int))) = true →
 iP b4 0 fun y7 z7 =>
 isP (some ⟨y7, z7 + 1, none⟩) fun a8 b8 => ∃ c8 d8 e8, cS i4 a8 b8 c8 d8 e8 ∧
 ixW c8 d8 (0 : Int) 1 fun f8 g8 =>
 iP f8 g8 fun i8 j8 => ∃ k8, cI i4 i8 j8 .i64 k8 ∧
 F7_j53 B R s2 (some ⟨m3, 0, none⟩) (some ⟨b4, 0, none⟩) (decide ((67108864 : Int) ≤ k8)) i4) ∧
((decide ((w7 : Int) = (1 : Int))) = false →
 F7_j53 B R s2 (some ⟨m3, 0, none⟩) (some ⟨b4, 0, none⟩) false i4))) ∧
((decide ((1 : Int) < (p7 : Int))) = false →
 iP m3 0 fun l8 m8 =>
 isP (some ⟨l8, m8 + 1, none⟩) fun n8 o8 => ∃ p8 q8 r8, cS i4 n8 o8 p8 q8 r8 ∧
((decide ((q8 : Int) = (1 : Int))) = true →
 iP m3 0 fun s8 t8 =>
 isP (some ⟨s8, t8 + 1, none⟩) fun u8 v8 => ∃ w8 x8 y8, cS i4 u8 v8 w8 x8 y8 ∧
 ixW w8 x8 (0 : Int) 1 fun z8 a9 =>
 iP z8 a9 fun b9 c9 => ∃ d9, cI i4 b9 c9 .i64 d9 ∧
((decide ((67108864 : Int) ≤ d9)) = true →
 F7_j53 B R s2 (some ⟨m3, 0, none⟩) (some ⟨b4, 0, none⟩) true i4) ∧
((decide ((67108864 : Int) ≤ d9)) = false →
 iP b4 0 fun e9 f9 =>
 isP (some ⟨e9, f9 + 1, none⟩) fun g9 i9 => ∃ j9 k9 l9, cS i4 g9 i9 j9 k9 l9 ∧
((decide ((k9 : Int) = (1 : Int))) = true →
 iP b4 0 fun m9 n9 =>
 isP (some ⟨m9, n9 + 1, none⟩) fun o9 p9 => ∃ q9 r9 s9, cS i4 o9 p9 q9 r9 s9 ∧
 ixW q9 r9 (0 : Int) 1 fun t9 u9 =>
 iP t9 u9 fun v9 w9 => ∃ x9, cI i4 v9 w9 .i64 x9 ∧
 F7_j53 B R s2 (some ⟨m3, 0, none⟩) (some ⟨b4, 0, none⟩) (decide ((67108864 : Int) ≤ x9)) i4) ∧
((decide ((k9 : Int) = (1 : Int))) = false →
 F7_j53 B R s2 (some ⟨m3, 0, none⟩) (some ⟨b4, 0, none⟩) false i4))) ∧
((decide ((q8 : Int) = (1 : Int))) = false →
(false = true →
 F7_j53 B R s2 (some ⟨m3, 0, none⟩) (some ⟨b4, 0, none⟩) true i4) ∧
(false = false →
 iP b4 0 fun y9 z9 =>
 isP (some ⟨y9, z9 + 1, none⟩) fun a10 b10 => ∃ c10 d10 e10, cS i4 a10 b10 c10 d10 e10 ∧
((decide ((d10 : Int) = (1 : Int))) = true →
 iP b4 0 fun f10 g10 =>
 isP (some ⟨f10, g10 + 1, none⟩) fun i10 j10 => ∃ k10 l10 m10, cS i4 i10 j10 k10 l10 m10 ∧
 ixW k10 l10 (0 : Int) 1 fun n10 o10 =>
 iP n10 o10 fun p10 q10 => ∃ r10, cI i4 p10 q10 .i64 r10 ∧
 F7_j53 B R s2 (some ⟨m3, 0, none⟩) (some ⟨b4, 0, none⟩) (decide ((67108864 : Int) ≤ r10)) i4) ∧
((decide ((d10 : Int) = (1 : Int))) = false →
 F7_j53 B R s2 (some ⟨m3, 0, none⟩) (some ⟨b4, 0, none⟩) false i4)))))) ∧
(true = false →
 iP m3 0 fun s10 t10 =>
 isP (some ⟨s10, t10 + 1, none⟩) fun u10 v10 => ∃ w10 x10 y10, cS i4 u10 v10 w10 x10 y10 ∧
((decide ((1 : Int) < (x10 : Int))) = true →
(true = true →
(true = true →
 F7_j53 B R s2 (some ⟨m3, 0, none⟩) (some ⟨b4, 0, none⟩) true i4) ∧
(true = false →
 iP b4 0 fun z10 a11 =>
 isP (some ⟨z10, a11 + 1, none⟩) fun b11 c11 => ∃ d11 e11 f11, cS i4 b11 c11 d11 e11 f11 ∧
((decide ((e11 : Int) = (1 : Int))) = true →
 iP b4 0 fun g11 i11 =>
 isP (some ⟨g11, i11 + 1, none⟩) fun j11 k11 => ∃ l11 m11 n11, cS i4 j11 k11 l11 m11 n11 ∧
 ixW l11 m11 (0 : Int) 1 fun o11 p11 =>
 iP o11 p11 fun q11 r11 => ∃ s11, cI i4 q11 r11 .i64 s11 ∧
 F7_j53 B R s2 (some ⟨m3, 0, none⟩) (some ⟨b4, 0, none⟩) (decide ((67108864 : Int) ≤ s11)) i4) ∧
((decide ((e11 : Int) = (1 : Int))) = false →
 F7_j53 B R s2 (some ⟨m3, 0, none⟩) (some ⟨b4, 0, none⟩) false i4))) ∧
(true = false →
 iP m3 0 fun t11 u11 =>
 isP (some ⟨t11, u11 + 1, none⟩) fun v11 w11 => ∃ x11 y11 z11, cS i4 v11 w11 x11 y11 z11 ∧
((decide ((y11 : Int) = (1 : Int))) = true →
 iP m3 0 fun a12 b12 =>
 isP (some ⟨a12, b12 + 1, none⟩) fun c12 d12 => ∃ e12 f12 g12, cS i4 c12 d12 e12 f12 g12 ∧
 ixW e12 f12 (0 : Int) 1 fun i12 j12 =>
 iP i12 j12 fun k12 l12 => ∃ m12, cI i4 k12 l12 .i64 m12 ∧
((decide ((67108864 : Int) ≤ m12)) = true →
 F7_j53 B R s2 (some ⟨m3, 0, none⟩) (some ⟨b4, 0, none⟩) true i4) ∧
((decide ((67108864 : Int) ≤ m12)) = false →
 iP b4 0 fun n12 o12 =>
 isP (some ⟨n12, o12 + 1, none⟩) fun p12 q12 => ∃ r12 s12 t12, cS i4 p12 q12 r12 s12 t12 ∧
((decide ((s12 : Int) = (1 : Int))) = true →
 iP b4 0 fun u12 v12 =>
 isP (some ⟨u12, v12 + 1, none⟩) fun w12 x12 => ∃ y12 z12 a13, cS i4 w12 x12 y12 z12 a13 ∧
 ixW y12 z12 (0 : Int) 1 fun b13 c13 =>
 iP b13 c13 fun d13 e13 => ∃ f13, cI i4 d13 e13 .i64 f13 ∧
 F7_j53 B R s2 (some ⟨m3, 0, none⟩) (some ⟨b4, 0, none⟩) (decide ((67108864 : Int) ≤ f13)) i4) ∧
((decide ((s12 : Int) = (1 : Int))) = false →
 F7_j53 B R s2 (some ⟨m3, 0, none⟩) (some ⟨b4, 0, none⟩) false i4))) ∧
((decide ((y11 : Int) = (1 : Int))) = false →
(false = true →
 F7_j53 B R s2 (some ⟨m3, 0, none⟩) (some ⟨b4, 0, none⟩) true i4) ∧
(false = false →
 iP b4 0 fun g13 i13 =>
 isP (some ⟨g13, i13 + 1, none⟩) fun j13 k13 => ∃ l13 m13 n13, cS i4 j13 k13 l13 m13 n13 ∧
((decide ((m13 : Int) = (1 : Int))) = true →
 iP b4 0 fun o13 p13 =>
 isP (some ⟨o13, p13 + 1, none⟩) fun q13 r13 => ∃ s13 t13 u13, cS i4 q13 r13 s13 t13 u13 ∧
 ixW s13 t13 (0 : Int) 1 fun v13 w13 =>
 iP v13 w13 fun x13 y13 => ∃ z13, cI i4 x13 y13 .i64 z13 ∧
 F7_j53 B R s2 (some ⟨m3, 0, none⟩) (some ⟨b4, 0, none⟩) (decide ((67108864 : Int) ≤ z13)) i4) ∧
((decide ((m13 : Int) = (1 : Int))) = false →
 F7_j53 B R s2 (some ⟨m3, 0, none⟩) (some ⟨b4, 0, none⟩) false i4))))) ∧
((decide ((1 : Int) < (x10 : Int))) = false →
 iP b4 0 fun a14 b14 =>
 isP (some ⟨a14, b14 + 1, none⟩) fun c14 d14 => ∃ e14 f14 g14, cS i4 c14 d14 e14 f14 g14 ∧
((decide ((1 : Int) < (f14 : Int))) = true →
(true = true →
 F7_j53 B R s2 (some ⟨m3, 0, none⟩) (some ⟨b4, 0, none⟩) true i4) ∧
(true = false →
 iP b4 0 fun i14 j14 =>
 isP (some ⟨i14, j14 + 1, none⟩) fun k14 l14 => ∃ m14 n14 o14, cS i4 k14 l14 m14 n14 o14 ∧
((decide ((n14 : Int) = (1 : Int))) = true →
 iP b4 0 fun p14 q14 =>
 isP (some ⟨p14, q14 + 1, none⟩) fun r14 s14 => ∃ t14 u14 v14, cS i4 r14 s14 t14 u14 v14 ∧
 ixW t14 u14 (0 : Int) 1 fun w14 x14 =>
 iP w14 x14 fun y14 z14 => ∃ a15, cI i4 y14 z14 .i64 a15 ∧
 F7_j53 B R s2 (some ⟨m3, 0, none⟩) (some ⟨b4, 0, none⟩) (decide ((67108864 : Int) ≤ a15)) i4) ∧
((decide ((n14 : Int) = (1 : Int))) = false →
 F7_j53 B R s2 (some ⟨m3, 0, none⟩) (some ⟨b4, 0, none⟩) false i4))) ∧
((decide ((1 : Int) < (f14 : Int))) = false →
 iP m3 0 fun b15 c15 =>
 isP (some ⟨b15, c15 + 1, none⟩) fun d15 e15 => ∃ f15 g15 i15, cS i4 d15 e15 f15 g15 i15 ∧
((decide ((g15 : Int) = (1 : Int))) = true →
 iP m3 0 fun j15 k15 =>
 isP (some ⟨j15, k15 + 1, none⟩) fun l15 m15 => ∃ n15 o15 p15, cS i4 l15 m15 n15 o15 p15 ∧
 ixW n15 o15 (0 : Int) 1 fun q15 r15 =>
 iP q15 r15 fun s15 t15 => ∃ u15, cI i4 s15 t15 .i64 u15 ∧
((decide ((67108864 : Int) ≤ u15)) = true →
 F7_j53 B R s2 (some ⟨m3, 0, none⟩) (some ⟨b4, 0, none⟩) true i4) ∧
((decide ((67108864 : Int) ≤ u15)) = false →
 iP b4 0 fun v15 w15 =>
 isP (some ⟨v15, w15 + 1, none⟩) fun x15 y15 => ∃ z15 a16 b16, cS i4 x15 y15 z15 a16 b16 ∧
((decide ((a16 : Int) = (1 : Int))) = true →
 iP b4 0 fun c16 d16 =>
 isP (some ⟨c16, d16 + 1, none⟩) fun e16 f16 => ∃ g16 i16 j16, cS i4 e16 f16 g16 i16 j16 ∧
 ixW g16 i16 (0 : Int) 1 fun k16 l16 =>
 iP k16 l16 fun m16 n16 => ∃ o16, cI i4 m16 n16 .i64 o16 ∧
 F7_j53 B R s2 (some ⟨m3, 0, none⟩) (some ⟨b4, 0, none⟩) (decide ((67108864 : Int) ≤ o16)) i4) ∧
((decide ((a16 : Int) = (1 : Int))) = false →
 F7_j53 B R s2 (some ⟨m3, 0, none⟩) (some ⟨b4, 0, none⟩) false i4))) ∧
((decide ((g15 : Int) = (1 : Int))) = false →
(false = true →
 F7_j53 B R s2 (some ⟨m3, 0, none⟩) (some ⟨b4, 0, none⟩) true i4) ∧
(false = false →
 iP b4 0 fun p16 q16 =>
 isP (some ⟨p16, q16 + 1, none⟩) fun r16 s16 => ∃ t16 u16 v16, cS i4 r16 s16 t16 u16 v16 ∧
((decide ((u16 : Int) = (1 : Int))) = true →
 iP b4 0 fun w16 x16 =>
 isP (some ⟨w16, x16 + 1, none⟩) fun y16 z16 => ∃ a17 b17 c17, cS i4 y16 z16 a17 b17 c17 ∧
 ixW a17 b17 (0 : Int) 1 fun d17 e17 =>
 iP d17 e17 fun f17 g17 => ∃ i17, cI i4 f17 g17 .i64 i17 ∧
 F7_j53 B R s2 (some ⟨m3, 0, none⟩) (some ⟨b4, 0, none⟩) (decide ((67108864 : Int) ≤ i17)) i4) ∧
((decide ((u16 : Int) = (1 : Int))) = false →
 F7_j53 B R s2 (some ⟨m3, 0, none⟩) (some ⟨b4, 0, none⟩) false i4))))))) ∧
((!c3) = false →
((!decide ((IntKind.i64.wrap (l3 + a4)) = (0 : Int))) = true →
(true = true →
(true = true →
(true = true →
 F7_j53 B R s2 (some ⟨m3, 0, none⟩) (some ⟨b4, 0, none⟩) true i4) ∧
(true = false →
 iP b4 0 fun j17 k17 =>
 isP (some ⟨j17, k17 + 1, none⟩) fun l17 m17 => ∃ n17 o17 p17, cS i4 l17 m17 n17 o17 p17 ∧
((decide ((o17 : Int) = (1 : Int))) = true →
 iP b4 0 fun q17 r17 =>
 isP (some ⟨q17, r17 + 1, none⟩) fun s17 t17 => ∃ u17 v17 w17, cS i4 s17 t17 u17 v17 w17 ∧
 ixW u17 v17 (0 : Int) 1 fun x17 y17 =>
 iP x17 y17 fun z17 a18 => ∃ b18, cI i4 z17 a18 .i64 b18 ∧
 F7_j53 B R s2 (some ⟨m3, 0, none⟩) (some ⟨b4, 0, none⟩) (decide ((67108864 : Int) ≤ b18)) i4) ∧
((decide ((o17 : Int) = (1 : Int))) = false →
 F7_j53 B R s2 (some ⟨m3, 0, none⟩) (some ⟨b4, 0, none⟩) false i4))) ∧
(true = false →
 iP m3 0 fun c18 d18 =>
 isP (some ⟨c18, d18 + 1, none⟩) fun e18 f18 => ∃ g18 i18 j18, cS i4 e18 f18 g18 i18 j18 ∧
((decide ((i18 : Int) = (1 : Int))) = true →
 iP m3 0 fun k18 l18 =>
 isP (some ⟨k18, l18 + 1, none⟩) fun m18 n18 => ∃ o18 p18 q18, cS i4 m18 n18 o18 p18 q18 ∧
 ixW o18 p18 (0 : Int) 1 fun r18 s18 =>
 iP r18 s18 fun t18 u18 => ∃ v18, cI i4 t18 u18 .i64 v18 ∧
((decide ((67108864 : Int) ≤ v18)) = true →
 F7_j53 B R s2 (some ⟨m3, 0, none⟩) (some ⟨b4, 0, none⟩) true i4) ∧
((decide ((67108864 : Int) ≤ v18)) = false →
 iP b4 0 fun w18 x18 =>
 isP (some ⟨w18, x18 + 1, none⟩) fun y18 z18 => ∃ a19 b19 c19, cS i4 y18 z18 a19 b19 c19 ∧
((decide ((b19 : Int) = (1 : Int))) = true →
 iP b4 0 fun d19 e19 =>
 isP (some ⟨d19, e19 + 1, none⟩) fun f19 g19 => ∃ i19 j19 k19, cS i4 f19 g19 i19 j19 k19 ∧
 ixW i19 j19 (0 : Int) 1 fun l19 m19 =>
 iP l19 m19 fun n19 o19 => ∃ p19, cI i4 n19 o19 .i64 p19 ∧
 F7_j53 B R s2 (some ⟨m3, 0, none⟩) (some ⟨b4, 0, none⟩) (decide ((67108864 : Int) ≤ p19)) i4) ∧
((decide ((b19 : Int) = (1 : Int))) = false →
 F7_j53 B R s2 (some ⟨m3, 0, none⟩) (some ⟨b4, 0, none⟩) false i4))) ∧
((decide ((i18 : Int) = (1 : Int))) = false →
(false = true →
 F7_j53 B R s2 (some ⟨m3, 0, none⟩) (some ⟨b4, 0, none⟩) true i4) ∧
(false = false →
 iP b4 0 fun q19 r19 =>
 isP (some ⟨q19, r19 + 1, none⟩) fun s19 t19 => ∃ u19 v19 w19, cS i4 s19 t19 u19 v19 w19 ∧
((decide ((v19 : Int) = (1 : Int))) = true →
 iP b4 0 fun x19 y19 =>
 isP (some ⟨x19, y19 + 1, none⟩) fun z19 a20 => ∃ b20 c20 d20, cS i4 z19 a20 b20 c20 d20 ∧
 ixW b20 c20 (0 : Int) 1 fun e20 f20 =>
 iP e20 f20 fun g20 i20 => ∃ j20, cI i4 g20 i20 .i64 j20 ∧
 F7_j53 B R s2 (some ⟨m3, 0, none⟩) (some ⟨b4, 0, none⟩) (decide ((67108864 : Int) ≤ j20)) i4) ∧
((decide ((v19 : Int) = (1 : Int))) = false →
 F7_j53 B R s2 (some ⟨m3, 0, none⟩) (some ⟨b4, 0, none⟩) false i4))))) ∧
(true = false →
 iP b4 0 fun k20 l20 =>
 isP (some ⟨k20, l20 + 1, none⟩) fun m20 n20 => ∃ o20 p20 q20, cS i4 m20 n20 o20 p20 q20 ∧
((decide ((1 : Int) < (p20 : Int))) = true →
(true = true →
 F7_j53 B R s2 (some ⟨m3, 0, none⟩) (some ⟨b4, 0, none⟩) true i4) ∧
(true = false →
 iP b4 0 fun r20 s20 =>
 isP (some ⟨r20, s20 + 1, none⟩) fun t20 u20 => ∃ v20 w20 x20, cS i4 t20 u20 v20 w20 x20 ∧
((decide ((w20 : Int) = (1 : Int))) = true →
 iP b4 0 fun y20 z20 =>
 isP (some ⟨y20, z20 + 1, none⟩) fun a21 b21 => ∃ c21 d21 e21, cS i4 a21 b21 c21 d21 e21 ∧
 ixW c21 d21 (0 : Int) 1 fun f21 g21 =>
 iP f21 g21 fun i21 j21 => ∃ k21, cI i4 i21 j21 .i64 k21 ∧
 F7_j53 B R s2 (some ⟨m3, 0, none⟩) (some ⟨b4, 0, none⟩) (decide ((67108864 : Int) ≤ k21)) i4) ∧
((decide ((w20 : Int) = (1 : Int))) = false →
 F7_j53 B R s2 (some ⟨m3, 0, none⟩) (some ⟨b4, 0, none⟩) false i4))) ∧
((decide ((1 : Int) < (p20 : Int))) = false →
 iP m3 0 fun l21 m21 =>
 isP (some ⟨l21, m21 + 1, none⟩) fun n21 o21 => ∃ p21 q21 r21, cS i4 n21 o21 p21 q21 r21 ∧
((decide ((q21 : Int) = (1 : Int))) = true →
 iP m3 0 fun s21 t21 =>
 isP (some ⟨s21, t21 + 1, none⟩) fun u21 v21 => ∃ w21 x21 y21, cS i4 u21 v21 w21 x21 y21 ∧
 ixW w21 x21 (0 : Int) 1 fun z21 a22 =>
 iP z21 a22 fun b22 c22 => ∃ d22, cI i4 b22 c22 .i64 d22 ∧
((decide ((67108864 : Int) ≤ d22)) = true →
 F7_j53 B R s2 (some ⟨m3, 0, none⟩) (some ⟨b4, 0, none⟩) true i4) ∧
((decide ((67108864 : Int) ≤ d22)) = false →
 iP b4 0 fun e22 f22 =>
 isP (some ⟨e22, f22 + 1, none⟩) fun g22 i22 => ∃ j22 k22 l22, cS i4 g22 i22 j22 k22 l22 ∧
((decide ((k22 : Int) = (1 : Int))) = true →
 iP b4 0 fun m22 n22 =>
 isP (some ⟨m22, n22 + 1, none⟩) fun o22 p22 => ∃ q22 r22 s22, cS i4 o22 p22 q22 r22 s22 ∧
 ixW q22 r22 (0 : Int) 1 fun t22 u22 =>
 iP t22 u22 fun v22 w22 => ∃ x22, cI i4 v22 w22 .i64 x22 ∧
 F7_j53 B R s2 (some ⟨m3, 0, none⟩) (some ⟨b4, 0, none⟩) (decide ((67108864 : Int) ≤ x22)) i4) ∧
((decide ((k22 : Int) = (1 : Int))) = false →
 F7_j53 B R s2 (some ⟨m3, 0, none⟩) (some ⟨b4, 0, none⟩) false i4))) ∧
((decide ((q21 : Int) = (1 : Int))) = false →
(false = true →
 F7_j53 B R s2 (some ⟨m3, 0, none⟩) (some ⟨b4, 0, none⟩) true i4) ∧
(false = false →
 iP b4 0 fun y22 z22 =>
 isP (some ⟨y22, z22 + 1, none⟩) fun a23 b23 => ∃ c23 d23 e23, cS i4 a23 b23 c23 d23 e23 ∧
((decide ((d23 : Int) = (1 : Int))) = true →
 iP b4 0 fun f23 g23 =>
 isP (some ⟨f23, g23 + 1, none⟩) fun i23 j23 => ∃ k23 l23 m23, cS i4 i23 j23 k23 l23 m23 ∧
 ixW k23 l23 (0 : Int) 1 fun n23 o23 =>
 iP n23 o23 fun p23 q23 => ∃ r23, cI i4 p23 q23 .i64 r23 ∧
 F7_j53 B R s2 (some ⟨m3, 0, none⟩) (some ⟨b4, 0, none⟩) (decide ((67108864 : Int) ≤ r23)) i4) ∧
((decide ((d23 : Int) = (1 : Int))) = false →
 F7_j53 B R s2 (some ⟨m3, 0, none⟩) (some ⟨b4, 0, none⟩) false i4)))))) ∧
((!decide ((IntKind.i64.wrap (l3 + a4)) = (0 : Int))) = false →
 iP m3 0 fun s23 t23 =>
 isP (some ⟨s23, t23 + 1, none⟩) fun u23 v23 => ∃ w23 x23 y23, cS i4 u23 v23 w23 x23 y23 ∧
((decide ((1 : Int) < (x23 : Int))) = true →
(true = true →
(true = true →
 F7_j53 B R s2 (some ⟨m3, 0, none⟩) (some ⟨b4, 0, none⟩) true i4) ∧
(true = false →
 iP b4 0 fun z23 a24 =>
 isP (some ⟨z23, a24 + 1, none⟩) fun b24 c24 => ∃ d24 e24 f24, cS i4 b24 c24 d24 e24 f24 ∧
((decide ((e24 : Int) = (1 : Int))) = true →
 iP b4 0 fun g24 i24 =>
 isP (some ⟨g24, i24 + 1, none⟩) fun j24 k24 => ∃ l24 m24 n24, cS i4 j24 k24 l24 m24 n24 ∧
 ixW l24 m24 (0 : Int) 1 fun o24 p24 =>
 iP o24 p24 fun q24 r24 => ∃ s24, cI i4 q24 r24 .i64 s24 ∧
 F7_j53 B R s2 (some ⟨m3, 0, none⟩) (some ⟨b4, 0, none⟩) (decide ((67108864 : Int) ≤ s24)) i4) ∧
((decide ((e24 : Int) = (1 : Int))) = false →
 F7_j53 B R s2 (some ⟨m3, 0, none⟩) (some ⟨b4, 0, none⟩) false i4))) ∧
(true = false →
 iP m3 0 fun t24 u24 =>
 isP (some ⟨t24, u24 + 1, none⟩) fun v24 w24 => ∃ x24 y24 z24, cS i4 v24 w24 x24 y24 z24 ∧
((decide ((y24 : Int) = (1 : Int))) = true →
 iP m3 0 fun a25 b25 =>
 isP (some ⟨a25, b25 + 1, none⟩) fun c25 d25 => ∃ e25 f25 g25, cS i4 c25 d25 e25 f25 g25 ∧
 ixW e25 f25 (0 : Int) 1 fun i25 j25 =>
 iP i25 j25 fun k25 l25 => ∃ m25, cI i4 k25 l25 .i64 m25 ∧
((decide ((67108864 : Int) ≤ m25)) = true →
 F7_j53 B R s2 (some ⟨m3, 0, none⟩) (some ⟨b4, 0, none⟩) true i4) ∧
((decide ((67108864 : Int) ≤ m25)) = false →
 iP b4 0 fun n25 o25 =>
 isP (some ⟨n25, o25 + 1, none⟩) fun p25 q25 => ∃ r25 s25 t25, cS i4 p25 q25 r25 s25 t25 ∧
((decide ((s25 : Int) = (1 : Int))) = true →
 iP b4 0 fun u25 v25 =>
 isP (some ⟨u25, v25 + 1, none⟩) fun w25 x25 => ∃ y25 z25 a26, cS i4 w25 x25 y25 z25 a26 ∧
 ixW y25 z25 (0 : Int) 1 fun b26 c26 =>
 iP b26 c26 fun d26 e26 => ∃ f26, cI i4 d26 e26 .i64 f26 ∧
 F7_j53 B R s2 (some ⟨m3, 0, none⟩) (some ⟨b4, 0, none⟩) (decide ((67108864 : Int) ≤ f26)) i4) ∧
((decide ((s25 : Int) = (1 : Int))) = false →
 F7_j53 B R s2 (some ⟨m3, 0, none⟩) (some ⟨b4, 0, none⟩) false i4))) ∧
((decide ((y24 : Int) = (1 : Int))) = false →
(false = true →
 F7_j53 B R s2 (some ⟨m3, 0, none⟩) (some ⟨b4, 0, none⟩) true i4) ∧
(false = false →
 iP b4 0 fun g26 i26 =>
 isP (some ⟨g26, i26 + 1, none⟩) fun j26 k26 => ∃ l26 m26 n26, cS i4 j26 k26 l26 m26 n26 ∧
((decide ((m26 : Int) = (1 : Int))) = true →
 iP b4 0 fun o26 p26 =>
 isP (some ⟨o26, p26 + 1, none⟩) fun q26 r26 => ∃ s26 t26 u26, cS i4 q26 r26 s26 t26 u26 ∧
 ixW s26 t26 (0 : Int) 1 fun v26 w26 =>
 iP v26 w26 fun x26 y26 => ∃ z26, cI i4 x26 y26 .i64 z26 ∧
 F7_j53 B R s2 (some ⟨m3, 0, none⟩) (some ⟨b4, 0, none⟩) (decide ((67108864 : Int) ≤ z26)) i4) ∧
((decide ((m26 : Int) = (1 : Int))) = false →
 F7_j53 B R s2 (some ⟨m3, 0, none⟩) (some ⟨b4, 0, none⟩) false i4))))) ∧
((decide ((1 : Int) < (x23 : Int))) = false →
 iP b4 0 fun a27 b27 =>
 isP (some ⟨a27, b27 + 1, none⟩) fun c27 d27 => ∃ e27 f27 g27, cS i4 c27 d27 e27 f27 g27 ∧
((decide ((1 : Int) < (f27 : Int))) = true →
(true = true →
 F7_j53 B R s2 (some ⟨m3, 0, none⟩) (some ⟨b4, 0, none⟩) true i4) ∧
(true = false →
 iP b4 0 fun i27 j27 =>
 isP (some ⟨i27, j27 + 1, none⟩) fun k27 l27 => ∃ m27 n27 o27, cS i4 k27 l27 m27 n27 o27 ∧
((decide ((n27 : Int) = (1 : Int))) = true →
 iP b4 0 fun p27 q27 =>
 isP (some ⟨p27, q27 + 1, none⟩) fun r27 s27 => ∃ t27 u27 v27, cS i4 r27 s27 t27 u27 v27 ∧
 ixW t27 u27 (0 : Int) 1 fun w27 x27 =>
 iP w27 x27 fun y27 z27 => ∃ a28, cI i4 y27 z27 .i64 a28 ∧
 F7_j53 B R s2 (some ⟨m3, 0, none⟩) (some ⟨b4, 0, none⟩) (decide ((67108864 : Int) ≤ a28)) i4) ∧
((decide ((n27 : Int) = (1 : Int))) = false →
 F7_j53 B R s2 (some ⟨m3, 0, none⟩) (some ⟨b4, 0, none⟩) false i4))) ∧
((decide ((1 : Int) < (f27 : Int))) = false →
 iP m3 0 fun b28 c28 =>
 isP (some ⟨b28, c28 + 1, none⟩) fun d28 e28 => ∃ f28 g28 i28, cS i4 d28 e28 f28 g28 i28 ∧
((decide ((g28 : Int) = (1 : Int))) = true →
 iP m3 0 fun j28 k28 =>
 isP (some ⟨j28, k28 + 1, none⟩) fun l28 m28 => ∃ n28 o28 p28, cS i4 l28 m28 n28 o28 p28 ∧
 ixW n28 o28 (0 : Int) 1 fun q28 r28 =>
 iP q28 r28 fun s28 t28 => ∃ u28, cI i4 s28 t28 .i64 u28 ∧
((decide ((67108864 : Int) ≤ u28)) = true →
 F7_j53 B R s2 (some ⟨m3, 0, none⟩) (some ⟨b4, 0, none⟩) true i4) ∧
((decide ((67108864 : Int) ≤ u28)) = false →
 iP b4 0 fun v28 w28 =>
 isP (some ⟨v28, w28 + 1, none⟩) fun x28 y28 => ∃ z28 a29 b29, cS i4 x28 y28 z28 a29 b29 ∧
((decide ((a29 : Int) = (1 : Int))) = true →
 iP b4 0 fun c29 d29 =>
 isP (some ⟨c29, d29 + 1, none⟩) fun e29 f29 => ∃ g29 i29 j29, cS i4 e29 f29 g29 i29 j29 ∧
 ixW g29 i29 (0 : Int) 1 fun k29 l29 =>
 iP k29 l29 fun m29 n29 => ∃ o29, cI i4 m29 n29 .i64 o29 ∧
 F7_j53 B R s2 (some ⟨m3, 0, none⟩) (some ⟨b4, 0, none⟩) (decide ((67108864 : Int) ≤ o29)) i4) ∧
((decide ((a29 : Int) = (1 : Int))) = false →
 F7_j53 B R s2 (some ⟨m3, 0, none⟩) (some ⟨b4, 0, none⟩) false i4))) ∧
((decide ((g28 : Int) = (1 : Int))) = false →
(false = true →
 F7_j53 B R s2 (some ⟨m3, 0, none⟩) (some ⟨b4, 0, none⟩) true i4) ∧
(false = false →
 iP b4 0 fun p29 q29 =>
 isP (some ⟨p29, q29 + 1, none⟩) fun r29 s29 => ∃ t29 u29 v29, cS i4 r29 s29 t29 u29 v29 ∧
((decide ((u29 : Int) = (1 : Int))) = true →
 iP b4 0 fun w29 x29 =>
 isP (some ⟨w29, x29 + 1, none⟩) fun y29 z29 => ∃ a30 b30 c30, cS i4 y29 z29 a30 b30 c30 ∧
 ixW a30 b30 (0 : Int) 1 fun d30 e30 =>
 iP d30 e30 fun f30 g30 => ∃ i30, cI i4 f30 g30 .i64 i30 ∧
 F7_j53 B R s2 (some ⟨m3, 0, none⟩) (some ⟨b4, 0, none⟩) (decide ((67108864 : Int) ≤ i30)) i4) ∧
((decide ((u29 : Int) = (1 : Int))) = false →
 F7_j53 B R s2 (some ⟨m3, 0, none⟩) (some ⟨b4, 0, none⟩) false i4))))))))
(pk R)) s3)
(pk R)) z2)
(pk R)) u2)
def F7 (B : World) (R : Po) (j30 : Int) (h : Heap) : Prop :=
 Ec B 15 #[] (retE (fun k30 l30 => ∃ m30, k30 = .bool m30 ∧
((!m30) = true →
 F7_j7 B R j30 true l30) ∧
((!m30) = false →
 Ec B 26 #[.int .i64 j30, .int .i64 (996 : Int)] (retE (fun n30 o30 => ∃ p30, n30 = .bool p30 ∧
 F7_j7 B R j30 (!p30) o30)
(pk R)) l30))
(pk R)) h
def F7_L : Nat → List (Nat × TypeDesc) := fun _ => []
theorem F7_ok {B : World} {R : Ending → Heap → Prop} (j30 : Int) {h : Heap} (H : F7 B R j30 h) : Ec B 7 #[.int .i64 j30] R h :=
 Ek Tryz.func7 (by kernel_rfl) (by kernel_rfl) (by kernel_rfl) F7_L [] (by kernel_rfl) H

/-- plumb/plumblaw6.size -/
def F26_j24 (B : World) (R : Po) (a0 : Bool) (b0 : Heap) : Prop :=
 R (.returned (.bool a0)) b0
def F26 (B : World) (R : Po) (c0 d0 : Int) (h : Heap) : Prop :=
 Ec B 73 #[.bool false, .int .i64 (1 : Int), .int .i64 d0] (retE (fun e0 f0 => ∃ g0 i0, e0 = .tuple #[.int .i64 g0, .bool i0] ∧
(i0 = true →
 Ec B 17 #[.int .i64 c0] (retE (fun j0 k0 => ∃ l0, j0 = .int .i64 l0 ∧
((decide (l0 < (3 : Int))) = true →
 Ec B 33 #[.int .i64 c0] (retE (fun m0 n0 => ∃ o0, m0 = .int .i64 o0 ∧
 Ec B 32 #[.int .i64 o0, .int .i64 g0] (retE (fun p0 q0 => ∃ r0, p0 = .bool r0 ∧
 F26_j24 B R r0 q0)
(pk R)) n0)
(pk R)) k0) ∧
((decide (l0 < (3 : Int))) = false →
 F26_j24 B R false k0))
(pk R)) f0) ∧
(i0 = false →
(false = true →
 Ec B 33 #[.int .i64 c0] (retE (fun s0 t0 => ∃ u0, s0 = .int .i64 u0 ∧
 Ec B 32 #[.int .i64 u0, .int .i64 g0] (retE (fun v0 w0 => ∃ x0, v0 = .bool x0 ∧
 F26_j24 B R x0 w0)
(pk R)) t0)
(pk R)) f0) ∧
(false = false →
 F26_j24 B R false f0)))
(pk R)) h
def F26_L : Nat → List (Nat × TypeDesc) := fun _ => []
theorem F26_ok {B : World} {R : Ending → Heap → Prop} (c0 d0 : Int) {h : Heap} (H : F26 B R c0 d0 h) : Ec B 26 #[.int .i64 c0, .int .i64 d0] R h :=
 Ek Tryz.func26 (by kernel_rfl) (by kernel_rfl) (by kernel_rfl) F26_L [] (by kernel_rfl) H

/-- plumb/bits.Less -/
def F32 (B : World) (R : Po) (a0 b0 : Int) (h : Heap) : Prop :=
 Ec B 54 #[.int .i64 a0] (retE (fun c0 d0 => ∃ e0, c0 = .float .f64 e0 ∧
 Ec B 54 #[.int .i64 b0] (retE (fun f0 g0 => ∃ i0, f0 = .float .f64 i0 ∧
 R (.returned (.bool (FloatKind.f64.format.order e0 i0 == some .lt))) g0)
(pk R)) d0)
(pk R)) h
def F32_L : Nat → List (Nat × TypeDesc) := fun _ => []
theorem F32_ok {B : World} {R : Ending → Heap → Prop} (a0 b0 : Int) {h : Heap} (H : F32 B R a0 b0 h) : Ec B 32 #[.int .i64 a0, .int .i64 b0] R h :=
 Ek Tryz.func32 (by kernel_rfl) (by kernel_rfl) (by kernel_rfl) F32_L [] (by kernel_rfl) H

/-- plumb/bits.Abs -/
def F33 (B : World) (R : Po) (a0 : Int) (h : Heap) : Prop :=
 Ec B 17 #[.int .i64 a0] (retE (fun b0 c0 => ∃ d0, b0 = .int .i64 d0 ∧
((decide (d0 = (4 : Int))) = true →
 R (.returned (.int .i64 (9221120237041090561 : Int))) c0) ∧
((decide (d0 = (4 : Int))) = false →
 R (.returned (.int .i64 (bitsI .andNot .i64 a0 (-9223372036854775808 : Int)))) c0))
(pk R)) h
def F33_L : Nat → List (Nat × TypeDesc) := fun _ => []
theorem F33_ok {B : World} {R : Ending → Heap → Prop} (a0 : Int) {h : Heap} (H : F33 B R a0 h) : Ec B 33 #[.int .i64 a0] R h :=
 Ek Tryz.func33 (by kernel_rfl) (by kernel_rfl) (by kernel_rfl) F33_L [] (by kernel_rfl) H

/-- plumb/bits.Join -/
def F73_j24 (B : World) (R : Po) (a0 : Nat) (b0 : Heap) : Prop :=
 Ec B 56 #[.float .f64 a0] (retE (fun c0 d0 => ∃ e0, c0 = .int .i64 e0 ∧
 R (.returned (.tuple #[.int .i64 e0, .bool true])) d0)
(pk R)) b0
def F73 (B : World) (R : Po) (f0 : Bool) (g0 i0 : Int) (h : Heap) : Prop :=
((decide (g0 < (0 : Int))) = true →
 R (.returned (.tuple #[.int .i64 (0 : Int), .bool false])) h) ∧
((decide (g0 < (0 : Int))) = false →
 Ec B 135 #[.int .i64 i0] (retE (fun j0 k0 => ∃ l0, j0 = .int .i64 l0 ∧
 Ec B 93 #[.float .f64 (FloatKind.f64.nearest g0), .int .i64 l0] (retE (fun m0 n0 => ∃ o0, m0 = .float .f64 o0 ∧
 Ec B 136 #[.float .f64 o0, .int .i64 g0, .int .i64 i0] (retE (fun p0 q0 => ∃ r0, p0 = .bool r0 ∧
((!r0) = true →
 R (.returned (.tuple #[.int .i64 (0 : Int), .bool false])) q0) ∧
((!r0) = false →
(f0 = true →
 Ec B 137 #[.float .f64 o0, .float .f64 13830554455654793216] (retE (fun s0 t0 => ∃ u0, s0 = .float .f64 u0 ∧
 F73_j24 B R u0 t0)
(pk R)) q0) ∧
(f0 = false →
 F73_j24 B R o0 q0)))
(pk R)) n0)
(pk R)) k0)
(pk R)) h)
def F73_L : Nat → List (Nat × TypeDesc) := fun _ => []
theorem F73_ok {B : World} {R : Ending → Heap → Prop} (f0 : Bool) (g0 i0 : Int) {h : Heap} (H : F73 B R f0 g0 i0 h) : Ec B 73 #[.bool f0, .int .i64 g0, .int .i64 i0] R h :=
 Ek Tryz.func73 (by kernel_rfl) (by kernel_rfl) (by kernel_rfl) F73_L [] (by kernel_rfl) H

/-- plumb/bits.clamp -/
def F135 (B : World) (R : Po) (a0 : Int) (h : Heap) : Prop :=
 R (.returned (.int .i64 (if (3000 : Int) < (if (-3000 : Int) > a0 then (-3000 : Int) else a0) then (3000 : Int) else (if (-3000 : Int) > a0 then (-3000 : Int) else a0)))) h
def F135_L : Nat → List (Nat × TypeDesc) := fun _ => []
theorem F135_ok {B : World} {R : Ending → Heap → Prop} (a0 : Int) {h : Heap} (H : F135 B R a0 h) : Ec B 135 #[.int .i64 a0] R h :=
 Ek Tryz.func135 (by kernel_rfl) (by kernel_rfl) (by kernel_rfl) F135_L [] (by kernel_rfl) H

/-- plumb/bits.same -/
def F136_j45 (B : World) (R : Po) (a0 : Bool) (b0 : Heap) : Prop :=
 R (.returned (.bool a0)) b0
def F136_j9 (B : World) (R : Po) (c0 : Nat) (d0 e0 : Int) (f0 : Bool) (g0 : Heap) : Prop :=
(f0 = true →
 R (.returned (.bool false)) g0) ∧
(f0 = false →
((decide (d0 = (0 : Int))) = true →
 R (.returned (.bool true)) g0) ∧
((decide (d0 = (0 : Int))) = false →
 Ec B 135 #[.int .i64 e0] (retE (fun i0 j0 => ∃ k0, i0 = .int .i64 k0 ∧
 Ec B 181 #[.int .i64 d0, .int .i64 k0] (retE (fun l0 m0 => ∃ n0 o0, l0 = .tuple #[.int .i64 n0, .int .i64 o0] ∧
 Ec B 56 #[.float .f64 c0] (retE (fun p0 q0 => ∃ r0, p0 = .int .i64 r0 ∧
 Ec B 63 #[.int .i64 r0] (retE (fun s0 t0 => ∃ u0 v0 w0 x0, s0 = .tuple #[.bool u0, .int .i64 v0, .int .i64 w0, .bool x0] ∧
 Ec B 181 #[.int .i64 v0, .int .i64 w0] (retE (fun y0 z0 => ∃ a1 b1, y0 = .tuple #[.int .i64 a1, .int .i64 b1] ∧
((decide (n0 = a1)) = true →
 F136_j45 B R (decide (o0 = b1)) z0) ∧
((decide (n0 = a1)) = false →
 F136_j45 B R false z0))
(pk R)) t0)
(pk R)) q0)
(pk R)) m0)
(pk R)) j0)
(pk R)) g0))
def F136 (B : World) (R : Po) (c1 : Nat) (d1 e1 : Int) (h : Heap) : Prop :=
 Ec B 118 #[.float .f64 c1, .int .i64 (0 : Int)] (retE (fun f1 g1 => ∃ i1, f1 = .bool i1 ∧
(i1 = true →
 F136_j9 B R c1 d1 e1 true g1) ∧
(i1 = false →
 F136_j9 B R c1 d1 e1 (!((FloatKind.f64.format.order c1 0 == some .eq) == (decide (d1 = (0 : Int))))) g1))
(pk R)) h
def F136_L : Nat → List (Nat × TypeDesc) := fun _ => []
theorem F136_ok {B : World} {R : Ending → Heap → Prop} (c1 : Nat) (d1 e1 : Int) {h : Heap} (H : F136 B R c1 d1 e1 h) : Ec B 136 #[.float .f64 c1, .int .i64 d1, .int .i64 e1] R h :=
 Ek Tryz.func136 (by kernel_rfl) (by kernel_rfl) (by kernel_rfl) F136_L [] (by kernel_rfl) H

/-- plumb/bits.reduced -/
def F181 (B : World) (R : Po) (a0 b0 : Int) (h : Heap) : Prop :=
 ∃ c0 : Lp, ∃ d0, c0 d0 [.int .i64 a0, .int .i64 b0] h ∧
∀ (e0 : Nat) (f0 : Heap) (g0 i0 : Int), c0 e0 [.int .i64 g0, .int .i64 i0] f0 → ∀ _r : Nat → Value,
((decide ((bitsI .and .i64 g0 (1 : Int)) = (0 : Int))) = true →
 0 ≤ (1 : Int) ∧
∃ j0, j0 < e0 ∧ c0 j0 [.int .i64 (Int.fdiv g0 (2 ^ min (Int.toNat (1 : Int)) IntKind.i64.bits)), .int .i64 (IntKind.i64.wrap (i0 + (1 : Int)))] f0) ∧
((decide ((bitsI .and .i64 g0 (1 : Int)) = (0 : Int))) = false →
 R (.returned (.tuple #[.int .i64 g0, .int .i64 i0])) f0)
def F181_L : Nat → List (Nat × TypeDesc) := fun i => match i with
  | 1 => [(0, .int .i64), (1, .int .i64)]
  | _ => []
theorem F181_ok {B : World} {R : Ending → Heap → Prop} (a0 b0 : Int) {h : Heap} (H : F181 B R a0 b0 h) : Ec B 181 #[.int .i64 a0, .int .i64 b0] R h :=
 Ek Tryz.func181 (by kernel_rfl) (by kernel_rfl) (by kernel_rfl) F181_L [] (by kernel_rfl) H

/-- math.Ldexp -/
def F93 (B : World) (R : Po) (a0 : Nat) (b0 : Int) (h : Heap) : Prop :=
(false = true →
 Ec B 151 #[.float .f64 a0, .int .i64 b0] (retE (fun c0 d0 => ∃ e0, c0 = .float .f64 e0 ∧
 R (.returned (.float .f64 e0)) d0)
(pk R)) h) ∧
(false = false →
 Ec B 152 #[.float .f64 a0, .int .i64 b0] (retE (fun f0 g0 => ∃ i0, f0 = .float .f64 i0 ∧
 R (.returned (.float .f64 i0)) g0)
(pk R)) h)
def F93_L : Nat → List (Nat × TypeDesc) := fun _ => []
theorem F93_ok {B : World} {R : Ending → Heap → Prop} (a0 : Nat) (b0 : Int) {h : Heap} (H : F93 B R a0 b0 h) : Ec B 93 #[.float .f64 a0, .int .i64 b0] R h :=
 Ek Tryz.func93 (by kernel_rfl) (by kernel_rfl) (by kernel_rfl) F93_L [] (by kernel_rfl) H
end Go.Proofs
namespace Go.Proofs
open Go Go.Eng
/-- math.ldexp -/
def F152_j39 (B : World) (R : Po) (a0 b0 : Int) (c0 : Nat) (d0 : Heap) : Prop :=
  0 ≤ (52 : Int) ∧
 Ec B 116 #[.int .u64 (bitsI .or .u64 (bitsI .andNot .u64 b0 (9218868437227405312 : Int)) (IntKind.u64.wrap ((IntKind.u64.wrap (IntKind.i64.wrap (a0 + (1023 : Int)))) * 2 ^ min (Int.toNat (52 : Int)) IntKind.u64.bits)))] (retE (fun e0 f0 => ∃ g0, e0 = .float .f64 g0 ∧
 flW .f64 (FloatKind.f64.format.mul c0 g0) c0 g0 fun i0 =>
 R (.returned (.float .f64 i0)) f0)
(pk R)) d0
def F152_j8 (B : World) (R : Po) (j0 : Nat) (k0 : Int) (l0 : Bool) (m0 : Heap) : Prop :=
(l0 = true →
 R (.returned (.float .f64 j0)) m0) ∧
(l0 = false →
 Ec B 184 #[.float .f64 j0] (retE (fun n0 o0 => ∃ p0 q0, n0 = .tuple #[.float .f64 p0, .int .i64 q0] ∧
 Ec B 117 #[.float .f64 p0] (retE (fun r0 s0 => ∃ t0, r0 = .int .u64 t0 ∧
0 ≤ (52 : Int) ∧
((decide ((IntKind.i64.wrap ((IntKind.i64.wrap (k0 + q0)) + (IntKind.i64.wrap ((bitsI .and .i64 (IntKind.i64.wrap (Int.fdiv t0 (2 ^ min (Int.toNat (52 : Int)) IntKind.u64.bits))) (2047 : Int)) - (1023 : Int))))) < (-1075 : Int))) = true →
 Ec B 137 #[.float .f64 0, .float .f64 p0] (retE (fun u0 v0 => ∃ w0, u0 = .float .f64 w0 ∧
 R (.returned (.float .f64 w0)) v0)
(pk R)) s0) ∧
((decide ((IntKind.i64.wrap ((IntKind.i64.wrap (k0 + q0)) + (IntKind.i64.wrap ((bitsI .and .i64 (IntKind.i64.wrap (Int.fdiv t0 (2 ^ min (Int.toNat (52 : Int)) IntKind.u64.bits))) (2047 : Int)) - (1023 : Int))))) < (-1075 : Int))) = false →
((decide ((1023 : Int) < (IntKind.i64.wrap ((IntKind.i64.wrap (k0 + q0)) + (IntKind.i64.wrap ((bitsI .and .i64 (IntKind.i64.wrap (Int.fdiv t0 (2 ^ min (Int.toNat (52 : Int)) IntKind.u64.bits))) (2047 : Int)) - (1023 : Int))))))) = true →
((FloatKind.f64.format.order p0 0 == some .lt) = true →
 Ec B 185 #[.int .i64 (-1 : Int)] (retE (fun x0 y0 => ∃ z0, x0 = .float .f64 z0 ∧
 R (.returned (.float .f64 z0)) y0)
(pk R)) s0) ∧
((FloatKind.f64.format.order p0 0 == some .lt) = false →
 Ec B 185 #[.int .i64 (1 : Int)] (retE (fun a1 b1 => ∃ c1, a1 = .float .f64 c1 ∧
 R (.returned (.float .f64 c1)) b1)
(pk R)) s0)) ∧
((decide ((1023 : Int) < (IntKind.i64.wrap ((IntKind.i64.wrap (k0 + q0)) + (IntKind.i64.wrap ((bitsI .and .i64 (IntKind.i64.wrap (Int.fdiv t0 (2 ^ min (Int.toNat (52 : Int)) IntKind.u64.bits))) (2047 : Int)) - (1023 : Int))))))) = false →
((decide ((IntKind.i64.wrap ((IntKind.i64.wrap (k0 + q0)) + (IntKind.i64.wrap ((bitsI .and .i64 (IntKind.i64.wrap (Int.fdiv t0 (2 ^ min (Int.toNat (52 : Int)) IntKind.u64.bits))) (2047 : Int)) - (1023 : Int))))) < (-1022 : Int))) = true →
 F152_j39 B R (IntKind.i64.wrap ((IntKind.i64.wrap ((IntKind.i64.wrap (k0 + q0)) + (IntKind.i64.wrap ((bitsI .and .i64 (IntKind.i64.wrap (Int.fdiv t0 (2 ^ min (Int.toNat (52 : Int)) IntKind.u64.bits))) (2047 : Int)) - (1023 : Int))))) + (53 : Int))) t0 4368491638549381120 s0) ∧
((decide ((IntKind.i64.wrap ((IntKind.i64.wrap (k0 + q0)) + (IntKind.i64.wrap ((bitsI .and .i64 (IntKind.i64.wrap (Int.fdiv t0 (2 ^ min (Int.toNat (52 : Int)) IntKind.u64.bits))) (2047 : Int)) - (1023 : Int))))) < (-1022 : Int))) = false →
 F152_j39 B R (IntKind.i64.wrap ((IntKind.i64.wrap (k0 + q0)) + (IntKind.i64.wrap ((bitsI .and .i64 (IntKind.i64.wrap (Int.fdiv t0 (2 ^ min (Int.toNat (52 : Int)) IntKind.u64.bits))) (2047 : Int)) - (1023 : Int))))) t0 4607182418800017408 s0))))
(pk R)) o0)
(pk R)) m0)
def F152 (B : World) (R : Po) (d1 : Nat) (e1 : Int) (h : Heap) : Prop :=
((FloatKind.f64.format.order d1 0 == some .eq) = true →
 R (.returned (.float .f64 d1)) h) ∧
((FloatKind.f64.format.order d1 0 == some .eq) = false →
 Ec B 118 #[.float .f64 d1, .int .i64 (0 : Int)] (retE (fun f1 g1 => ∃ i1, f1 = .bool i1 ∧
(i1 = true →
 F152_j8 B R d1 e1 true g1) ∧
(i1 = false →
 Ec B 183 #[.float .f64 d1] (retE (fun j1 k1 => ∃ l1, j1 = .bool l1 ∧
 F152_j8 B R d1 e1 l1 k1)
(pk R)) g1))
(pk R)) h)
def F152_L : Nat → List (Nat × TypeDesc) := fun _ => []
theorem F152_ok {B : World} {R : Ending → Heap → Prop} (d1 : Nat) (e1 : Int) {h : Heap} (H : F152 B R d1 e1 h) : Ec B 152 #[.float .f64 d1, .int .i64 e1] R h :=
 Ek Tryz.func152 (by kernel_rfl) (by kernel_rfl) (by kernel_rfl) F152_L [] (by kernel_rfl) H

/-- math.IsNaN -/
def F183 (B : World) (R : Po) (a0 : Nat) (h : Heap) : Prop :=
 R (.returned (.bool (FloatKind.f64.format.order a0 a0 != some .eq))) h
def F183_L : Nat → List (Nat × TypeDesc) := fun _ => []
theorem F183_ok {B : World} {R : Ending → Heap → Prop} (a0 : Nat) {h : Heap} (H : F183 B R a0 h) : Ec B 183 #[.float .f64 a0] R h :=
 Ek Tryz.func183 (by kernel_rfl) (by kernel_rfl) (by kernel_rfl) F183_L [] (by kernel_rfl) H

/-- math.normalize -/
def F184 (B : World) (R : Po) (a0 : Nat) (h : Heap) : Prop :=
 Ec B 94 #[.float .f64 a0] (retE (fun b0 c0 => ∃ d0, b0 = .float .f64 d0 ∧
((FloatKind.f64.format.order d0 4503599627370496 == some .lt) = true →
 flW .f64 (FloatKind.f64.format.mul a0 4841369599423283200) a0 4841369599423283200 fun e0 =>
 R (.returned (.tuple #[.float .f64 e0, .int .i64 (-52 : Int)])) c0) ∧
((FloatKind.f64.format.order d0 4503599627370496 == some .lt) = false →
 R (.returned (.tuple #[.float .f64 a0, .int .i64 (0 : Int)])) c0))
(pk R)) h
def F184_L : Nat → List (Nat × TypeDesc) := fun _ => []
theorem F184_ok {B : World} {R : Ending → Heap → Prop} (a0 : Nat) {h : Heap} (H : F184 B R a0 h) : Ec B 184 #[.float .f64 a0] R h :=
 Ek Tryz.func184 (by kernel_rfl) (by kernel_rfl) (by kernel_rfl) F184_L [] (by kernel_rfl) H

end Go.Proofs
