import Derived.Test.YtpkdpdpobddnpaaGreatFmtA03
/- Here stand lemmas: plumbref8.Meet and Join: what they come to (written by program). -/
set_option linter.unusedVariables false
set_option linter.unusedVariables false
set_option maxRecDepth 100000
namespace Go.Proofs
open Go Go.Eng
def F1035_j3 (B : World) (R : Po) (a0 b0 c0 : OA) (d0 : Heap) : Prop :=
 isP b0 fun e0 f0 =>
∃ g0, cI d0 e0 f0 .i64 g0 /\
∃ i0, cell? d0 ⟨e0, f0 + 1, none⟩ = some (.bool i0) /\
∃ j0 k0 l0, cell? d0 ⟨e0, f0 + 1 + 1, none⟩ = some (.slice j0 k0 l0) /\
∃ m0, cell? d0 ⟨e0, f0 + 1 + 1 + 1, none⟩ = some (.int .i64 m0) /\
 isP c0 fun n0 o0 =>
∃ p0, cI d0 n0 o0 .i64 p0 /\
∃ q0, cell? d0 ⟨n0, o0 + 1, none⟩ = some (.bool q0) /\
∃ r0 s0 t0, cell? d0 ⟨n0, o0 + 1 + 1, none⟩ = some (.slice r0 s0 t0) /\
∃ u0, cell? d0 ⟨n0, o0 + 1 + 1 + 1, none⟩ = some (.int .i64 u0) /\
 Ec B 42 #[.agg #[.int .i64 g0, .bool i0, .slice j0 k0 l0, .int .i64 m0], .agg #[.int .i64 p0, .bool q0, .slice r0 s0 t0, .int .i64 u0]] (retE (fun v0 w0 => ∃ x0, v0 = .int .i64 x0 /\
((decide ((0 : Int) < x0)) = true ->
 isP a0 fun y0 z0 => stC w0 y0 z0 (.int .i64 0) fun a1 =>
 stC a1 y0 (z0 + 1) (.int .i64 0) fun b1 =>
 isP a0 fun c1 d1 =>
∃ e1, cI b1 c1 d1 .i64 e1 /\
∃ f1, cell? b1 ⟨c1, d1 + 1, none⟩ = some (.int .i64 f1) /\
 R (.returned (.tuple #[.agg #[.int .i64 e1, .int .i64 f1], .bool false])) b1) /\
((decide ((0 : Int) < x0)) = false ->
 isP b0 fun g1 i1 =>
∃ j1, cI w0 g1 i1 .i64 j1 /\
∃ k1, cell? w0 ⟨g1, i1 + 1, none⟩ = some (.bool k1) /\
∃ l1 m1 n1, cell? w0 ⟨g1, i1 + 1 + 1, none⟩ = some (.slice l1 m1 n1) /\
∃ o1, cell? w0 ⟨g1, i1 + 1 + 1 + 1, none⟩ = some (.int .i64 o1) /\
 isP c0 fun p1 q1 =>
∃ r1, cI w0 p1 q1 .i64 r1 /\
∃ s1, cell? w0 ⟨p1, q1 + 1, none⟩ = some (.bool s1) /\
∃ t1 u1 v1, cell? w0 ⟨p1, q1 + 1 + 1, none⟩ = some (.slice t1 u1 v1) /\
∃ w1, cell? w0 ⟨p1, q1 + 1 + 1 + 1, none⟩ = some (.int .i64 w1) /\
 Ec B 47 #[.agg #[.int .i64 j1, .bool k1, .slice l1 m1 n1, .int .i64 o1], .agg #[.int .i64 r1, .bool s1, .slice t1 u1 v1, .int .i64 w1]] (retE (fun x1 y1 => ∃ z1 a2, x1 = .agg #[.int .i64 z1, .int .i64 a2] /\
 isP a0 fun b2 c2 => stC y1 b2 c2 (.int .i64 z1) fun d2 =>
 stC d2 b2 (c2 + 1) (.int .i64 a2) fun e2 =>
 isP a0 fun f2 g2 =>
∃ i2, cI e2 f2 g2 .i64 i2 /\
∃ j2, cell? e2 ⟨f2, g2 + 1, none⟩ = some (.int .i64 j2) /\
 R (.returned (.tuple #[.agg #[.int .i64 i2, .int .i64 j2], .bool true])) e2)
(pk R)) w0))
(pk R)) d0
def F1035_o329 (B : World) (R : Po) (k2 l2 m2 n2 : OA) (o2 : Int) (p2 : Bool) (q2 : OA) (r2 s2 : Nat) (t2 : Int) (u2 : Heap) : Prop :=
 isP n2 fun v2 w2 => stC u2 v2 w2 (.int .i64 o2) fun x2 =>
 stC x2 v2 (w2 + 1) (.bool p2) fun y2 =>
 stC y2 v2 (w2 + 1 + 1) (.slice q2 r2 s2) fun z2 =>
 stC z2 v2 (w2 + 1 + 1 + 1) (.int .i64 t2) fun a3 =>
 F1035_j3 B R k2 l2 m2 a3
def F1035_o309 (B : World) (R : Po) (b3 c3 d3 e3 : OA) (f3 : Int) (g3 : Bool) (i3 : OA) (j3 k3 : Nat) (l3 m3 : Int) (n3 : Bool) (o3 : OA) (p3 q3 : Nat) (r3 : Int) (s3 : Heap) : Prop :=
 isP d3 fun t3 u3 => stC s3 t3 u3 (.int .i64 f3) fun v3 =>
 stC v3 t3 (u3 + 1) (.bool g3) fun w3 =>
 stC w3 t3 (u3 + 1 + 1) (.slice i3 j3 k3) fun x3 =>
 stC x3 t3 (u3 + 1 + 1 + 1) (.int .i64 l3) fun y3 =>
 F1035_o329 B R b3 c3 d3 e3 m3 n3 o3 p3 q3 r3 y3
def F1035_o290 (B : World) (R : Po) (z3 a4 b4 : OA) (c4 : Int) (d4 : Bool) (e4 : OA) (f4 g4 : Nat) (i4 j4 : Int) (k4 : Bool) (l4 : OA) (m4 n4 : Nat) (o4 : Int) (p4 q4 r4 s4 : Nat) (t4 : Heap) : Prop :=
 alW t4 (.cells #[.int .i64 0, .bool false, .slice none 0 0, .int .i64 0] 67) fun u4 v4 =>
 sameCells t4 v4 p4 q4 1 /\ sameCells t4 v4 r4 s4 1 /\ F1035_o309 B R z3 a4 b4 (some ⟨u4, 0, none⟩) c4 d4 e4 f4 g4 i4 j4 k4 l4 m4 n4 o4 v4
def F1035_o402 (B : World) (R : Po) (w4 x4 y4 : OA) (z4 : Int) (a5 : Bool) (b5 : OA) (c5 d5 : Nat) (e5 f5 : Int) (g5 : Bool) (i5 : OA) (j5 k5 : Nat) (l5 : Int) (m5 n5 o5 p5 : Nat) (q5 : Heap) : Prop :=
 alW q5 (.cells #[.int .i64 0, .bool false, .slice none 0 0, .int .i64 0] 67) fun r5 s5 =>
 sameCells q5 s5 m5 n5 1 /\ sameCells q5 s5 o5 p5 1 /\ F1035_o309 B R w4 x4 (some ⟨r5, 0, none⟩) y4 z4 a5 b5 c5 d5 e5 f5 g5 i5 j5 k5 l5 s5
def F1035_o272 (B : World) (R : Po) (t5 u5 : OA) (v5 : Int) (w5 : Bool) (x5 : OA) (y5 z5 : Nat) (a6 b6 : Int) (c6 : Bool) (d6 : OA) (e6 f6 : Nat) (g6 : Int) (i6 j6 k6 l6 : Nat) (m6 : Heap) : Prop :=
(alW m6 (.cells #[.int .i64 0, .bool false, .slice none 0 0, .int .i64 0] 67) fun n6 o6 =>
 sameCells m6 o6 i6 j6 1 /\ sameCells m6 o6 k6 l6 1 /\ F1035_o290 B R t5 u5 (some ⟨n6, 0, none⟩) v5 w5 x5 y5 z5 a6 b6 c6 d6 e6 f6 g6 i6 j6 k6 l6 o6) /\
(alW m6 (.cells #[.int .i64 0, .bool false, .slice none 0 0, .int .i64 0] 67) fun p6 q6 =>
 sameCells m6 q6 i6 j6 1 /\ sameCells m6 q6 k6 l6 1 /\ F1035_o402 B R t5 u5 (some ⟨p6, 0, none⟩) v5 w5 x5 y5 z5 a6 b6 c6 d6 e6 f6 g6 i6 j6 k6 l6 q6)
def F1035_o447 (B : World) (R : Po) (r6 s6 t6 u6 v6 : OA) (w6 x6 : Nat) (y6 : Heap) : Prop :=
 Ec B 46 #[.slice v6 w6 x6] (retE (fun z6 a7 => ∃ b7 c7 d7 e7 f7 g7 i7 j7 k7 l7 m7 n7, z6 = .tuple #[.agg #[.int .i64 b7, .bool c7, .slice d7 e7 f7, .int .i64 g7], .agg #[.int .i64 i7, .bool j7, .slice k7 l7 m7, .int .i64 n7]] /\
 F1035_o309 B R r6 s6 t6 u6 b7 c7 d7 e7 f7 g7 i7 j7 k7 l7 m7 n7 a7)
(fun _ _ => False)) y6
def F1035_o423 (B : World) (R : Po) (o7 p7 q7 r7 : OA) (s7 t7 u7 v7 w7 x7 : Nat) (y7 : Heap) : Prop :=
(Ec B 46 #[.slice r7 s7 t7] (retE (fun z7 a8 => ∃ b8 c8 d8 e8 f8 g8 i8 j8 k8 l8 m8 n8, z7 = .tuple #[.agg #[.int .i64 b8, .bool c8, .slice d8 e8 f8, .int .i64 g8], .agg #[.int .i64 i8, .bool j8, .slice k8 l8 m8, .int .i64 n8]] /\
 F1035_o290 B R o7 p7 q7 b8 c8 d8 e8 f8 g8 i8 j8 k8 l8 m8 n8 u7 v7 w7 x7 a8)
(fun _ _ => False)) y7) /\
(alW y7 (.cells #[.int .i64 0, .bool false, .slice none 0 0, .int .i64 0] 67) fun o8 p8 =>
 sameCells y7 p8 u7 v7 1 /\ sameCells y7 p8 w7 x7 1 /\ F1035_o447 B R o7 p7 q7 (some ⟨o8, 0, none⟩) r7 s7 t7 p8)
def F1035_o468 (B : World) (R : Po) (q8 r8 s8 t8 : OA) (u8 v8 w8 x8 y8 z8 : Nat) (a9 : Heap) : Prop :=
(Ec B 46 #[.slice t8 u8 v8] (retE (fun b9 c9 => ∃ d9 e9 f9 g9 i9 j9 k9 l9 m9 n9 o9 p9, b9 = .tuple #[.agg #[.int .i64 d9, .bool e9, .slice f9 g9 i9, .int .i64 j9], .agg #[.int .i64 k9, .bool l9, .slice m9 n9 o9, .int .i64 p9]] /\
 F1035_o402 B R q8 r8 s8 d9 e9 f9 g9 i9 j9 k9 l9 m9 n9 o9 p9 w8 x8 y8 z8 c9)
(fun _ _ => False)) a9) /\
(alW a9 (.cells #[.int .i64 0, .bool false, .slice none 0 0, .int .i64 0] 67) fun q9 r9 =>
 sameCells a9 r9 w8 x8 1 /\ sameCells a9 r9 y8 z8 1 /\ F1035_o447 B R q8 r8 (some ⟨q9, 0, none⟩) s8 t8 u8 v8 r9)
def F1035_o251 (B : World) (R : Po) (s9 t9 u9 : OA) (v9 w9 x9 y9 z9 a10 : Nat) (b10 : Heap) : Prop :=
(Ec B 46 #[.slice u9 v9 w9] (retE (fun c10 d10 => ∃ e10 f10 g10 i10 j10 k10 l10 m10 n10 o10 p10 q10, c10 = .tuple #[.agg #[.int .i64 e10, .bool f10, .slice g10 i10 j10, .int .i64 k10], .agg #[.int .i64 l10, .bool m10, .slice n10 o10 p10, .int .i64 q10]] /\
 F1035_o272 B R s9 t9 e10 f10 g10 i10 j10 k10 l10 m10 n10 o10 p10 q10 x9 y9 z9 a10 d10)
(fun _ _ => False)) b10) /\
(alW b10 (.cells #[.int .i64 0, .bool false, .slice none 0 0, .int .i64 0] 67) fun r10 s10 =>
 sameCells b10 s10 x9 y9 1 /\ sameCells b10 s10 z9 a10 1 /\ F1035_o423 B R s9 t9 (some ⟨r10, 0, none⟩) u9 v9 w9 x9 y9 z9 a10 s10) /\
(alW b10 (.cells #[.int .i64 0, .bool false, .slice none 0 0, .int .i64 0] 67) fun t10 u10 =>
 sameCells b10 u10 x9 y9 1 /\ sameCells b10 u10 z9 a10 1 /\ F1035_o468 B R s9 t9 (some ⟨t10, 0, none⟩) u9 v9 w9 x9 y9 z9 a10 u10)
def F1035_o515 (B : World) (R : Po) (v10 w10 x10 y10 : OA) (z10 : Int) (a11 : Bool) (b11 : OA) (c11 d11 : Nat) (e11 f11 : Int) (g11 : Bool) (i11 : OA) (j11 k11 : Nat) (l11 : Int) (m11 : Heap) : Prop :=
 alW m11 (.cells #[.int .i64 z10, .bool a11, .slice b11 c11 d11, .int .i64 e11, .int .i64 f11, .bool g11, .slice i11 j11 k11, .int .i64 l11] 67) fun n11 o11 =>
 F1035_o447 B R v10 w10 x10 y10 (some ⟨n11, 0, none⟩) 2 2 o11
def F1035_o494 (B : World) (R : Po) (p11 q11 r11 : OA) (s11 : Int) (t11 : Bool) (u11 : OA) (v11 w11 : Nat) (x11 y11 : Int) (z11 : Bool) (a12 : OA) (b12 c12 : Nat) (d12 : Int) (e12 f12 g12 i12 : Nat) (j12 : Heap) : Prop :=
(alW j12 (.cells #[.int .i64 s11, .bool t11, .slice u11 v11 w11, .int .i64 x11, .int .i64 y11, .bool z11, .slice a12 b12 c12, .int .i64 d12] 67) fun k12 l12 =>
 F1035_o423 B R p11 q11 r11 (some ⟨k12, 0, none⟩) 2 2 e12 f12 g12 i12 l12) /\
(alW j12 (.cells #[.int .i64 0, .bool false, .slice none 0 0, .int .i64 0] 67) fun m12 n12 =>
 sameCells j12 n12 e12 f12 1 /\ sameCells j12 n12 g12 i12 1 /\ F1035_o515 B R p11 q11 r11 (some ⟨m12, 0, none⟩) s11 t11 u11 v11 w11 x11 y11 z11 a12 b12 c12 d12 n12)
def F1035_o533 (B : World) (R : Po) (o12 p12 q12 : OA) (r12 : Int) (s12 : Bool) (t12 : OA) (u12 v12 : Nat) (w12 x12 : Int) (y12 : Bool) (z12 : OA) (a13 b13 : Nat) (c13 : Int) (d13 e13 f13 g13 : Nat) (i13 : Heap) : Prop :=
(alW i13 (.cells #[.int .i64 r12, .bool s12, .slice t12 u12 v12, .int .i64 w12, .int .i64 x12, .bool y12, .slice z12 a13 b13, .int .i64 c13] 67) fun j13 k13 =>
 F1035_o468 B R o12 p12 q12 (some ⟨j13, 0, none⟩) 2 2 d13 e13 f13 g13 k13) /\
(alW i13 (.cells #[.int .i64 0, .bool false, .slice none 0 0, .int .i64 0] 67) fun l13 m13 =>
 sameCells i13 m13 d13 e13 1 /\ sameCells i13 m13 f13 g13 1 /\ F1035_o515 B R o12 p12 (some ⟨l13, 0, none⟩) q12 r12 s12 t12 u12 v12 w12 x12 y12 z12 a13 b13 c13 m13)
def F1035_o233 (B : World) (R : Po) (n13 o13 : OA) (p13 : Int) (q13 : Bool) (r13 : OA) (s13 t13 : Nat) (u13 v13 : Int) (w13 : Bool) (x13 : OA) (y13 z13 : Nat) (a14 : Int) (b14 c14 d14 e14 : Nat) (f14 : Heap) : Prop :=
(alW f14 (.cells #[.int .i64 p13, .bool q13, .slice r13 s13 t13, .int .i64 u13, .int .i64 v13, .bool w13, .slice x13 y13 z13, .int .i64 a14] 67) fun g14 i14 =>
 F1035_o251 B R n13 o13 (some ⟨g14, 0, none⟩) 2 2 b14 c14 d14 e14 i14) /\
(alW f14 (.cells #[.int .i64 0, .bool false, .slice none 0 0, .int .i64 0] 67) fun j14 k14 =>
 sameCells f14 k14 b14 c14 1 /\ sameCells f14 k14 d14 e14 1 /\ F1035_o494 B R n13 o13 (some ⟨j14, 0, none⟩) p13 q13 r13 s13 t13 u13 v13 w13 x13 y13 z13 a14 b14 c14 d14 e14 k14) /\
(alW f14 (.cells #[.int .i64 0, .bool false, .slice none 0 0, .int .i64 0] 67) fun l14 m14 =>
 sameCells f14 m14 b14 c14 1 /\ sameCells f14 m14 d14 e14 1 /\ F1035_o533 B R n13 o13 (some ⟨l14, 0, none⟩) p13 q13 r13 s13 t13 u13 v13 w13 x13 y13 z13 a14 b14 c14 d14 e14 m14)
def F1035_o580 (B : World) (R : Po) (n14 o14 p14 q14 : OA) (r14 : Int) (s14 : Bool) (t14 : OA) (u14 v14 : Nat) (w14 x14 : Int) (y14 : Heap) : Prop :=
 Ec B 41 #[.int .i64 x14] (retE (fun z14 a15 => ∃ b15 c15 d15 e15 f15 g15, z14 = .agg #[.int .i64 b15, .bool c15, .slice d15 e15 f15, .int .i64 g15] /\
 F1035_o515 B R n14 o14 p14 q14 r14 s14 t14 u14 v14 w14 b15 c15 d15 e15 f15 g15 a15)
(fun _ _ => False)) y14
def F1035_o556 (B : World) (R : Po) (i15 j15 k15 : OA) (l15 : Int) (m15 : Bool) (n15 : OA) (o15 p15 : Nat) (q15 r15 : Int) (s15 t15 u15 v15 : Nat) (w15 : Heap) : Prop :=
(Ec B 41 #[.int .i64 r15] (retE (fun x15 y15 => ∃ z15 a16 b16 c16 d16 e16, x15 = .agg #[.int .i64 z15, .bool a16, .slice b16 c16 d16, .int .i64 e16] /\
 F1035_o494 B R i15 j15 k15 l15 m15 n15 o15 p15 q15 z15 a16 b16 c16 d16 e16 s15 t15 u15 v15 y15)
(fun _ _ => False)) w15) /\
(alW w15 (.cells #[.int .i64 0, .bool false, .slice none 0 0, .int .i64 0] 67) fun f16 g16 =>
 sameCells w15 g16 s15 t15 1 /\ sameCells w15 g16 u15 v15 1 /\ F1035_o580 B R i15 j15 k15 (some ⟨f16, 0, none⟩) l15 m15 n15 o15 p15 q15 r15 g16)
def F1035_o601 (B : World) (R : Po) (i16 j16 k16 : OA) (l16 : Int) (m16 : Bool) (n16 : OA) (o16 p16 : Nat) (q16 r16 : Int) (s16 t16 u16 v16 : Nat) (w16 : Heap) : Prop :=
(Ec B 41 #[.int .i64 r16] (retE (fun x16 y16 => ∃ z16 a17 b17 c17 d17 e17, x16 = .agg #[.int .i64 z16, .bool a17, .slice b17 c17 d17, .int .i64 e17] /\
 F1035_o533 B R i16 j16 k16 l16 m16 n16 o16 p16 q16 z16 a17 b17 c17 d17 e17 s16 t16 u16 v16 y16)
(fun _ _ => False)) w16) /\
(alW w16 (.cells #[.int .i64 0, .bool false, .slice none 0 0, .int .i64 0] 67) fun f17 g17 =>
 sameCells w16 g17 s16 t16 1 /\ sameCells w16 g17 u16 v16 1 /\ F1035_o580 B R i16 j16 (some ⟨f17, 0, none⟩) k16 l16 m16 n16 o16 p16 q16 r16 g17)
def F1035_o212 (B : World) (R : Po) (i17 j17 : OA) (k17 : Int) (l17 : Bool) (m17 : OA) (n17 o17 : Nat) (p17 q17 : Int) (r17 s17 t17 u17 : Nat) (v17 : Heap) : Prop :=
(Ec B 41 #[.int .i64 q17] (retE (fun w17 x17 => ∃ y17 z17 a18 b18 c18 d18, w17 = .agg #[.int .i64 y17, .bool z17, .slice a18 b18 c18, .int .i64 d18] /\
 F1035_o233 B R i17 j17 k17 l17 m17 n17 o17 p17 y17 z17 a18 b18 c18 d18 r17 s17 t17 u17 x17)
(fun _ _ => False)) v17) /\
(alW v17 (.cells #[.int .i64 0, .bool false, .slice none 0 0, .int .i64 0] 67) fun e18 f18 =>
 sameCells v17 f18 r17 s17 1 /\ sameCells v17 f18 t17 u17 1 /\ F1035_o556 B R i17 j17 (some ⟨e18, 0, none⟩) k17 l17 m17 n17 o17 p17 q17 r17 s17 t17 u17 f18) /\
(alW v17 (.cells #[.int .i64 0, .bool false, .slice none 0 0, .int .i64 0] 67) fun g18 i18 =>
 sameCells v17 i18 r17 s17 1 /\ sameCells v17 i18 t17 u17 1 /\ F1035_o601 B R i17 j17 (some ⟨g18, 0, none⟩) k17 l17 m17 n17 o17 p17 q17 r17 s17 t17 u17 i18)
def F1035_o648 (B : World) (R : Po) (j18 k18 l18 m18 : OA) (n18 o18 : Int) (p18 q18 : Nat) (r18 : Heap) : Prop :=
 Ec B 41 #[.int .i64 n18] (retE (fun s18 t18 => ∃ u18 v18 w18 x18 y18 z18, s18 = .agg #[.int .i64 u18, .bool v18, .slice w18 x18 y18, .int .i64 z18] /\
 sameCells r18 t18 p18 q18 1 /\ F1035_o580 B R j18 k18 l18 m18 u18 v18 w18 x18 y18 z18 o18 t18)
(fun _ _ => False)) r18
def F1035_o627 (B : World) (R : Po) (a19 b19 c19 : OA) (d19 e19 : Int) (f19 g19 i19 j19 : Nat) (k19 : Heap) : Prop :=
(Ec B 41 #[.int .i64 d19] (retE (fun l19 m19 => ∃ n19 o19 p19 q19 r19 s19, l19 = .agg #[.int .i64 n19, .bool o19, .slice p19 q19 r19, .int .i64 s19] /\
 sameCells k19 m19 f19 g19 1 /\ F1035_o556 B R a19 b19 c19 n19 o19 p19 q19 r19 s19 e19 f19 g19 i19 j19 m19)
(fun _ _ => False)) k19) /\
(alW k19 (.cells #[.int .i64 0, .bool false, .slice none 0 0, .int .i64 0] 67) fun t19 u19 =>
 sameCells k19 u19 f19 g19 1 /\ sameCells k19 u19 i19 j19 1 /\ F1035_o648 B R a19 b19 c19 (some ⟨t19, 0, none⟩) d19 e19 f19 g19 u19)
def F1035_o668 (B : World) (R : Po) (v19 w19 x19 : OA) (y19 z19 : Int) (a20 b20 c20 d20 : Nat) (e20 : Heap) : Prop :=
(Ec B 41 #[.int .i64 y19] (retE (fun f20 g20 => ∃ i20 j20 k20 l20 m20 n20, f20 = .agg #[.int .i64 i20, .bool j20, .slice k20 l20 m20, .int .i64 n20] /\
 sameCells e20 g20 a20 b20 1 /\ F1035_o601 B R v19 w19 x19 i20 j20 k20 l20 m20 n20 z19 a20 b20 c20 d20 g20)
(fun _ _ => False)) e20) /\
(alW e20 (.cells #[.int .i64 0, .bool false, .slice none 0 0, .int .i64 0] 67) fun o20 p20 =>
 sameCells e20 p20 a20 b20 1 /\ sameCells e20 p20 c20 d20 1 /\ F1035_o648 B R v19 w19 (some ⟨o20, 0, none⟩) x19 y19 z19 a20 b20 p20)
def F1035_o194 (B : World) (R : Po) (q20 r20 : OA) (s20 t20 : Int) (u20 v20 w20 x20 : Nat) (y20 : Heap) : Prop :=
(Ec B 41 #[.int .i64 s20] (retE (fun z20 a21 => ∃ b21 c21 d21 e21 f21 g21, z20 = .agg #[.int .i64 b21, .bool c21, .slice d21 e21 f21, .int .i64 g21] /\
 sameCells y20 a21 u20 v20 1 /\ F1035_o212 B R q20 r20 b21 c21 d21 e21 f21 g21 t20 u20 v20 w20 x20 a21)
(fun _ _ => False)) y20) /\
(alW y20 (.cells #[.int .i64 0, .bool false, .slice none 0 0, .int .i64 0] 67) fun i21 j21 =>
 sameCells y20 j21 u20 v20 1 /\ sameCells y20 j21 w20 x20 1 /\ F1035_o627 B R q20 r20 (some ⟨i21, 0, none⟩) s20 t20 u20 v20 w20 x20 j21) /\
(alW y20 (.cells #[.int .i64 0, .bool false, .slice none 0 0, .int .i64 0] 67) fun k21 l21 =>
 sameCells y20 l21 u20 v20 1 /\ sameCells y20 l21 w20 x20 1 /\ F1035_o668 B R q20 r20 (some ⟨k21, 0, none⟩) s20 t20 u20 v20 w20 x20 l21)
def F1035_j2 (B : World) (R : Po) (m21 n21 o21 p21 : OA) (q21 : Heap) : Prop :=
 isP m21 fun r21 s21 =>
 isP (some ⟨r21, s21 + 1, none⟩) fun t21 u21 => ∃ v21, cI q21 t21 u21 .i64 v21 /\
 isP n21 fun w21 x21 =>
 isP (some ⟨w21, x21 + 1, none⟩) fun y21 z21 => ∃ a22, cI q21 y21 z21 .i64 a22 /\
 F1035_o194 B R o21 p21 v21 a22 y21 z21 t21 u21 q21
def F1035_o163 (B : World) (R : Po) (b22 c22 d22 e22 : OA) (f22 : Int) (g22 : Bool) (i22 : OA) (j22 k22 : Nat) (l22 : Int) (m22 : Heap) : Prop :=
 isP e22 fun n22 o22 => stC m22 n22 o22 (.int .i64 f22) fun p22 =>
 stC p22 n22 (o22 + 1) (.bool g22) fun q22 =>
 stC q22 n22 (o22 + 1 + 1) (.slice i22 j22 k22) fun r22 =>
 stC r22 n22 (o22 + 1 + 1 + 1) (.int .i64 l22) fun s22 =>
 F1035_j2 B R b22 c22 d22 e22 s22
def F1035_o142 (B : World) (R : Po) (t22 u22 v22 w22 x22 : OA) (y22 : Int) (z22 : Bool) (a23 : OA) (b23 c23 : Nat) (d23 e23 : Int) (f23 : Bool) (g23 : OA) (i23 j23 : Nat) (k23 : Int) (l23 : Heap) : Prop :=
 isP w22 fun m23 n23 => stC l23 m23 n23 (.int .i64 y22) fun o23 =>
 stC o23 m23 (n23 + 1) (.bool z22) fun p23 =>
 stC p23 m23 (n23 + 1 + 1) (.slice a23 b23 c23) fun q23 =>
 stC q23 m23 (n23 + 1 + 1 + 1) (.int .i64 d23) fun r23 =>
 F1035_o163 B R t22 u22 v22 x22 e23 f23 g23 i23 j23 k23 r23
def F1035_o122 (B : World) (R : Po) (s23 t23 u23 v23 : OA) (w23 : Int) (x23 : Bool) (y23 : OA) (z23 a24 : Nat) (b24 c24 : Int) (d24 : Bool) (e24 : OA) (f24 g24 : Nat) (i24 : Int) (j24 k24 l24 m24 : Nat) (n24 : Heap) : Prop :=
 alW n24 (.cells #[.int .i64 0, .bool false, .slice none 0 0, .int .i64 0] 67) fun o24 p24 =>
 sameCells n24 p24 j24 k24 1 /\ sameCells n24 p24 l24 m24 1 /\ F1035_o142 B R s23 t23 u23 v23 (some ⟨o24, 0, none⟩) w23 x23 y23 z23 a24 b24 c24 d24 e24 f24 g24 i24 p24
def F1035_o691 (B : World) (R : Po) (q24 r24 s24 t24 : OA) (u24 : Int) (v24 : Bool) (w24 : OA) (x24 y24 : Nat) (z24 a25 : Int) (b25 : Bool) (c25 : OA) (d25 e25 : Nat) (f25 : Int) (g25 i25 j25 k25 : Nat) (l25 : Heap) : Prop :=
 alW l25 (.cells #[.int .i64 0, .bool false, .slice none 0 0, .int .i64 0] 67) fun m25 n25 =>
 sameCells l25 n25 g25 i25 1 /\ sameCells l25 n25 j25 k25 1 /\ F1035_o142 B R q24 r24 s24 (some ⟨m25, 0, none⟩) t24 u24 v24 w24 x24 y24 z24 a25 b25 c25 d25 e25 f25 n25
def F1035_o103 (B : World) (R : Po) (o25 p25 q25 : OA) (r25 : Int) (s25 : Bool) (t25 : OA) (u25 v25 : Nat) (w25 x25 : Int) (y25 : Bool) (z25 : OA) (a26 b26 : Nat) (c26 : Int) (d26 e26 f26 g26 : Nat) (i26 : Heap) : Prop :=
(alW i26 (.cells #[.int .i64 0, .bool false, .slice none 0 0, .int .i64 0] 67) fun j26 k26 =>
 sameCells i26 k26 d26 e26 1 /\ sameCells i26 k26 f26 g26 1 /\ F1035_o122 B R o25 p25 q25 (some ⟨j26, 0, none⟩) r25 s25 t25 u25 v25 w25 x25 y25 z25 a26 b26 c26 d26 e26 f26 g26 k26) /\
(alW i26 (.cells #[.int .i64 0, .bool false, .slice none 0 0, .int .i64 0] 67) fun l26 m26 =>
 sameCells i26 m26 d26 e26 1 /\ sameCells i26 m26 f26 g26 1 /\ F1035_o691 B R o25 p25 q25 (some ⟨l26, 0, none⟩) r25 s25 t25 u25 v25 w25 x25 y25 z25 a26 b26 c26 d26 e26 f26 g26 m26)
def F1035_o738 (B : World) (R : Po) (n26 o26 p26 q26 r26 s26 : OA) (t26 u26 : Nat) (v26 : Heap) : Prop :=
 Ec B 46 #[.slice s26 t26 u26] (retE (fun w26 x26 => ∃ y26 z26 a27 b27 c27 d27 e27 f27 g27 i27 j27 k27, w26 = .tuple #[.agg #[.int .i64 y26, .bool z26, .slice a27 b27 c27, .int .i64 d27], .agg #[.int .i64 e27, .bool f27, .slice g27 i27 j27, .int .i64 k27]] /\
 F1035_o142 B R n26 o26 p26 q26 r26 y26 z26 a27 b27 c27 d27 e27 f27 g27 i27 j27 k27 x26)
(fun _ _ => False)) v26
def F1035_o713 (B : World) (R : Po) (l27 m27 n27 o27 p27 : OA) (q27 r27 s27 t27 u27 v27 : Nat) (w27 : Heap) : Prop :=
(Ec B 46 #[.slice p27 q27 r27] (retE (fun x27 y27 => ∃ z27 a28 b28 c28 d28 e28 f28 g28 i28 j28 k28 l28, x27 = .tuple #[.agg #[.int .i64 z27, .bool a28, .slice b28 c28 d28, .int .i64 e28], .agg #[.int .i64 f28, .bool g28, .slice i28 j28 k28, .int .i64 l28]] /\
 F1035_o122 B R l27 m27 n27 o27 z27 a28 b28 c28 d28 e28 f28 g28 i28 j28 k28 l28 s27 t27 u27 v27 y27)
(fun _ _ => False)) w27) /\
(alW w27 (.cells #[.int .i64 0, .bool false, .slice none 0 0, .int .i64 0] 67) fun m28 n28 =>
 sameCells w27 n28 s27 t27 1 /\ sameCells w27 n28 u27 v27 1 /\ F1035_o738 B R l27 m27 n27 o27 (some ⟨m28, 0, none⟩) p27 q27 r27 n28)
def F1035_o760 (B : World) (R : Po) (o28 p28 q28 r28 s28 : OA) (t28 u28 v28 w28 x28 y28 : Nat) (z28 : Heap) : Prop :=
(Ec B 46 #[.slice s28 t28 u28] (retE (fun a29 b29 => ∃ c29 d29 e29 f29 g29 i29 j29 k29 l29 m29 n29 o29, a29 = .tuple #[.agg #[.int .i64 c29, .bool d29, .slice e29 f29 g29, .int .i64 i29], .agg #[.int .i64 j29, .bool k29, .slice l29 m29 n29, .int .i64 o29]] /\
 F1035_o691 B R o28 p28 q28 r28 c29 d29 e29 f29 g29 i29 j29 k29 l29 m29 n29 o29 v28 w28 x28 y28 b29)
(fun _ _ => False)) z28) /\
(alW z28 (.cells #[.int .i64 0, .bool false, .slice none 0 0, .int .i64 0] 67) fun p29 q29 =>
 sameCells z28 q29 v28 w28 1 /\ sameCells z28 q29 x28 y28 1 /\ F1035_o738 B R o28 p28 q28 (some ⟨p29, 0, none⟩) r28 s28 t28 u28 q29)
def F1035_o81 (B : World) (R : Po) (r29 s29 t29 u29 : OA) (v29 w29 x29 y29 z29 a30 : Nat) (b30 : Heap) : Prop :=
(Ec B 46 #[.slice u29 v29 w29] (retE (fun c30 d30 => ∃ e30 f30 g30 i30 j30 k30 l30 m30 n30 o30 p30 q30, c30 = .tuple #[.agg #[.int .i64 e30, .bool f30, .slice g30 i30 j30, .int .i64 k30], .agg #[.int .i64 l30, .bool m30, .slice n30 o30 p30, .int .i64 q30]] /\
 F1035_o103 B R r29 s29 t29 e30 f30 g30 i30 j30 k30 l30 m30 n30 o30 p30 q30 x29 y29 z29 a30 d30)
(fun _ _ => False)) b30) /\
(alW b30 (.cells #[.int .i64 0, .bool false, .slice none 0 0, .int .i64 0] 67) fun r30 s30 =>
 sameCells b30 s30 x29 y29 1 /\ sameCells b30 s30 z29 a30 1 /\ F1035_o713 B R r29 s29 t29 (some ⟨r30, 0, none⟩) u29 v29 w29 x29 y29 z29 a30 s30) /\
(alW b30 (.cells #[.int .i64 0, .bool false, .slice none 0 0, .int .i64 0] 67) fun t30 u30 =>
 sameCells b30 u30 x29 y29 1 /\ sameCells b30 u30 z29 a30 1 /\ F1035_o760 B R r29 s29 t29 (some ⟨t30, 0, none⟩) u29 v29 w29 x29 y29 z29 a30 u30)
def F1035_o809 (B : World) (R : Po) (v30 w30 x30 y30 z30 : OA) (a31 : Int) (b31 : Bool) (c31 : OA) (d31 e31 : Nat) (f31 g31 : Int) (i31 : Bool) (j31 : OA) (k31 l31 : Nat) (m31 : Int) (n31 : Heap) : Prop :=
 alW n31 (.cells #[.int .i64 a31, .bool b31, .slice c31 d31 e31, .int .i64 f31, .int .i64 g31, .bool i31, .slice j31 k31 l31, .int .i64 m31] 67) fun o31 p31 =>
 F1035_o738 B R v30 w30 x30 y30 z30 (some ⟨o31, 0, none⟩) 2 2 p31
def F1035_o787 (B : World) (R : Po) (q31 r31 s31 t31 : OA) (u31 : Int) (v31 : Bool) (w31 : OA) (x31 y31 : Nat) (z31 a32 : Int) (b32 : Bool) (c32 : OA) (d32 e32 : Nat) (f32 : Int) (g32 i32 j32 k32 : Nat) (l32 : Heap) : Prop :=
(alW l32 (.cells #[.int .i64 u31, .bool v31, .slice w31 x31 y31, .int .i64 z31, .int .i64 a32, .bool b32, .slice c32 d32 e32, .int .i64 f32] 67) fun m32 n32 =>
 F1035_o713 B R q31 r31 s31 t31 (some ⟨m32, 0, none⟩) 2 2 g32 i32 j32 k32 n32) /\
(alW l32 (.cells #[.int .i64 0, .bool false, .slice none 0 0, .int .i64 0] 67) fun o32 p32 =>
 sameCells l32 p32 g32 i32 1 /\ sameCells l32 p32 j32 k32 1 /\ F1035_o809 B R q31 r31 s31 t31 (some ⟨o32, 0, none⟩) u31 v31 w31 x31 y31 z31 a32 b32 c32 d32 e32 f32 p32)
def F1035_o828 (B : World) (R : Po) (q32 r32 s32 t32 : OA) (u32 : Int) (v32 : Bool) (w32 : OA) (x32 y32 : Nat) (z32 a33 : Int) (b33 : Bool) (c33 : OA) (d33 e33 : Nat) (f33 : Int) (g33 i33 j33 k33 : Nat) (l33 : Heap) : Prop :=
(alW l33 (.cells #[.int .i64 u32, .bool v32, .slice w32 x32 y32, .int .i64 z32, .int .i64 a33, .bool b33, .slice c33 d33 e33, .int .i64 f33] 67) fun m33 n33 =>
 F1035_o760 B R q32 r32 s32 t32 (some ⟨m33, 0, none⟩) 2 2 g33 i33 j33 k33 n33) /\
(alW l33 (.cells #[.int .i64 0, .bool false, .slice none 0 0, .int .i64 0] 67) fun o33 p33 =>
 sameCells l33 p33 g33 i33 1 /\ sameCells l33 p33 j33 k33 1 /\ F1035_o809 B R q32 r32 s32 (some ⟨o33, 0, none⟩) t32 u32 v32 w32 x32 y32 z32 a33 b33 c33 d33 e33 f33 p33)
def F1035_o62 (B : World) (R : Po) (q33 r33 s33 : OA) (t33 : Int) (u33 : Bool) (v33 : OA) (w33 x33 : Nat) (y33 z33 : Int) (a34 : Bool) (b34 : OA) (c34 d34 : Nat) (e34 : Int) (f34 g34 i34 j34 : Nat) (k34 : Heap) : Prop :=
(alW k34 (.cells #[.int .i64 t33, .bool u33, .slice v33 w33 x33, .int .i64 y33, .int .i64 z33, .bool a34, .slice b34 c34 d34, .int .i64 e34] 67) fun l34 m34 =>
 F1035_o81 B R q33 r33 s33 (some ⟨l34, 0, none⟩) 2 2 f34 g34 i34 j34 m34) /\
(alW k34 (.cells #[.int .i64 0, .bool false, .slice none 0 0, .int .i64 0] 67) fun n34 o34 =>
 sameCells k34 o34 f34 g34 1 /\ sameCells k34 o34 i34 j34 1 /\ F1035_o787 B R q33 r33 s33 (some ⟨n34, 0, none⟩) t33 u33 v33 w33 x33 y33 z33 a34 b34 c34 d34 e34 f34 g34 i34 j34 o34) /\
(alW k34 (.cells #[.int .i64 0, .bool false, .slice none 0 0, .int .i64 0] 67) fun p34 q34 =>
 sameCells k34 q34 f34 g34 1 /\ sameCells k34 q34 i34 j34 1 /\ F1035_o828 B R q33 r33 s33 (some ⟨p34, 0, none⟩) t33 u33 v33 w33 x33 y33 z33 a34 b34 c34 d34 e34 f34 g34 i34 j34 q34)
def F1035_o877 (B : World) (R : Po) (r34 s34 t34 u34 v34 : OA) (w34 : Int) (x34 : Bool) (y34 : OA) (z34 a35 : Nat) (b35 c35 : Int) (d35 : Heap) : Prop :=
 Ec B 41 #[.int .i64 c35] (retE (fun e35 f35 => ∃ g35 i35 j35 k35 l35 m35, e35 = .agg #[.int .i64 g35, .bool i35, .slice j35 k35 l35, .int .i64 m35] /\
 F1035_o809 B R r34 s34 t34 u34 v34 w34 x34 y34 z34 a35 b35 g35 i35 j35 k35 l35 m35 f35)
(fun _ _ => False)) d35
def F1035_o852 (B : World) (R : Po) (n35 o35 p35 q35 : OA) (r35 : Int) (s35 : Bool) (t35 : OA) (u35 v35 : Nat) (w35 x35 : Int) (y35 z35 a36 b36 : Nat) (c36 : Heap) : Prop :=
(Ec B 41 #[.int .i64 x35] (retE (fun d36 e36 => ∃ f36 g36 i36 j36 k36 l36, d36 = .agg #[.int .i64 f36, .bool g36, .slice i36 j36 k36, .int .i64 l36] /\
 F1035_o787 B R n35 o35 p35 q35 r35 s35 t35 u35 v35 w35 f36 g36 i36 j36 k36 l36 y35 z35 a36 b36 e36)
(fun _ _ => False)) c36) /\
(alW c36 (.cells #[.int .i64 0, .bool false, .slice none 0 0, .int .i64 0] 67) fun m36 n36 =>
 sameCells c36 n36 y35 z35 1 /\ sameCells c36 n36 a36 b36 1 /\ F1035_o877 B R n35 o35 p35 q35 (some ⟨m36, 0, none⟩) r35 s35 t35 u35 v35 w35 x35 n36)
def F1035_o899 (B : World) (R : Po) (o36 p36 q36 r36 : OA) (s36 : Int) (t36 : Bool) (u36 : OA) (v36 w36 : Nat) (x36 y36 : Int) (z36 a37 b37 c37 : Nat) (d37 : Heap) : Prop :=
(Ec B 41 #[.int .i64 y36] (retE (fun e37 f37 => ∃ g37 i37 j37 k37 l37 m37, e37 = .agg #[.int .i64 g37, .bool i37, .slice j37 k37 l37, .int .i64 m37] /\
 F1035_o828 B R o36 p36 q36 r36 s36 t36 u36 v36 w36 x36 g37 i37 j37 k37 l37 m37 z36 a37 b37 c37 f37)
(fun _ _ => False)) d37) /\
(alW d37 (.cells #[.int .i64 0, .bool false, .slice none 0 0, .int .i64 0] 67) fun n37 o37 =>
 sameCells d37 o37 z36 a37 1 /\ sameCells d37 o37 b37 c37 1 /\ F1035_o877 B R o36 p36 q36 (some ⟨n37, 0, none⟩) r36 s36 t36 u36 v36 w36 x36 y36 o37)
def F1035_o40 (B : World) (R : Po) (p37 q37 r37 : OA) (s37 : Int) (t37 : Bool) (u37 : OA) (v37 w37 : Nat) (x37 y37 : Int) (z37 a38 b38 c38 : Nat) (d38 : Heap) : Prop :=
(Ec B 41 #[.int .i64 y37] (retE (fun e38 f38 => ∃ g38 i38 j38 k38 l38 m38, e38 = .agg #[.int .i64 g38, .bool i38, .slice j38 k38 l38, .int .i64 m38] /\
 F1035_o62 B R p37 q37 r37 s37 t37 u37 v37 w37 x37 g38 i38 j38 k38 l38 m38 z37 a38 b38 c38 f38)
(fun _ _ => False)) d38) /\
(alW d38 (.cells #[.int .i64 0, .bool false, .slice none 0 0, .int .i64 0] 67) fun n38 o38 =>
 sameCells d38 o38 z37 a38 1 /\ sameCells d38 o38 b38 c38 1 /\ F1035_o852 B R p37 q37 r37 (some ⟨n38, 0, none⟩) s37 t37 u37 v37 w37 x37 y37 z37 a38 b38 c38 o38) /\
(alW d38 (.cells #[.int .i64 0, .bool false, .slice none 0 0, .int .i64 0] 67) fun p38 q38 =>
 sameCells d38 q38 z37 a38 1 /\ sameCells d38 q38 b38 c38 1 /\ F1035_o899 B R p37 q37 r37 (some ⟨p38, 0, none⟩) s37 t37 u37 v37 w37 x37 y37 z37 a38 b38 c38 q38)
def F1035_o948 (B : World) (R : Po) (r38 s38 t38 u38 v38 : OA) (w38 x38 : Int) (y38 z38 : Nat) (a39 : Heap) : Prop :=
 Ec B 41 #[.int .i64 w38] (retE (fun b39 c39 => ∃ d39 e39 f39 g39 i39 j39, b39 = .agg #[.int .i64 d39, .bool e39, .slice f39 g39 i39, .int .i64 j39] /\
 sameCells a39 c39 y38 z38 1 /\ F1035_o877 B R r38 s38 t38 u38 v38 d39 e39 f39 g39 i39 j39 x38 c39)
(fun _ _ => False)) a39
def F1035_o926 (B : World) (R : Po) (k39 l39 m39 n39 : OA) (o39 p39 : Int) (q39 r39 s39 t39 : Nat) (u39 : Heap) : Prop :=
(Ec B 41 #[.int .i64 o39] (retE (fun v39 w39 => ∃ x39 y39 z39 a40 b40 c40, v39 = .agg #[.int .i64 x39, .bool y39, .slice z39 a40 b40, .int .i64 c40] /\
 sameCells u39 w39 q39 r39 1 /\ F1035_o852 B R k39 l39 m39 n39 x39 y39 z39 a40 b40 c40 p39 q39 r39 s39 t39 w39)
(fun _ _ => False)) u39) /\
(alW u39 (.cells #[.int .i64 0, .bool false, .slice none 0 0, .int .i64 0] 67) fun d40 e40 =>
 sameCells u39 e40 q39 r39 1 /\ sameCells u39 e40 s39 t39 1 /\ F1035_o948 B R k39 l39 m39 n39 (some ⟨d40, 0, none⟩) o39 p39 q39 r39 e40)
def F1035_o969 (B : World) (R : Po) (f40 g40 i40 j40 : OA) (k40 l40 : Int) (m40 n40 o40 p40 : Nat) (q40 : Heap) : Prop :=
(Ec B 41 #[.int .i64 k40] (retE (fun r40 s40 => ∃ t40 u40 v40 w40 x40 y40, r40 = .agg #[.int .i64 t40, .bool u40, .slice v40 w40 x40, .int .i64 y40] /\
 sameCells q40 s40 m40 n40 1 /\ F1035_o899 B R f40 g40 i40 j40 t40 u40 v40 w40 x40 y40 l40 m40 n40 o40 p40 s40)
(fun _ _ => False)) q40) /\
(alW q40 (.cells #[.int .i64 0, .bool false, .slice none 0 0, .int .i64 0] 67) fun z40 a41 =>
 sameCells q40 a41 m40 n40 1 /\ sameCells q40 a41 o40 p40 1 /\ F1035_o948 B R f40 g40 i40 (some ⟨z40, 0, none⟩) j40 k40 l40 m40 n40 a41)
def F1035_o21 (B : World) (R : Po) (b41 c41 d41 : OA) (e41 f41 : Int) (g41 i41 j41 k41 : Nat) (l41 : Heap) : Prop :=
(Ec B 41 #[.int .i64 e41] (retE (fun m41 n41 => ∃ o41 p41 q41 r41 s41 t41, m41 = .agg #[.int .i64 o41, .bool p41, .slice q41 r41 s41, .int .i64 t41] /\
 sameCells l41 n41 g41 i41 1 /\ F1035_o40 B R b41 c41 d41 o41 p41 q41 r41 s41 t41 f41 g41 i41 j41 k41 n41)
(fun _ _ => False)) l41) /\
(alW l41 (.cells #[.int .i64 0, .bool false, .slice none 0 0, .int .i64 0] 67) fun u41 v41 =>
 sameCells l41 v41 g41 i41 1 /\ sameCells l41 v41 j41 k41 1 /\ F1035_o926 B R b41 c41 d41 (some ⟨u41, 0, none⟩) e41 f41 g41 i41 j41 k41 v41) /\
(alW l41 (.cells #[.int .i64 0, .bool false, .slice none 0 0, .int .i64 0] 67) fun w41 x41 =>
 sameCells l41 x41 g41 i41 1 /\ sameCells l41 x41 j41 k41 1 /\ F1035_o969 B R b41 c41 d41 (some ⟨w41, 0, none⟩) e41 f41 g41 i41 j41 k41 x41)
def F1035 (B : World) (R : Po) (y41 z41 a42 b42 : Int) (h : Heap) : Prop :=
 alW h (.cells #[.int .i64 y41, .int .i64 z41] 23) fun c42 d42 =>
 alW d42 (.cells #[.int .i64 a42, .int .i64 b42] 23) fun e42 f42 =>
 alW f42 (.cells #[.int .i64 0, .int .i64 0] 23) fun g42 i42 =>
 iP c42 0 fun j42 k42 =>
 iP j42 k42 fun l42 m42 => ∃ n42, cI i42 l42 m42 .i64 n42 /\
 iP e42 0 fun o42 p42 =>
 iP o42 p42 fun q42 r42 => ∃ s42, cI i42 q42 r42 .i64 s42 /\
 F1035_o21 B R (some ⟨c42, 0, none⟩) (some ⟨e42, 0, none⟩) (some ⟨g42, 0, none⟩) n42 s42 q42 r42 l42 m42 i42
def F1035_L : Nat -> List (Nat × TypeDesc) := fun _ => []
def F1035_J (B : World) (R : Po) : Nat -> Option JT := fun i => match i with
  | 2 => some ⟨[(2, .pointer 0), (3, .pointer 0), (4, .pointer 0), (7, .pointer 0)], fun s v h => match s, v with
    | [], [.pointer m21, .pointer n21, .pointer o21, .pointer p21] => F1035_j2 B R m21 n21 o21 p21 h
    | _, _ => False⟩
  | 3 => some ⟨[(4, .pointer 0), (7, .pointer 0), (8, .pointer 0)], fun s v h => match s, v with
    | [], [.pointer a0, .pointer b0, .pointer c0] => F1035_j3 B R a0 b0 c0 h
    | _, _ => False⟩
  | _ => none
theorem F1035_ok {B : World} {R : Ending -> Heap -> Prop} (y41 z41 a42 b42 : Int) {h : Heap} (H : F1035 B R y41 z41 a42 b42 h) : Ec B 17 #[.agg #[.int .i64 y41, .int .i64 z41], .agg #[.int .i64 a42, .int .i64 b42]] R h :=
 Ej Tryz.func17 (by kernel_rfl) (by kernel_rfl) (by kernel_rfl) F1035_L (F1035_J B R) [] (by kernel_rfl) (by kernel_rfl) H

def F1036 (B : World) (R : Po) (a0 b0 c0 d0 : Int) (h : Heap) : Prop :=
 alW h (.cells #[.int .i64 a0, .int .i64 b0] 23) fun e0 f0 =>
 alW f0 (.cells #[.int .i64 c0, .int .i64 d0] 23) fun g0 i0 =>
 alW i0 (.cells #[.int .i64 0, .int .i64 0] 23) fun j0 k0 =>
 iP e0 0 fun l0 m0 =>
 iP l0 m0 fun n0 o0 => ∃ p0, cI k0 n0 o0 .i64 p0 /\
 iP g0 0 fun q0 r0 =>
 iP q0 r0 fun s0 t0 => ∃ u0, cI k0 s0 t0 .i64 u0 /\
 iP e0 0 fun v0 w0 =>
 isP (some ⟨v0, w0 + 1, none⟩) fun x0 y0 => ∃ z0, cI k0 x0 y0 .i64 z0 /\
 iP g0 0 fun a1 b1 =>
 isP (some ⟨a1, b1 + 1, none⟩) fun c1 d1 => ∃ e1, cI k0 c1 d1 .i64 e1 /\
 Ec B 41 #[.int .i64 p0] (retE (fun f1 g1 => ∃ i1 j1 k1 l1 m1 n1, f1 = .agg #[.int .i64 i1, .bool j1, .slice k1 l1 m1, .int .i64 n1] /\
 sameCells k0 g1 c1 d1 1 /\ sameCells k0 g1 x0 y0 1 /\ sameCells k0 g1 s0 t0 1 /\ Ec B 41 #[.int .i64 u0] (retE (fun o1 p1 => ∃ q1 r1 s1 t1 u1 v1, o1 = .agg #[.int .i64 q1, .bool r1, .slice s1 t1 u1, .int .i64 v1] /\
 sameCells g1 p1 c1 d1 1 /\ sameCells g1 p1 x0 y0 1 /\ Ec B 48 #[.agg #[.int .i64 i1, .bool j1, .slice k1 l1 m1, .int .i64 n1], .agg #[.int .i64 q1, .bool r1, .slice s1 t1 u1, .int .i64 v1]] (retE (fun w1 x1 => ∃ y1 z1 a2 b2 c2 d2, w1 = .agg #[.int .i64 y1, .bool z1, .slice a2 b2 c2, .int .i64 d2] /\
 sameCells p1 x1 c1 d1 1 /\ sameCells p1 x1 x0 y0 1 /\ Ec B 41 #[.int .i64 z0] (retE (fun e2 f2 => ∃ g2 i2 j2 k2 l2 m2, e2 = .agg #[.int .i64 g2, .bool i2, .slice j2 k2 l2, .int .i64 m2] /\
 sameCells x1 f2 c1 d1 1 /\ Ec B 41 #[.int .i64 e1] (retE (fun n2 o2 => ∃ p2 q2 r2 s2 t2 u2, n2 = .agg #[.int .i64 p2, .bool q2, .slice r2 s2 t2, .int .i64 u2] /\
 Ec B 48 #[.agg #[.int .i64 g2, .bool i2, .slice j2 k2 l2, .int .i64 m2], .agg #[.int .i64 p2, .bool q2, .slice r2 s2 t2, .int .i64 u2]] (retE (fun v2 w2 => ∃ x2 y2 z2 a3 b3 c3, v2 = .agg #[.int .i64 x2, .bool y2, .slice z2 a3 b3, .int .i64 c3] /\
 Ec B 47 #[.agg #[.int .i64 y1, .bool z1, .slice a2 b2 c2, .int .i64 d2], .agg #[.int .i64 x2, .bool y2, .slice z2 a3 b3, .int .i64 c3]] (retE (fun d3 e3 => ∃ f3 g3, d3 = .agg #[.int .i64 f3, .int .i64 g3] /\
 iP j0 0 fun i3 j3 => stC e3 i3 j3 (.int .i64 f3) fun k3 =>
 stC k3 i3 (j3 + 1) (.int .i64 g3) fun l3 =>
 iP j0 0 fun m3 n3 =>
∃ o3, cI l3 m3 n3 .i64 o3 /\
∃ p3, cell? l3 ⟨m3, n3 + 1, none⟩ = some (.int .i64 p3) /\
 R (.returned (.agg #[.int .i64 o3, .int .i64 p3])) l3)
(fun _ _ => False)) w2)
(fun _ _ => False)) o2)
(fun _ _ => False)) f2)
(fun _ _ => False)) x1)
(fun _ _ => False)) p1)
(fun _ _ => False)) g1)
(fun _ _ => False)) k0
def F1036_L : Nat -> List (Nat × TypeDesc) := fun _ => []
theorem F1036_ok {B : World} {R : Ending -> Heap -> Prop} (a0 b0 c0 d0 : Int) {h : Heap} (H : F1036 B R a0 b0 c0 d0 h) : Ec B 18 #[.agg #[.int .i64 a0, .int .i64 b0], .agg #[.int .i64 c0, .int .i64 d0]] R h :=
 Ek Tryz.func18 (by kernel_rfl) (by kernel_rfl) (by kernel_rfl) F1036_L [] (by kernel_rfl) H

def F1037 (B : World) (R : Po) (a0 b0 c0 d0 : Int) (h : Heap) : Prop :=
 alW h (.cells #[.int .i64 a0, .int .i64 b0] 23) fun e0 f0 =>
 alW f0 (.cells #[.int .i64 c0, .int .i64 d0] 23) fun g0 i0 =>
 alW i0 (.cells #[.int .i64 0, .int .i64 0] 23) fun j0 k0 =>
 iP e0 0 fun l0 m0 =>
∃ n0, cI k0 l0 m0 .i64 n0 /\
∃ o0, cell? k0 ⟨l0, m0 + 1, none⟩ = some (.int .i64 o0) /\
 iP g0 0 fun p0 q0 =>
∃ r0, cI k0 p0 q0 .i64 r0 /\
∃ s0, cell? k0 ⟨p0, q0 + 1, none⟩ = some (.int .i64 s0) /\
 Ec B 33 #[.agg #[.int .i64 r0, .int .i64 s0]] (retE (fun t0 u0 => ∃ v0 w0, t0 = .agg #[.int .i64 v0, .int .i64 w0] /\
 sameCells k0 u0 l0 m0 2 /\ Ec B 18 #[.agg #[.int .i64 n0, .int .i64 o0], .agg #[.int .i64 v0, .int .i64 w0]] (retE (fun x0 y0 => ∃ z0 a1, x0 = .agg #[.int .i64 z0, .int .i64 a1] /\
 iP j0 0 fun b1 c1 => stC y0 b1 c1 (.int .i64 z0) fun d1 =>
 stC d1 b1 (c1 + 1) (.int .i64 a1) fun e1 =>
 iP j0 0 fun f1 g1 =>
∃ i1, cI e1 f1 g1 .i64 i1 /\
∃ j1, cell? e1 ⟨f1, g1 + 1, none⟩ = some (.int .i64 j1) /\
 R (.returned (.agg #[.int .i64 i1, .int .i64 j1])) e1)
(fun _ _ => False)) u0)
(fun _ _ => False)) k0
def F1037_L : Nat -> List (Nat × TypeDesc) := fun _ => []
theorem F1037_ok {B : World} {R : Ending -> Heap -> Prop} (a0 b0 c0 d0 : Int) {h : Heap} (H : F1037 B R a0 b0 c0 d0 h) : Ec B 19 #[.agg #[.int .i64 a0, .int .i64 b0], .agg #[.int .i64 c0, .int .i64 d0]] R h :=
 Ek Tryz.func19 (by kernel_rfl) (by kernel_rfl) (by kernel_rfl) F1037_L [] (by kernel_rfl) H

def F1039_j3 (B : World) (R : Po) (a0 b0 c0 : OA) (d0 : Heap) : Prop :=
 isP b0 fun e0 f0 =>
∃ g0, cI d0 e0 f0 .i64 g0 /\
∃ i0, cell? d0 ⟨e0, f0 + 1, none⟩ = some (.bool i0) /\
∃ j0 k0 l0, cell? d0 ⟨e0, f0 + 1 + 1, none⟩ = some (.slice j0 k0 l0) /\
∃ m0, cell? d0 ⟨e0, f0 + 1 + 1 + 1, none⟩ = some (.int .i64 m0) /\
 isP c0 fun n0 o0 =>
∃ p0, cI d0 n0 o0 .i64 p0 /\
∃ q0, cell? d0 ⟨n0, o0 + 1, none⟩ = some (.bool q0) /\
∃ r0 s0 t0, cell? d0 ⟨n0, o0 + 1 + 1, none⟩ = some (.slice r0 s0 t0) /\
∃ u0, cell? d0 ⟨n0, o0 + 1 + 1 + 1, none⟩ = some (.int .i64 u0) /\
 Ec B 47 #[.agg #[.int .i64 g0, .bool i0, .slice j0 k0 l0, .int .i64 m0], .agg #[.int .i64 p0, .bool q0, .slice r0 s0 t0, .int .i64 u0]] (retE (fun v0 w0 => ∃ x0 y0, v0 = .agg #[.int .i64 x0, .int .i64 y0] /\
 isP a0 fun z0 a1 => stC w0 z0 a1 (.int .i64 x0) fun b1 =>
 stC b1 z0 (a1 + 1) (.int .i64 y0) fun c1 =>
 isP a0 fun d1 e1 =>
∃ f1, cI c1 d1 e1 .i64 f1 /\
∃ g1, cell? c1 ⟨d1, e1 + 1, none⟩ = some (.int .i64 g1) /\
 R (.returned (.agg #[.int .i64 f1, .int .i64 g1])) c1)
(pk R)) d0
def F1039_o330 (B : World) (R : Po) (i1 j1 k1 : OA) (l1 : Int) (m1 : Bool) (n1 : OA) (o1 p1 : Nat) (q1 : Int) (r1 : Heap) : Prop :=
 isP k1 fun s1 t1 => stC r1 s1 t1 (.int .i64 l1) fun u1 =>
 stC u1 s1 (t1 + 1) (.bool m1) fun v1 =>
 stC v1 s1 (t1 + 1 + 1) (.slice n1 o1 p1) fun w1 =>
 stC w1 s1 (t1 + 1 + 1 + 1) (.int .i64 q1) fun x1 =>
 F1039_j3 B R i1 j1 k1 x1
def F1039_o310 (B : World) (R : Po) (y1 z1 a2 b2 : OA) (c2 : Int) (d2 : Bool) (e2 : OA) (f2 g2 : Nat) (i2 j2 : Int) (k2 : Bool) (l2 : OA) (m2 n2 : Nat) (o2 : Int) (p2 : Heap) : Prop :=
 isP a2 fun q2 r2 => stC p2 q2 r2 (.int .i64 c2) fun s2 =>
 stC s2 q2 (r2 + 1) (.bool d2) fun t2 =>
 stC t2 q2 (r2 + 1 + 1) (.slice e2 f2 g2) fun u2 =>
 stC u2 q2 (r2 + 1 + 1 + 1) (.int .i64 i2) fun v2 =>
 F1039_o330 B R y1 z1 b2 j2 k2 l2 m2 n2 o2 v2
def F1039_o291 (B : World) (R : Po) (w2 x2 y2 : OA) (z2 : Int) (a3 : Bool) (b3 : OA) (c3 d3 : Nat) (e3 f3 : Int) (g3 : Bool) (i3 : OA) (j3 k3 : Nat) (l3 : Int) (m3 n3 o3 p3 : Nat) (q3 : Heap) : Prop :=
 alW q3 (.cells #[.int .i64 0, .bool false, .slice none 0 0, .int .i64 0] 67) fun r3 s3 =>
 sameCells q3 s3 m3 n3 1 /\ sameCells q3 s3 o3 p3 1 /\ F1039_o310 B R w2 x2 y2 (some ⟨r3, 0, none⟩) z2 a3 b3 c3 d3 e3 f3 g3 i3 j3 k3 l3 s3
def F1039_o377 (B : World) (R : Po) (t3 u3 v3 : OA) (w3 : Int) (x3 : Bool) (y3 : OA) (z3 a4 : Nat) (b4 c4 : Int) (d4 : Bool) (e4 : OA) (f4 g4 : Nat) (i4 : Int) (j4 k4 l4 m4 : Nat) (n4 : Heap) : Prop :=
 alW n4 (.cells #[.int .i64 0, .bool false, .slice none 0 0, .int .i64 0] 67) fun o4 p4 =>
 sameCells n4 p4 j4 k4 1 /\ sameCells n4 p4 l4 m4 1 /\ F1039_o310 B R t3 u3 (some ⟨o4, 0, none⟩) v3 w3 x3 y3 z3 a4 b4 c4 d4 e4 f4 g4 i4 p4
def F1039_o273 (B : World) (R : Po) (q4 r4 : OA) (s4 : Int) (t4 : Bool) (u4 : OA) (v4 w4 : Nat) (x4 y4 : Int) (z4 : Bool) (a5 : OA) (b5 c5 : Nat) (d5 : Int) (e5 f5 g5 i5 : Nat) (j5 : Heap) : Prop :=
(alW j5 (.cells #[.int .i64 0, .bool false, .slice none 0 0, .int .i64 0] 67) fun k5 l5 =>
 sameCells j5 l5 e5 f5 1 /\ sameCells j5 l5 g5 i5 1 /\ F1039_o291 B R q4 r4 (some ⟨k5, 0, none⟩) s4 t4 u4 v4 w4 x4 y4 z4 a5 b5 c5 d5 e5 f5 g5 i5 l5) /\
(alW j5 (.cells #[.int .i64 0, .bool false, .slice none 0 0, .int .i64 0] 67) fun m5 n5 =>
 sameCells j5 n5 e5 f5 1 /\ sameCells j5 n5 g5 i5 1 /\ F1039_o377 B R q4 r4 (some ⟨m5, 0, none⟩) s4 t4 u4 v4 w4 x4 y4 z4 a5 b5 c5 d5 e5 f5 g5 i5 n5)
def F1039_o422 (B : World) (R : Po) (o5 p5 q5 r5 s5 : OA) (t5 u5 : Nat) (v5 : Heap) : Prop :=
 Ec B 46 #[.slice s5 t5 u5] (retE (fun w5 x5 => ∃ y5 z5 a6 b6 c6 d6 e6 f6 g6 i6 j6 k6, w5 = .tuple #[.agg #[.int .i64 y5, .bool z5, .slice a6 b6 c6, .int .i64 d6], .agg #[.int .i64 e6, .bool f6, .slice g6 i6 j6, .int .i64 k6]] /\
 F1039_o310 B R o5 p5 q5 r5 y5 z5 a6 b6 c6 d6 e6 f6 g6 i6 j6 k6 x5)
(fun _ _ => False)) v5
def F1039_o398 (B : World) (R : Po) (l6 m6 n6 o6 : OA) (p6 q6 r6 s6 t6 u6 : Nat) (v6 : Heap) : Prop :=
(Ec B 46 #[.slice o6 p6 q6] (retE (fun w6 x6 => ∃ y6 z6 a7 b7 c7 d7 e7 f7 g7 i7 j7 k7, w6 = .tuple #[.agg #[.int .i64 y6, .bool z6, .slice a7 b7 c7, .int .i64 d7], .agg #[.int .i64 e7, .bool f7, .slice g7 i7 j7, .int .i64 k7]] /\
 F1039_o291 B R l6 m6 n6 y6 z6 a7 b7 c7 d7 e7 f7 g7 i7 j7 k7 r6 s6 t6 u6 x6)
(fun _ _ => False)) v6) /\
(alW v6 (.cells #[.int .i64 0, .bool false, .slice none 0 0, .int .i64 0] 67) fun l7 m7 =>
 sameCells v6 m7 r6 s6 1 /\ sameCells v6 m7 t6 u6 1 /\ F1039_o422 B R l6 m6 n6 (some ⟨l7, 0, none⟩) o6 p6 q6 m7)
def F1039_o443 (B : World) (R : Po) (n7 o7 p7 q7 : OA) (r7 s7 t7 u7 v7 w7 : Nat) (x7 : Heap) : Prop :=
(Ec B 46 #[.slice q7 r7 s7] (retE (fun y7 z7 => ∃ a8 b8 c8 d8 e8 f8 g8 i8 j8 k8 l8 m8, y7 = .tuple #[.agg #[.int .i64 a8, .bool b8, .slice c8 d8 e8, .int .i64 f8], .agg #[.int .i64 g8, .bool i8, .slice j8 k8 l8, .int .i64 m8]] /\
 F1039_o377 B R n7 o7 p7 a8 b8 c8 d8 e8 f8 g8 i8 j8 k8 l8 m8 t7 u7 v7 w7 z7)
(fun _ _ => False)) x7) /\
(alW x7 (.cells #[.int .i64 0, .bool false, .slice none 0 0, .int .i64 0] 67) fun n8 o8 =>
 sameCells x7 o8 t7 u7 1 /\ sameCells x7 o8 v7 w7 1 /\ F1039_o422 B R n7 o7 (some ⟨n8, 0, none⟩) p7 q7 r7 s7 o8)
def F1039_o252 (B : World) (R : Po) (p8 q8 r8 : OA) (s8 t8 u8 v8 w8 x8 : Nat) (y8 : Heap) : Prop :=
(Ec B 46 #[.slice r8 s8 t8] (retE (fun z8 a9 => ∃ b9 c9 d9 e9 f9 g9 i9 j9 k9 l9 m9 n9, z8 = .tuple #[.agg #[.int .i64 b9, .bool c9, .slice d9 e9 f9, .int .i64 g9], .agg #[.int .i64 i9, .bool j9, .slice k9 l9 m9, .int .i64 n9]] /\
 F1039_o273 B R p8 q8 b9 c9 d9 e9 f9 g9 i9 j9 k9 l9 m9 n9 u8 v8 w8 x8 a9)
(fun _ _ => False)) y8) /\
(alW y8 (.cells #[.int .i64 0, .bool false, .slice none 0 0, .int .i64 0] 67) fun o9 p9 =>
 sameCells y8 p9 u8 v8 1 /\ sameCells y8 p9 w8 x8 1 /\ F1039_o398 B R p8 q8 (some ⟨o9, 0, none⟩) r8 s8 t8 u8 v8 w8 x8 p9) /\
(alW y8 (.cells #[.int .i64 0, .bool false, .slice none 0 0, .int .i64 0] 67) fun q9 r9 =>
 sameCells y8 r9 u8 v8 1 /\ sameCells y8 r9 w8 x8 1 /\ F1039_o443 B R p8 q8 (some ⟨q9, 0, none⟩) r8 s8 t8 u8 v8 w8 x8 r9)
def F1039_o490 (B : World) (R : Po) (s9 t9 u9 v9 : OA) (w9 : Int) (x9 : Bool) (y9 : OA) (z9 a10 : Nat) (b10 c10 : Int) (d10 : Bool) (e10 : OA) (f10 g10 : Nat) (i10 : Int) (j10 : Heap) : Prop :=
 alW j10 (.cells #[.int .i64 w9, .bool x9, .slice y9 z9 a10, .int .i64 b10, .int .i64 c10, .bool d10, .slice e10 f10 g10, .int .i64 i10] 67) fun k10 l10 =>
 F1039_o422 B R s9 t9 u9 v9 (some ⟨k10, 0, none⟩) 2 2 l10
def F1039_o469 (B : World) (R : Po) (m10 n10 o10 : OA) (p10 : Int) (q10 : Bool) (r10 : OA) (s10 t10 : Nat) (u10 v10 : Int) (w10 : Bool) (x10 : OA) (y10 z10 : Nat) (a11 : Int) (b11 c11 d11 e11 : Nat) (f11 : Heap) : Prop :=
(alW f11 (.cells #[.int .i64 p10, .bool q10, .slice r10 s10 t10, .int .i64 u10, .int .i64 v10, .bool w10, .slice x10 y10 z10, .int .i64 a11] 67) fun g11 i11 =>
 F1039_o398 B R m10 n10 o10 (some ⟨g11, 0, none⟩) 2 2 b11 c11 d11 e11 i11) /\
(alW f11 (.cells #[.int .i64 0, .bool false, .slice none 0 0, .int .i64 0] 67) fun j11 k11 =>
 sameCells f11 k11 b11 c11 1 /\ sameCells f11 k11 d11 e11 1 /\ F1039_o490 B R m10 n10 o10 (some ⟨j11, 0, none⟩) p10 q10 r10 s10 t10 u10 v10 w10 x10 y10 z10 a11 k11)
def F1039_o508 (B : World) (R : Po) (l11 m11 n11 : OA) (o11 : Int) (p11 : Bool) (q11 : OA) (r11 s11 : Nat) (t11 u11 : Int) (v11 : Bool) (w11 : OA) (x11 y11 : Nat) (z11 : Int) (a12 b12 c12 d12 : Nat) (e12 : Heap) : Prop :=
(alW e12 (.cells #[.int .i64 o11, .bool p11, .slice q11 r11 s11, .int .i64 t11, .int .i64 u11, .bool v11, .slice w11 x11 y11, .int .i64 z11] 67) fun f12 g12 =>
 F1039_o443 B R l11 m11 n11 (some ⟨f12, 0, none⟩) 2 2 a12 b12 c12 d12 g12) /\
(alW e12 (.cells #[.int .i64 0, .bool false, .slice none 0 0, .int .i64 0] 67) fun i12 j12 =>
 sameCells e12 j12 a12 b12 1 /\ sameCells e12 j12 c12 d12 1 /\ F1039_o490 B R l11 m11 (some ⟨i12, 0, none⟩) n11 o11 p11 q11 r11 s11 t11 u11 v11 w11 x11 y11 z11 j12)
def F1039_o234 (B : World) (R : Po) (k12 l12 : OA) (m12 : Int) (n12 : Bool) (o12 : OA) (p12 q12 : Nat) (r12 s12 : Int) (t12 : Bool) (u12 : OA) (v12 w12 : Nat) (x12 : Int) (y12 z12 a13 b13 : Nat) (c13 : Heap) : Prop :=
(alW c13 (.cells #[.int .i64 m12, .bool n12, .slice o12 p12 q12, .int .i64 r12, .int .i64 s12, .bool t12, .slice u12 v12 w12, .int .i64 x12] 67) fun d13 e13 =>
 F1039_o252 B R k12 l12 (some ⟨d13, 0, none⟩) 2 2 y12 z12 a13 b13 e13) /\
(alW c13 (.cells #[.int .i64 0, .bool false, .slice none 0 0, .int .i64 0] 67) fun f13 g13 =>
 sameCells c13 g13 y12 z12 1 /\ sameCells c13 g13 a13 b13 1 /\ F1039_o469 B R k12 l12 (some ⟨f13, 0, none⟩) m12 n12 o12 p12 q12 r12 s12 t12 u12 v12 w12 x12 y12 z12 a13 b13 g13) /\
(alW c13 (.cells #[.int .i64 0, .bool false, .slice none 0 0, .int .i64 0] 67) fun i13 j13 =>
 sameCells c13 j13 y12 z12 1 /\ sameCells c13 j13 a13 b13 1 /\ F1039_o508 B R k12 l12 (some ⟨i13, 0, none⟩) m12 n12 o12 p12 q12 r12 s12 t12 u12 v12 w12 x12 y12 z12 a13 b13 j13)
def F1039_o555 (B : World) (R : Po) (k13 l13 m13 n13 : OA) (o13 : Int) (p13 : Bool) (q13 : OA) (r13 s13 : Nat) (t13 u13 : Int) (v13 : Heap) : Prop :=
 Ec B 41 #[.int .i64 u13] (retE (fun w13 x13 => ∃ y13 z13 a14 b14 c14 d14, w13 = .agg #[.int .i64 y13, .bool z13, .slice a14 b14 c14, .int .i64 d14] /\
 F1039_o490 B R k13 l13 m13 n13 o13 p13 q13 r13 s13 t13 y13 z13 a14 b14 c14 d14 x13)
(fun _ _ => False)) v13
def F1039_o531 (B : World) (R : Po) (e14 f14 g14 : OA) (i14 : Int) (j14 : Bool) (k14 : OA) (l14 m14 : Nat) (n14 o14 : Int) (p14 q14 r14 s14 : Nat) (t14 : Heap) : Prop :=
(Ec B 41 #[.int .i64 o14] (retE (fun u14 v14 => ∃ w14 x14 y14 z14 a15 b15, u14 = .agg #[.int .i64 w14, .bool x14, .slice y14 z14 a15, .int .i64 b15] /\
 F1039_o469 B R e14 f14 g14 i14 j14 k14 l14 m14 n14 w14 x14 y14 z14 a15 b15 p14 q14 r14 s14 v14)
(fun _ _ => False)) t14) /\
(alW t14 (.cells #[.int .i64 0, .bool false, .slice none 0 0, .int .i64 0] 67) fun c15 d15 =>
 sameCells t14 d15 p14 q14 1 /\ sameCells t14 d15 r14 s14 1 /\ F1039_o555 B R e14 f14 g14 (some ⟨c15, 0, none⟩) i14 j14 k14 l14 m14 n14 o14 d15)
def F1039_o576 (B : World) (R : Po) (e15 f15 g15 : OA) (i15 : Int) (j15 : Bool) (k15 : OA) (l15 m15 : Nat) (n15 o15 : Int) (p15 q15 r15 s15 : Nat) (t15 : Heap) : Prop :=
(Ec B 41 #[.int .i64 o15] (retE (fun u15 v15 => ∃ w15 x15 y15 z15 a16 b16, u15 = .agg #[.int .i64 w15, .bool x15, .slice y15 z15 a16, .int .i64 b16] /\
 F1039_o508 B R e15 f15 g15 i15 j15 k15 l15 m15 n15 w15 x15 y15 z15 a16 b16 p15 q15 r15 s15 v15)
(fun _ _ => False)) t15) /\
(alW t15 (.cells #[.int .i64 0, .bool false, .slice none 0 0, .int .i64 0] 67) fun c16 d16 =>
 sameCells t15 d16 p15 q15 1 /\ sameCells t15 d16 r15 s15 1 /\ F1039_o555 B R e15 f15 (some ⟨c16, 0, none⟩) g15 i15 j15 k15 l15 m15 n15 o15 d16)
def F1039_o213 (B : World) (R : Po) (e16 f16 : OA) (g16 : Int) (i16 : Bool) (j16 : OA) (k16 l16 : Nat) (m16 n16 : Int) (o16 p16 q16 r16 : Nat) (s16 : Heap) : Prop :=
(Ec B 41 #[.int .i64 n16] (retE (fun t16 u16 => ∃ v16 w16 x16 y16 z16 a17, t16 = .agg #[.int .i64 v16, .bool w16, .slice x16 y16 z16, .int .i64 a17] /\
 F1039_o234 B R e16 f16 g16 i16 j16 k16 l16 m16 v16 w16 x16 y16 z16 a17 o16 p16 q16 r16 u16)
(fun _ _ => False)) s16) /\
(alW s16 (.cells #[.int .i64 0, .bool false, .slice none 0 0, .int .i64 0] 67) fun b17 c17 =>
 sameCells s16 c17 o16 p16 1 /\ sameCells s16 c17 q16 r16 1 /\ F1039_o531 B R e16 f16 (some ⟨b17, 0, none⟩) g16 i16 j16 k16 l16 m16 n16 o16 p16 q16 r16 c17) /\
(alW s16 (.cells #[.int .i64 0, .bool false, .slice none 0 0, .int .i64 0] 67) fun d17 e17 =>
 sameCells s16 e17 o16 p16 1 /\ sameCells s16 e17 q16 r16 1 /\ F1039_o576 B R e16 f16 (some ⟨d17, 0, none⟩) g16 i16 j16 k16 l16 m16 n16 o16 p16 q16 r16 e17)
def F1039_o623 (B : World) (R : Po) (f17 g17 i17 j17 : OA) (k17 l17 : Int) (m17 n17 : Nat) (o17 : Heap) : Prop :=
 Ec B 41 #[.int .i64 k17] (retE (fun p17 q17 => ∃ r17 s17 t17 u17 v17 w17, p17 = .agg #[.int .i64 r17, .bool s17, .slice t17 u17 v17, .int .i64 w17] /\
 sameCells o17 q17 m17 n17 1 /\ F1039_o555 B R f17 g17 i17 j17 r17 s17 t17 u17 v17 w17 l17 q17)
(fun _ _ => False)) o17
def F1039_o602 (B : World) (R : Po) (x17 y17 z17 : OA) (a18 b18 : Int) (c18 d18 e18 f18 : Nat) (g18 : Heap) : Prop :=
(Ec B 41 #[.int .i64 a18] (retE (fun i18 j18 => ∃ k18 l18 m18 n18 o18 p18, i18 = .agg #[.int .i64 k18, .bool l18, .slice m18 n18 o18, .int .i64 p18] /\
 sameCells g18 j18 c18 d18 1 /\ F1039_o531 B R x17 y17 z17 k18 l18 m18 n18 o18 p18 b18 c18 d18 e18 f18 j18)
(fun _ _ => False)) g18) /\
(alW g18 (.cells #[.int .i64 0, .bool false, .slice none 0 0, .int .i64 0] 67) fun q18 r18 =>
 sameCells g18 r18 c18 d18 1 /\ sameCells g18 r18 e18 f18 1 /\ F1039_o623 B R x17 y17 z17 (some ⟨q18, 0, none⟩) a18 b18 c18 d18 r18)
def F1039_o643 (B : World) (R : Po) (s18 t18 u18 : OA) (v18 w18 : Int) (x18 y18 z18 a19 : Nat) (b19 : Heap) : Prop :=
(Ec B 41 #[.int .i64 v18] (retE (fun c19 d19 => ∃ e19 f19 g19 i19 j19 k19, c19 = .agg #[.int .i64 e19, .bool f19, .slice g19 i19 j19, .int .i64 k19] /\
 sameCells b19 d19 x18 y18 1 /\ F1039_o576 B R s18 t18 u18 e19 f19 g19 i19 j19 k19 w18 x18 y18 z18 a19 d19)
(fun _ _ => False)) b19) /\
(alW b19 (.cells #[.int .i64 0, .bool false, .slice none 0 0, .int .i64 0] 67) fun l19 m19 =>
 sameCells b19 m19 x18 y18 1 /\ sameCells b19 m19 z18 a19 1 /\ F1039_o623 B R s18 t18 (some ⟨l19, 0, none⟩) u18 v18 w18 x18 y18 m19)
def F1039_o195 (B : World) (R : Po) (n19 o19 : OA) (p19 q19 : Int) (r19 s19 t19 u19 : Nat) (v19 : Heap) : Prop :=
(Ec B 41 #[.int .i64 p19] (retE (fun w19 x19 => ∃ y19 z19 a20 b20 c20 d20, w19 = .agg #[.int .i64 y19, .bool z19, .slice a20 b20 c20, .int .i64 d20] /\
 sameCells v19 x19 r19 s19 1 /\ F1039_o213 B R n19 o19 y19 z19 a20 b20 c20 d20 q19 r19 s19 t19 u19 x19)
(fun _ _ => False)) v19) /\
(alW v19 (.cells #[.int .i64 0, .bool false, .slice none 0 0, .int .i64 0] 67) fun e20 f20 =>
 sameCells v19 f20 r19 s19 1 /\ sameCells v19 f20 t19 u19 1 /\ F1039_o602 B R n19 o19 (some ⟨e20, 0, none⟩) p19 q19 r19 s19 t19 u19 f20) /\
(alW v19 (.cells #[.int .i64 0, .bool false, .slice none 0 0, .int .i64 0] 67) fun g20 i20 =>
 sameCells v19 i20 r19 s19 1 /\ sameCells v19 i20 t19 u19 1 /\ F1039_o643 B R n19 o19 (some ⟨g20, 0, none⟩) p19 q19 r19 s19 t19 u19 i20)
def F1039_j2 (B : World) (R : Po) (j20 k20 l20 m20 : OA) (n20 : Heap) : Prop :=
 isP j20 fun o20 p20 =>
 isP (some ⟨o20, p20 + 1, none⟩) fun q20 r20 => ∃ s20, cI n20 q20 r20 .i64 s20 /\
 isP k20 fun t20 u20 =>
 isP (some ⟨t20, u20 + 1, none⟩) fun v20 w20 => ∃ x20, cI n20 v20 w20 .i64 x20 /\
 F1039_o195 B R l20 m20 s20 x20 v20 w20 q20 r20 n20
def F1039_o163 (B : World) (R : Po) (y20 z20 a21 b21 c21 : OA) (d21 : Int) (e21 : Bool) (f21 : OA) (g21 i21 : Nat) (j21 : Int) (k21 : Heap) : Prop :=
 isP c21 fun l21 m21 => stC k21 l21 m21 (.int .i64 d21) fun n21 =>
 stC n21 l21 (m21 + 1) (.bool e21) fun o21 =>
 stC o21 l21 (m21 + 1 + 1) (.slice f21 g21 i21) fun p21 =>
 stC p21 l21 (m21 + 1 + 1 + 1) (.int .i64 j21) fun q21 =>
 F1039_j2 B R y20 z20 a21 b21 q21
def F1039_o142 (B : World) (R : Po) (r21 s21 t21 u21 v21 : OA) (w21 : Int) (x21 : Bool) (y21 : OA) (z21 a22 : Nat) (b22 c22 : Int) (d22 : Bool) (e22 : OA) (f22 g22 : Nat) (i22 : Int) (j22 : Heap) : Prop :=
 isP u21 fun k22 l22 => stC j22 k22 l22 (.int .i64 w21) fun m22 =>
 stC m22 k22 (l22 + 1) (.bool x21) fun n22 =>
 stC n22 k22 (l22 + 1 + 1) (.slice y21 z21 a22) fun o22 =>
 stC o22 k22 (l22 + 1 + 1 + 1) (.int .i64 b22) fun p22 =>
 F1039_o163 B R r21 s21 t21 u21 v21 c22 d22 e22 f22 g22 i22 p22
def F1039_o122 (B : World) (R : Po) (q22 r22 s22 t22 : OA) (u22 : Int) (v22 : Bool) (w22 : OA) (x22 y22 : Nat) (z22 a23 : Int) (b23 : Bool) (c23 : OA) (d23 e23 : Nat) (f23 : Int) (g23 i23 j23 k23 : Nat) (l23 : Heap) : Prop :=
 alW l23 (.cells #[.int .i64 0, .bool false, .slice none 0 0, .int .i64 0] 67) fun m23 n23 =>
 sameCells l23 n23 g23 i23 1 /\ sameCells l23 n23 j23 k23 1 /\ F1039_o142 B R q22 r22 s22 t22 (some ⟨m23, 0, none⟩) u22 v22 w22 x22 y22 z22 a23 b23 c23 d23 e23 f23 n23
def F1039_o666 (B : World) (R : Po) (o23 p23 q23 r23 : OA) (s23 : Int) (t23 : Bool) (u23 : OA) (v23 w23 : Nat) (x23 y23 : Int) (z23 : Bool) (a24 : OA) (b24 c24 : Nat) (d24 : Int) (e24 f24 g24 i24 : Nat) (j24 : Heap) : Prop :=
 alW j24 (.cells #[.int .i64 0, .bool false, .slice none 0 0, .int .i64 0] 67) fun k24 l24 =>
 sameCells j24 l24 e24 f24 1 /\ sameCells j24 l24 g24 i24 1 /\ F1039_o142 B R o23 p23 q23 (some ⟨k24, 0, none⟩) r23 s23 t23 u23 v23 w23 x23 y23 z23 a24 b24 c24 d24 l24
def F1039_o103 (B : World) (R : Po) (m24 n24 o24 : OA) (p24 : Int) (q24 : Bool) (r24 : OA) (s24 t24 : Nat) (u24 v24 : Int) (w24 : Bool) (x24 : OA) (y24 z24 : Nat) (a25 : Int) (b25 c25 d25 e25 : Nat) (f25 : Heap) : Prop :=
(alW f25 (.cells #[.int .i64 0, .bool false, .slice none 0 0, .int .i64 0] 67) fun g25 i25 =>
 sameCells f25 i25 b25 c25 1 /\ sameCells f25 i25 d25 e25 1 /\ F1039_o122 B R m24 n24 o24 (some ⟨g25, 0, none⟩) p24 q24 r24 s24 t24 u24 v24 w24 x24 y24 z24 a25 b25 c25 d25 e25 i25) /\
(alW f25 (.cells #[.int .i64 0, .bool false, .slice none 0 0, .int .i64 0] 67) fun j25 k25 =>
 sameCells f25 k25 b25 c25 1 /\ sameCells f25 k25 d25 e25 1 /\ F1039_o666 B R m24 n24 o24 (some ⟨j25, 0, none⟩) p24 q24 r24 s24 t24 u24 v24 w24 x24 y24 z24 a25 b25 c25 d25 e25 k25)
def F1039_o713 (B : World) (R : Po) (l25 m25 n25 o25 p25 q25 : OA) (r25 s25 : Nat) (t25 : Heap) : Prop :=
 Ec B 46 #[.slice q25 r25 s25] (retE (fun u25 v25 => ∃ w25 x25 y25 z25 a26 b26 c26 d26 e26 f26 g26 i26, u25 = .tuple #[.agg #[.int .i64 w25, .bool x25, .slice y25 z25 a26, .int .i64 b26], .agg #[.int .i64 c26, .bool d26, .slice e26 f26 g26, .int .i64 i26]] /\
 F1039_o142 B R l25 m25 n25 o25 p25 w25 x25 y25 z25 a26 b26 c26 d26 e26 f26 g26 i26 v25)
(fun _ _ => False)) t25
def F1039_o688 (B : World) (R : Po) (j26 k26 l26 m26 n26 : OA) (o26 p26 q26 r26 s26 t26 : Nat) (u26 : Heap) : Prop :=
(Ec B 46 #[.slice n26 o26 p26] (retE (fun v26 w26 => ∃ x26 y26 z26 a27 b27 c27 d27 e27 f27 g27 i27 j27, v26 = .tuple #[.agg #[.int .i64 x26, .bool y26, .slice z26 a27 b27, .int .i64 c27], .agg #[.int .i64 d27, .bool e27, .slice f27 g27 i27, .int .i64 j27]] /\
 F1039_o122 B R j26 k26 l26 m26 x26 y26 z26 a27 b27 c27 d27 e27 f27 g27 i27 j27 q26 r26 s26 t26 w26)
(fun _ _ => False)) u26) /\
(alW u26 (.cells #[.int .i64 0, .bool false, .slice none 0 0, .int .i64 0] 67) fun k27 l27 =>
 sameCells u26 l27 q26 r26 1 /\ sameCells u26 l27 s26 t26 1 /\ F1039_o713 B R j26 k26 l26 m26 (some ⟨k27, 0, none⟩) n26 o26 p26 l27)
def F1039_o735 (B : World) (R : Po) (m27 n27 o27 p27 q27 : OA) (r27 s27 t27 u27 v27 w27 : Nat) (x27 : Heap) : Prop :=
(Ec B 46 #[.slice q27 r27 s27] (retE (fun y27 z27 => ∃ a28 b28 c28 d28 e28 f28 g28 i28 j28 k28 l28 m28, y27 = .tuple #[.agg #[.int .i64 a28, .bool b28, .slice c28 d28 e28, .int .i64 f28], .agg #[.int .i64 g28, .bool i28, .slice j28 k28 l28, .int .i64 m28]] /\
 F1039_o666 B R m27 n27 o27 p27 a28 b28 c28 d28 e28 f28 g28 i28 j28 k28 l28 m28 t27 u27 v27 w27 z27)
(fun _ _ => False)) x27) /\
(alW x27 (.cells #[.int .i64 0, .bool false, .slice none 0 0, .int .i64 0] 67) fun n28 o28 =>
 sameCells x27 o28 t27 u27 1 /\ sameCells x27 o28 v27 w27 1 /\ F1039_o713 B R m27 n27 o27 (some ⟨n28, 0, none⟩) p27 q27 r27 s27 o28)
def F1039_o81 (B : World) (R : Po) (p28 q28 r28 s28 : OA) (t28 u28 v28 w28 x28 y28 : Nat) (z28 : Heap) : Prop :=
(Ec B 46 #[.slice s28 t28 u28] (retE (fun a29 b29 => ∃ c29 d29 e29 f29 g29 i29 j29 k29 l29 m29 n29 o29, a29 = .tuple #[.agg #[.int .i64 c29, .bool d29, .slice e29 f29 g29, .int .i64 i29], .agg #[.int .i64 j29, .bool k29, .slice l29 m29 n29, .int .i64 o29]] /\
 F1039_o103 B R p28 q28 r28 c29 d29 e29 f29 g29 i29 j29 k29 l29 m29 n29 o29 v28 w28 x28 y28 b29)
(fun _ _ => False)) z28) /\
(alW z28 (.cells #[.int .i64 0, .bool false, .slice none 0 0, .int .i64 0] 67) fun p29 q29 =>
 sameCells z28 q29 v28 w28 1 /\ sameCells z28 q29 x28 y28 1 /\ F1039_o688 B R p28 q28 r28 (some ⟨p29, 0, none⟩) s28 t28 u28 v28 w28 x28 y28 q29) /\
(alW z28 (.cells #[.int .i64 0, .bool false, .slice none 0 0, .int .i64 0] 67) fun r29 s29 =>
 sameCells z28 s29 v28 w28 1 /\ sameCells z28 s29 x28 y28 1 /\ F1039_o735 B R p28 q28 r28 (some ⟨r29, 0, none⟩) s28 t28 u28 v28 w28 x28 y28 s29)
def F1039_o784 (B : World) (R : Po) (t29 u29 v29 w29 x29 : OA) (y29 : Int) (z29 : Bool) (a30 : OA) (b30 c30 : Nat) (d30 e30 : Int) (f30 : Bool) (g30 : OA) (i30 j30 : Nat) (k30 : Int) (l30 : Heap) : Prop :=
 alW l30 (.cells #[.int .i64 y29, .bool z29, .slice a30 b30 c30, .int .i64 d30, .int .i64 e30, .bool f30, .slice g30 i30 j30, .int .i64 k30] 67) fun m30 n30 =>
 F1039_o713 B R t29 u29 v29 w29 x29 (some ⟨m30, 0, none⟩) 2 2 n30
def F1039_o762 (B : World) (R : Po) (o30 p30 q30 r30 : OA) (s30 : Int) (t30 : Bool) (u30 : OA) (v30 w30 : Nat) (x30 y30 : Int) (z30 : Bool) (a31 : OA) (b31 c31 : Nat) (d31 : Int) (e31 f31 g31 i31 : Nat) (j31 : Heap) : Prop :=
(alW j31 (.cells #[.int .i64 s30, .bool t30, .slice u30 v30 w30, .int .i64 x30, .int .i64 y30, .bool z30, .slice a31 b31 c31, .int .i64 d31] 67) fun k31 l31 =>
 F1039_o688 B R o30 p30 q30 r30 (some ⟨k31, 0, none⟩) 2 2 e31 f31 g31 i31 l31) /\
(alW j31 (.cells #[.int .i64 0, .bool false, .slice none 0 0, .int .i64 0] 67) fun m31 n31 =>
 sameCells j31 n31 e31 f31 1 /\ sameCells j31 n31 g31 i31 1 /\ F1039_o784 B R o30 p30 q30 r30 (some ⟨m31, 0, none⟩) s30 t30 u30 v30 w30 x30 y30 z30 a31 b31 c31 d31 n31)
def F1039_o803 (B : World) (R : Po) (o31 p31 q31 r31 : OA) (s31 : Int) (t31 : Bool) (u31 : OA) (v31 w31 : Nat) (x31 y31 : Int) (z31 : Bool) (a32 : OA) (b32 c32 : Nat) (d32 : Int) (e32 f32 g32 i32 : Nat) (j32 : Heap) : Prop :=
(alW j32 (.cells #[.int .i64 s31, .bool t31, .slice u31 v31 w31, .int .i64 x31, .int .i64 y31, .bool z31, .slice a32 b32 c32, .int .i64 d32] 67) fun k32 l32 =>
 F1039_o735 B R o31 p31 q31 r31 (some ⟨k32, 0, none⟩) 2 2 e32 f32 g32 i32 l32) /\
(alW j32 (.cells #[.int .i64 0, .bool false, .slice none 0 0, .int .i64 0] 67) fun m32 n32 =>
 sameCells j32 n32 e32 f32 1 /\ sameCells j32 n32 g32 i32 1 /\ F1039_o784 B R o31 p31 q31 (some ⟨m32, 0, none⟩) r31 s31 t31 u31 v31 w31 x31 y31 z31 a32 b32 c32 d32 n32)
def F1039_o62 (B : World) (R : Po) (o32 p32 q32 : OA) (r32 : Int) (s32 : Bool) (t32 : OA) (u32 v32 : Nat) (w32 x32 : Int) (y32 : Bool) (z32 : OA) (a33 b33 : Nat) (c33 : Int) (d33 e33 f33 g33 : Nat) (i33 : Heap) : Prop :=
(alW i33 (.cells #[.int .i64 r32, .bool s32, .slice t32 u32 v32, .int .i64 w32, .int .i64 x32, .bool y32, .slice z32 a33 b33, .int .i64 c33] 67) fun j33 k33 =>
 F1039_o81 B R o32 p32 q32 (some ⟨j33, 0, none⟩) 2 2 d33 e33 f33 g33 k33) /\
(alW i33 (.cells #[.int .i64 0, .bool false, .slice none 0 0, .int .i64 0] 67) fun l33 m33 =>
 sameCells i33 m33 d33 e33 1 /\ sameCells i33 m33 f33 g33 1 /\ F1039_o762 B R o32 p32 q32 (some ⟨l33, 0, none⟩) r32 s32 t32 u32 v32 w32 x32 y32 z32 a33 b33 c33 d33 e33 f33 g33 m33) /\
(alW i33 (.cells #[.int .i64 0, .bool false, .slice none 0 0, .int .i64 0] 67) fun n33 o33 =>
 sameCells i33 o33 d33 e33 1 /\ sameCells i33 o33 f33 g33 1 /\ F1039_o803 B R o32 p32 q32 (some ⟨n33, 0, none⟩) r32 s32 t32 u32 v32 w32 x32 y32 z32 a33 b33 c33 d33 e33 f33 g33 o33)
def F1039_o852 (B : World) (R : Po) (p33 q33 r33 s33 t33 : OA) (u33 : Int) (v33 : Bool) (w33 : OA) (x33 y33 : Nat) (z33 a34 : Int) (b34 : Heap) : Prop :=
 Ec B 41 #[.int .i64 a34] (retE (fun c34 d34 => ∃ e34 f34 g34 i34 j34 k34, c34 = .agg #[.int .i64 e34, .bool f34, .slice g34 i34 j34, .int .i64 k34] /\
 F1039_o784 B R p33 q33 r33 s33 t33 u33 v33 w33 x33 y33 z33 e34 f34 g34 i34 j34 k34 d34)
(fun _ _ => False)) b34
def F1039_o827 (B : World) (R : Po) (l34 m34 n34 o34 : OA) (p34 : Int) (q34 : Bool) (r34 : OA) (s34 t34 : Nat) (u34 v34 : Int) (w34 x34 y34 z34 : Nat) (a35 : Heap) : Prop :=
(Ec B 41 #[.int .i64 v34] (retE (fun b35 c35 => ∃ d35 e35 f35 g35 i35 j35, b35 = .agg #[.int .i64 d35, .bool e35, .slice f35 g35 i35, .int .i64 j35] /\
 F1039_o762 B R l34 m34 n34 o34 p34 q34 r34 s34 t34 u34 d35 e35 f35 g35 i35 j35 w34 x34 y34 z34 c35)
(fun _ _ => False)) a35) /\
(alW a35 (.cells #[.int .i64 0, .bool false, .slice none 0 0, .int .i64 0] 67) fun k35 l35 =>
 sameCells a35 l35 w34 x34 1 /\ sameCells a35 l35 y34 z34 1 /\ F1039_o852 B R l34 m34 n34 o34 (some ⟨k35, 0, none⟩) p34 q34 r34 s34 t34 u34 v34 l35)
def F1039_o874 (B : World) (R : Po) (m35 n35 o35 p35 : OA) (q35 : Int) (r35 : Bool) (s35 : OA) (t35 u35 : Nat) (v35 w35 : Int) (x35 y35 z35 a36 : Nat) (b36 : Heap) : Prop :=
(Ec B 41 #[.int .i64 w35] (retE (fun c36 d36 => ∃ e36 f36 g36 i36 j36 k36, c36 = .agg #[.int .i64 e36, .bool f36, .slice g36 i36 j36, .int .i64 k36] /\
 F1039_o803 B R m35 n35 o35 p35 q35 r35 s35 t35 u35 v35 e36 f36 g36 i36 j36 k36 x35 y35 z35 a36 d36)
(fun _ _ => False)) b36) /\
(alW b36 (.cells #[.int .i64 0, .bool false, .slice none 0 0, .int .i64 0] 67) fun l36 m36 =>
 sameCells b36 m36 x35 y35 1 /\ sameCells b36 m36 z35 a36 1 /\ F1039_o852 B R m35 n35 o35 (some ⟨l36, 0, none⟩) p35 q35 r35 s35 t35 u35 v35 w35 m36)
def F1039_o40 (B : World) (R : Po) (n36 o36 p36 : OA) (q36 : Int) (r36 : Bool) (s36 : OA) (t36 u36 : Nat) (v36 w36 : Int) (x36 y36 z36 a37 : Nat) (b37 : Heap) : Prop :=
(Ec B 41 #[.int .i64 w36] (retE (fun c37 d37 => ∃ e37 f37 g37 i37 j37 k37, c37 = .agg #[.int .i64 e37, .bool f37, .slice g37 i37 j37, .int .i64 k37] /\
 F1039_o62 B R n36 o36 p36 q36 r36 s36 t36 u36 v36 e37 f37 g37 i37 j37 k37 x36 y36 z36 a37 d37)
(fun _ _ => False)) b37) /\
(alW b37 (.cells #[.int .i64 0, .bool false, .slice none 0 0, .int .i64 0] 67) fun l37 m37 =>
 sameCells b37 m37 x36 y36 1 /\ sameCells b37 m37 z36 a37 1 /\ F1039_o827 B R n36 o36 p36 (some ⟨l37, 0, none⟩) q36 r36 s36 t36 u36 v36 w36 x36 y36 z36 a37 m37) /\
(alW b37 (.cells #[.int .i64 0, .bool false, .slice none 0 0, .int .i64 0] 67) fun n37 o37 =>
 sameCells b37 o37 x36 y36 1 /\ sameCells b37 o37 z36 a37 1 /\ F1039_o874 B R n36 o36 p36 (some ⟨n37, 0, none⟩) q36 r36 s36 t36 u36 v36 w36 x36 y36 z36 a37 o37)
def F1039_o923 (B : World) (R : Po) (p37 q37 r37 s37 t37 : OA) (u37 v37 : Int) (w37 x37 : Nat) (y37 : Heap) : Prop :=
 Ec B 41 #[.int .i64 u37] (retE (fun z37 a38 => ∃ b38 c38 d38 e38 f38 g38, z37 = .agg #[.int .i64 b38, .bool c38, .slice d38 e38 f38, .int .i64 g38] /\
 sameCells y37 a38 w37 x37 1 /\ F1039_o852 B R p37 q37 r37 s37 t37 b38 c38 d38 e38 f38 g38 v37 a38)
(fun _ _ => False)) y37
def F1039_o901 (B : World) (R : Po) (i38 j38 k38 l38 : OA) (m38 n38 : Int) (o38 p38 q38 r38 : Nat) (s38 : Heap) : Prop :=
(Ec B 41 #[.int .i64 m38] (retE (fun t38 u38 => ∃ v38 w38 x38 y38 z38 a39, t38 = .agg #[.int .i64 v38, .bool w38, .slice x38 y38 z38, .int .i64 a39] /\
 sameCells s38 u38 o38 p38 1 /\ F1039_o827 B R i38 j38 k38 l38 v38 w38 x38 y38 z38 a39 n38 o38 p38 q38 r38 u38)
(fun _ _ => False)) s38) /\
(alW s38 (.cells #[.int .i64 0, .bool false, .slice none 0 0, .int .i64 0] 67) fun b39 c39 =>
 sameCells s38 c39 o38 p38 1 /\ sameCells s38 c39 q38 r38 1 /\ F1039_o923 B R i38 j38 k38 l38 (some ⟨b39, 0, none⟩) m38 n38 o38 p38 c39)
def F1039_o944 (B : World) (R : Po) (d39 e39 f39 g39 : OA) (i39 j39 : Int) (k39 l39 m39 n39 : Nat) (o39 : Heap) : Prop :=
(Ec B 41 #[.int .i64 i39] (retE (fun p39 q39 => ∃ r39 s39 t39 u39 v39 w39, p39 = .agg #[.int .i64 r39, .bool s39, .slice t39 u39 v39, .int .i64 w39] /\
 sameCells o39 q39 k39 l39 1 /\ F1039_o874 B R d39 e39 f39 g39 r39 s39 t39 u39 v39 w39 j39 k39 l39 m39 n39 q39)
(fun _ _ => False)) o39) /\
(alW o39 (.cells #[.int .i64 0, .bool false, .slice none 0 0, .int .i64 0] 67) fun x39 y39 =>
 sameCells o39 y39 k39 l39 1 /\ sameCells o39 y39 m39 n39 1 /\ F1039_o923 B R d39 e39 f39 (some ⟨x39, 0, none⟩) g39 i39 j39 k39 l39 y39)
def F1039_o21 (B : World) (R : Po) (z39 a40 b40 : OA) (c40 d40 : Int) (e40 f40 g40 i40 : Nat) (j40 : Heap) : Prop :=
(Ec B 41 #[.int .i64 c40] (retE (fun k40 l40 => ∃ m40 n40 o40 p40 q40 r40, k40 = .agg #[.int .i64 m40, .bool n40, .slice o40 p40 q40, .int .i64 r40] /\
 sameCells j40 l40 e40 f40 1 /\ F1039_o40 B R z39 a40 b40 m40 n40 o40 p40 q40 r40 d40 e40 f40 g40 i40 l40)
(fun _ _ => False)) j40) /\
(alW j40 (.cells #[.int .i64 0, .bool false, .slice none 0 0, .int .i64 0] 67) fun s40 t40 =>
 sameCells j40 t40 e40 f40 1 /\ sameCells j40 t40 g40 i40 1 /\ F1039_o901 B R z39 a40 b40 (some ⟨s40, 0, none⟩) c40 d40 e40 f40 g40 i40 t40) /\
(alW j40 (.cells #[.int .i64 0, .bool false, .slice none 0 0, .int .i64 0] 67) fun u40 v40 =>
 sameCells j40 v40 e40 f40 1 /\ sameCells j40 v40 g40 i40 1 /\ F1039_o944 B R z39 a40 b40 (some ⟨u40, 0, none⟩) c40 d40 e40 f40 g40 i40 v40)
def F1039 (B : World) (R : Po) (w40 x40 y40 z40 : Int) (h : Heap) : Prop :=
 alW h (.cells #[.int .i64 w40, .int .i64 x40] 23) fun a41 b41 =>
 alW b41 (.cells #[.int .i64 y40, .int .i64 z40] 23) fun c41 d41 =>
 alW d41 (.cells #[.int .i64 0, .int .i64 0] 23) fun e41 f41 =>
 iP a41 0 fun g41 i41 =>
 iP g41 i41 fun j41 k41 => ∃ l41, cI f41 j41 k41 .i64 l41 /\
 iP c41 0 fun m41 n41 =>
 iP m41 n41 fun o41 p41 => ∃ q41, cI f41 o41 p41 .i64 q41 /\
 F1039_o21 B R (some ⟨a41, 0, none⟩) (some ⟨c41, 0, none⟩) (some ⟨e41, 0, none⟩) l41 q41 o41 p41 j41 k41 f41
def F1039_L : Nat -> List (Nat × TypeDesc) := fun _ => []
def F1039_J (B : World) (R : Po) : Nat -> Option JT := fun i => match i with
  | 2 => some ⟨[(2, .pointer 0), (3, .pointer 0), (4, .pointer 0), (5, .pointer 0)], fun s v h => match s, v with
    | [], [.pointer j20, .pointer k20, .pointer l20, .pointer m20] => F1039_j2 B R j20 k20 l20 m20 h
    | _, _ => False⟩
  | 3 => some ⟨[(4, .pointer 0), (5, .pointer 0), (8, .pointer 0)], fun s v h => match s, v with
    | [], [.pointer a0, .pointer b0, .pointer c0] => F1039_j3 B R a0 b0 c0 h
    | _, _ => False⟩
  | _ => none
theorem F1039_ok {B : World} {R : Ending -> Heap -> Prop} (w40 x40 y40 z40 : Int) {h : Heap} (H : F1039 B R w40 x40 y40 z40 h) : Ec B 21 #[.agg #[.int .i64 w40, .int .i64 x40], .agg #[.int .i64 y40, .int .i64 z40]] R h :=
 Ej Tryz.func21 (by kernel_rfl) (by kernel_rfl) (by kernel_rfl) F1039_L (F1039_J B R) [] (by kernel_rfl) (by kernel_rfl) H
end Go.Proofs
