import Derived.Test.YtpkdpdpobddnpaaGreatFmtA03
/- Here stand lemmas: plumbref8: what the functions come to (written by program). -/
set_option linter.unusedVariables false
set_option linter.unusedVariables false
set_option maxRecDepth 100000
namespace Go.Proofs
open Go Go.Eng
def F1003_j45 (B : World) (R : Po) (a0 : Bool) (b0 : Heap) : Prop :=
 R (.returned (.bool a0)) b0
def F1003_j27 (B : World) (R : Po) (c0 d0 : OA) (e0 : Bool) (f0 : Heap) : Prop :=
(e0 = true ->
 isP d0 fun g0 i0 =>
∃ j0, cI f0 g0 i0 .i64 j0 /\
∃ k0, cell? f0 ⟨g0, i0 + 1, none⟩ = some (.int .i64 k0) /\
 isP c0 fun l0 m0 =>
∃ n0, cI f0 l0 m0 .i64 n0 /\
∃ o0, cell? f0 ⟨l0, m0 + 1, none⟩ = some (.int .i64 o0) /\
 Ec B 7 #[.agg #[.int .i64 j0, .int .i64 k0], .agg #[.int .i64 n0, .int .i64 o0]] (retE (fun p0 q0 => ∃ r0, p0 = .bool r0 /\
 F1003_j45 B R r0 q0)
(pk R)) f0) /\
(e0 = false ->
 F1003_j45 B R false f0)
def F1003 (B : World) (R : Po) (s0 t0 u0 v0 : Int) (h : Heap) : Prop :=
 alW h (.cells #[.int .i64 s0, .int .i64 t0] 23) fun w0 x0 =>
 alW x0 (.cells #[.int .i64 u0, .int .i64 v0] 23) fun y0 z0 =>
 Ec B 6 #[] (retE (fun a1 b1 => ∃ c1, a1 = .bool c1 /\
(c1 = true ->
 iP w0 0 fun d1 e1 =>
∃ f1, cI b1 d1 e1 .i64 f1 /\
∃ g1, cell? b1 ⟨d1, e1 + 1, none⟩ = some (.int .i64 g1) /\
 iP y0 0 fun i1 j1 =>
∃ k1, cI b1 i1 j1 .i64 k1 /\
∃ l1, cell? b1 ⟨i1, j1 + 1, none⟩ = some (.int .i64 l1) /\
 Ec B 7 #[.agg #[.int .i64 f1, .int .i64 g1], .agg #[.int .i64 k1, .int .i64 l1]] (retE (fun m1 n1 => ∃ o1, m1 = .bool o1 /\
 F1003_j27 B R (some ⟨w0, 0, none⟩) (some ⟨y0, 0, none⟩) o1 n1)
(pk R)) b1) /\
(c1 = false ->
 F1003_j27 B R (some ⟨w0, 0, none⟩) (some ⟨y0, 0, none⟩) false b1))
(pk R)) z0
def F1003_L : Nat -> List (Nat × TypeDesc) := fun _ => []
theorem F1003_ok {B : World} {R : Ending -> Heap -> Prop} (s0 t0 u0 v0 : Int) {h : Heap} (H : F1003 B R s0 t0 u0 v0 h) : Ec B 3 #[.agg #[.int .i64 s0, .int .i64 t0], .agg #[.int .i64 u0, .int .i64 v0]] R h :=
 Ek Tryz.func3 (by kernel_rfl) (by kernel_rfl) (by kernel_rfl) F1003_L [] (by kernel_rfl) H

def F1012_j231 (B : World) (R : Po) (a0 : Bool) (b0 : Heap) : Prop :=
 R (.returned (.bool a0)) b0
def F1012_j212 (B : World) (R : Po) (c0 d0 : OA) (e0 : Int) (f0 : Bool) (g0 : Heap) : Prop :=
(f0 = true ->
 isP d0 fun i0 j0 =>
∃ k0, cI g0 i0 j0 .i64 k0 /\
∃ l0, cell? g0 ⟨i0, j0 + 1, none⟩ = some (.int .i64 l0) /\
 isP c0 fun m0 n0 =>
∃ o0, cI g0 m0 n0 .i64 o0 /\
∃ p0, cell? g0 ⟨m0, n0 + 1, none⟩ = some (.int .i64 p0) /\
 Ec B 16 #[.agg #[.int .i64 k0, .int .i64 l0], .int .i64 e0, .bool true, .agg #[.int .i64 o0, .int .i64 p0]] (retE (fun q0 r0 => ∃ s0, q0 = .bool s0 /\
 F1012_j231 B R s0 r0)
(pk R)) g0) /\
(f0 = false ->
 F1012_j231 B R false g0)
def F1012_j205 (B : World) (R : Po) (t0 : OA) (u0 : Bool) (v0 : OA) (w0 : Int) (x0 : Bool) (y0 : Heap) : Prop :=
(x0 = true ->
 F1012_j212 B R t0 v0 w0 (!u0) y0) /\
(x0 = false ->
 F1012_j212 B R t0 v0 w0 false y0)
def F1012_j183 (B : World) (R : Po) (z0 a1 : OA) (b1 : Bool) (c1 : Int) (d1 : OA) (e1 : Int) (f1 : Bool) (g1 : Heap) : Prop :=
(f1 = true ->
 isP a1 fun i1 j1 =>
∃ k1, cI g1 i1 j1 .i64 k1 /\
∃ l1, cell? g1 ⟨i1, j1 + 1, none⟩ = some (.int .i64 l1) /\
 isP z0 fun m1 n1 =>
∃ o1, cI g1 m1 n1 .i64 o1 /\
∃ p1, cell? g1 ⟨m1, n1 + 1, none⟩ = some (.int .i64 p1) /\
 Ec B 16 #[.agg #[.int .i64 k1, .int .i64 l1], .int .i64 c1, .bool true, .agg #[.int .i64 o1, .int .i64 p1]] (retE (fun q1 r1 => ∃ s1, q1 = .bool s1 /\
 F1012_j205 B R z0 b1 d1 e1 s1 r1)
(pk R)) g1) /\
(f1 = false ->
 F1012_j205 B R z0 b1 d1 e1 false g1)
def F1012_j159 (B : World) (R : Po) (t1 u1 : OA) (v1 : Int) (w1 : OA) (x1 : Bool) (y1 : Int) (z1 : OA) (a2 : Int) (b2 : Bool) (c2 : Heap) : Prop :=
(b2 = true ->
 isP u1 fun d2 e2 =>
∃ f2, cI c2 d2 e2 .i64 f2 /\
∃ g2, cell? c2 ⟨d2, e2 + 1, none⟩ = some (.int .i64 g2) /\
 isP t1 fun i2 j2 =>
∃ k2, cI c2 i2 j2 .i64 k2 /\
∃ l2, cell? c2 ⟨i2, j2 + 1, none⟩ = some (.int .i64 l2) /\
 Ec B 16 #[.agg #[.int .i64 f2, .int .i64 g2], .int .i64 v1, .bool true, .agg #[.int .i64 k2, .int .i64 l2]] (retE (fun m2 n2 => ∃ o2, m2 = .bool o2 /\
 F1012_j183 B R t1 w1 x1 y1 z1 a2 o2 n2)
(pk R)) c2) /\
(b2 = false ->
 F1012_j183 B R t1 w1 x1 y1 z1 a2 false c2)
def F1012_j402 (B : World) (R : Po) (p2 : Bool) (q2 : Heap) : Prop :=
 R (.returned (.bool p2)) q2
def F1012_j372 (B : World) (R : Po) (r2 s2 t2 : OA) (u2 : Int) (v2 : Bool) (w2 : Heap) : Prop :=
(v2 = true ->
 isP t2 fun x2 y2 =>
∃ z2, cI w2 x2 y2 .i64 z2 /\
∃ a3, cell? w2 ⟨x2, y2 + 1, none⟩ = some (.int .i64 a3) /\
 isP r2 fun b3 c3 =>
∃ d3, cI w2 b3 c3 .i64 d3 /\
∃ e3, cell? w2 ⟨b3, c3 + 1, none⟩ = some (.int .i64 e3) /\
 isP s2 fun f3 g3 =>
∃ i3, cI w2 f3 g3 .i64 i3 /\
∃ j3, cell? w2 ⟨f3, g3 + 1, none⟩ = some (.int .i64 j3) /\
 Ec B 21 #[.agg #[.int .i64 d3, .int .i64 e3], .agg #[.int .i64 i3, .int .i64 j3]] (retE (fun k3 l3 => ∃ m3 n3, k3 = .agg #[.int .i64 m3, .int .i64 n3] /\
 sameCells w2 l3 x2 y2 2 /\ Ec B 16 #[.agg #[.int .i64 z2, .int .i64 a3], .int .i64 u2, .bool false, .agg #[.int .i64 m3, .int .i64 n3]] (retE (fun o3 p3 => ∃ q3, o3 = .bool q3 /\
 F1012_j402 B R q3 p3)
(fun _ _ => False)) l3)
(fun _ _ => False)) w2) /\
(v2 = false ->
 F1012_j402 B R false w2)
def F1012_j363 (B : World) (R : Po) (r3 s3 : OA) (t3 : Bool) (u3 : OA) (v3 : Int) (w3 x3 : Bool) (y3 : Heap) : Prop :=
(x3 = true ->
 F1012_j372 B R r3 s3 u3 v3 (t3 == w3) y3) /\
(x3 = false ->
 F1012_j372 B R r3 s3 u3 v3 false y3)
def F1012_j338 (B : World) (R : Po) (z3 a4 b4 : OA) (c4 : Bool) (d4 : Int) (e4 : OA) (f4 : Int) (g4 : OA) (i4 j4 : Bool) (k4 : Heap) : Prop :=
(j4 = true ->
 isP b4 fun l4 m4 =>
∃ n4, cI k4 l4 m4 .i64 n4 /\
∃ o4, cell? k4 ⟨l4, m4 + 1, none⟩ = some (.int .i64 o4) /\
 isP g4 fun p4 q4 =>
∃ r4, cI k4 p4 q4 .i64 r4 /\
∃ s4, cell? k4 ⟨p4, q4 + 1, none⟩ = some (.int .i64 s4) /\
 Ec B 16 #[.agg #[.int .i64 n4, .int .i64 o4], .int .i64 d4, .bool false, .agg #[.int .i64 r4, .int .i64 s4]] (retE (fun t4 u4 => ∃ v4, t4 = .bool v4 /\
 F1012_j363 B R z3 a4 c4 e4 f4 i4 v4 u4)
(fun _ _ => False)) k4) /\
(j4 = false ->
 F1012_j363 B R z3 a4 c4 e4 f4 i4 false k4)
def F1012_j301 (B : World) (R : Po) (w4 x4 y4 : OA) (z4 : Int) (a5 : OA) (b5 : Bool) (c5 : Int) (d5 : OA) (e5 : Int) (f5 : OA) (g5 i5 : Bool) (j5 : Heap) : Prop :=
(i5 = true ->
 isP y4 fun k5 l5 =>
∃ m5, cI j5 k5 l5 .i64 m5 /\
∃ n5, cell? j5 ⟨k5, l5 + 1, none⟩ = some (.int .i64 n5) /\
 isP w4 fun o5 p5 =>
∃ q5, cI j5 o5 p5 .i64 q5 /\
∃ r5, cell? j5 ⟨o5, p5 + 1, none⟩ = some (.int .i64 r5) /\
 isP x4 fun s5 t5 =>
∃ u5, cI j5 s5 t5 .i64 u5 /\
∃ v5, cell? j5 ⟨s5, t5 + 1, none⟩ = some (.int .i64 v5) /\
 Ec B 20 #[.agg #[.int .i64 q5, .int .i64 r5], .agg #[.int .i64 u5, .int .i64 v5]] (retE (fun w5 x5 => ∃ y5 z5, w5 = .agg #[.int .i64 y5, .int .i64 z5] /\
 sameCells j5 x5 k5 l5 2 /\ Ec B 16 #[.agg #[.int .i64 m5, .int .i64 n5], .int .i64 z4, .bool false, .agg #[.int .i64 y5, .int .i64 z5]] (retE (fun a6 b6 => ∃ c6, a6 = .bool c6 /\
 F1012_j338 B R w4 x4 a5 b5 c5 d5 e5 f5 g5 c6 b6)
(fun _ _ => False)) x5)
(fun _ _ => False)) j5) /\
(i5 = false ->
 F1012_j338 B R w4 x4 a5 b5 c5 d5 e5 f5 g5 false j5)
def F1012_j2 (B : World) (R : Po) (d6 e6 : OA) (f6 : Bool) (g6 : Heap) : Prop :=
 isP d6 fun i6 j6 =>
∃ k6, cI g6 i6 j6 .i64 k6 /\
∃ l6, cell? g6 ⟨i6, j6 + 1, none⟩ = some (.int .i64 l6) /\
 isP e6 fun m6 n6 =>
∃ o6, cI g6 m6 n6 .i64 o6 /\
∃ p6, cell? g6 ⟨m6, n6 + 1, none⟩ = some (.int .i64 p6) /\
 Ec B 9 #[.agg #[.int .i64 k6, .int .i64 l6], .agg #[.int .i64 o6, .int .i64 p6]] (retE (fun q6 r6 => ∃ s6 t6 u6, q6 = .tuple #[.agg #[.int .i64 s6, .int .i64 t6], .int .i64 u6] /\
 alW r6 (.cells #[.int .i64 0, .int .i64 0] 23) fun v6 w6 =>
 iP v6 0 fun x6 y6 => stC w6 x6 y6 (.int .i64 s6) fun z6 =>
 stC z6 x6 (y6 + 1) (.int .i64 t6) fun a7 =>
 isP d6 fun b7 c7 =>
∃ d7, cI a7 b7 c7 .i64 d7 /\
∃ e7, cell? a7 ⟨b7, c7 + 1, none⟩ = some (.int .i64 e7) /\
 isP e6 fun f7 g7 =>
∃ i7, cI a7 f7 g7 .i64 i7 /\
∃ j7, cell? a7 ⟨f7, g7 + 1, none⟩ = some (.int .i64 j7) /\
 Ec B 12 #[.agg #[.int .i64 d7, .int .i64 e7], .agg #[.int .i64 i7, .int .i64 j7]] (retE (fun k7 l7 => ∃ m7 n7 o7, k7 = .tuple #[.agg #[.int .i64 m7, .int .i64 n7], .int .i64 o7] /\
 alW l7 (.cells #[.int .i64 0, .int .i64 0] 23) fun p7 q7 =>
 iP p7 0 fun r7 s7 => stC q7 r7 s7 (.int .i64 m7) fun t7 =>
 stC t7 r7 (s7 + 1) (.int .i64 n7) fun u7 =>
 isP d6 fun v7 w7 =>
∃ x7, cI u7 v7 w7 .i64 x7 /\
∃ y7, cell? u7 ⟨v7, w7 + 1, none⟩ = some (.int .i64 y7) /\
 isP e6 fun z7 a8 =>
∃ b8, cI u7 z7 a8 .i64 b8 /\
∃ c8, cell? u7 ⟨z7, a8 + 1, none⟩ = some (.int .i64 c8) /\
 Ec B 13 #[.agg #[.int .i64 x7, .int .i64 y7], .agg #[.int .i64 b8, .int .i64 c8]] (retE (fun d8 e8 => ∃ f8 g8 i8, d8 = .tuple #[.agg #[.int .i64 f8, .int .i64 g8], .int .i64 i8] /\
 alW e8 (.cells #[.int .i64 0, .int .i64 0] 23) fun j8 k8 =>
 iP j8 0 fun l8 m8 => stC k8 l8 m8 (.int .i64 f8) fun n8 =>
 stC n8 l8 (m8 + 1) (.int .i64 g8) fun o8 =>
 isP d6 fun p8 q8 =>
∃ r8, cI o8 p8 q8 .i64 r8 /\
∃ s8, cell? o8 ⟨p8, q8 + 1, none⟩ = some (.int .i64 s8) /\
 isP e6 fun t8 u8 =>
∃ v8, cI o8 t8 u8 .i64 v8 /\
∃ w8, cell? o8 ⟨t8, u8 + 1, none⟩ = some (.int .i64 w8) /\
 Ec B 14 #[.agg #[.int .i64 r8, .int .i64 s8], .agg #[.int .i64 v8, .int .i64 w8]] (retE (fun x8 y8 => ∃ z8 a9 b9 c9, x8 = .tuple #[.agg #[.int .i64 z8, .int .i64 a9], .bool b9, .int .i64 c9] /\
 alW y8 (.cells #[.int .i64 0, .int .i64 0] 23) fun d9 e9 =>
 iP d9 0 fun f9 g9 => stC e9 f9 g9 (.int .i64 z8) fun i9 =>
 stC i9 f9 (g9 + 1) (.int .i64 a9) fun j9 =>
 isP d6 fun k9 l9 =>
∃ m9, cI j9 k9 l9 .i64 m9 /\
∃ n9, cell? j9 ⟨k9, l9 + 1, none⟩ = some (.int .i64 n9) /\
 isP e6 fun o9 p9 =>
∃ q9, cI j9 o9 p9 .i64 q9 /\
∃ r9, cell? j9 ⟨o9, p9 + 1, none⟩ = some (.int .i64 r9) /\
 Ec B 15 #[.agg #[.int .i64 m9, .int .i64 n9], .agg #[.int .i64 q9, .int .i64 r9]] (retE (fun s9 t9 => ∃ u9 v9 w9, s9 = .tuple #[.agg #[.int .i64 u9, .int .i64 v9], .int .i64 w9] /\
 alW t9 (.cells #[.int .i64 0, .int .i64 0] 23) fun x9 y9 =>
 iP x9 0 fun z9 a10 => stC y9 z9 a10 (.int .i64 u9) fun b10 =>
 stC b10 z9 (a10 + 1) (.int .i64 v9) fun c10 =>
(f6 = true ->
 iP v6 0 fun d10 e10 =>
∃ f10, cI c10 d10 e10 .i64 f10 /\
∃ g10, cell? c10 ⟨d10, e10 + 1, none⟩ = some (.int .i64 g10) /\
 isP d6 fun i10 j10 =>
∃ k10, cI c10 i10 j10 .i64 k10 /\
∃ l10, cell? c10 ⟨i10, j10 + 1, none⟩ = some (.int .i64 l10) /\
 Ec B 16 #[.agg #[.int .i64 f10, .int .i64 g10], .int .i64 u6, .bool true, .agg #[.int .i64 k10, .int .i64 l10]] (retE (fun m10 n10 => ∃ o10, m10 = .bool o10 /\
(o10 = true ->
 iP p7 0 fun p10 q10 =>
∃ r10, cI n10 p10 q10 .i64 r10 /\
∃ s10, cell? n10 ⟨p10, q10 + 1, none⟩ = some (.int .i64 s10) /\
 isP d6 fun t10 u10 =>
∃ v10, cI n10 t10 u10 .i64 v10 /\
∃ w10, cell? n10 ⟨t10, u10 + 1, none⟩ = some (.int .i64 w10) /\
 Ec B 16 #[.agg #[.int .i64 r10, .int .i64 s10], .int .i64 o7, .bool true, .agg #[.int .i64 v10, .int .i64 w10]] (retE (fun x10 y10 => ∃ z10, x10 = .bool z10 /\
 F1012_j159 B R d6 (some ⟨j8, 0, none⟩) i8 (some ⟨d9, 0, none⟩) b9 c9 (some ⟨x9, 0, none⟩) w9 z10 y10)
(pk R)) n10) /\
(o10 = false ->
 F1012_j159 B R d6 (some ⟨j8, 0, none⟩) i8 (some ⟨d9, 0, none⟩) b9 c9 (some ⟨x9, 0, none⟩) w9 false n10))
(pk R)) c10) /\
(f6 = false ->
 isP d6 fun a11 b11 =>
∃ c11, cI c10 a11 b11 .i64 c11 /\
∃ d11, cell? c10 ⟨a11, b11 + 1, none⟩ = some (.int .i64 d11) /\
 isP e6 fun e11 f11 =>
∃ g11, cI c10 e11 f11 .i64 g11 /\
∃ i11, cell? c10 ⟨e11, f11 + 1, none⟩ = some (.int .i64 i11) /\
 Ec B 17 #[.agg #[.int .i64 c11, .int .i64 d11], .agg #[.int .i64 g11, .int .i64 i11]] (retE (fun j11 k11 => ∃ l11 m11 n11, j11 = .tuple #[.agg #[.int .i64 l11, .int .i64 m11], .bool n11] /\
 alW k11 (.cells #[.int .i64 0, .int .i64 0] 23) fun o11 p11 =>
 iP o11 0 fun q11 r11 => stC p11 q11 r11 (.int .i64 l11) fun s11 =>
 stC s11 q11 (r11 + 1) (.int .i64 m11) fun t11 =>
 iP v6 0 fun u11 v11 =>
∃ w11, cI t11 u11 v11 .i64 w11 /\
∃ x11, cell? t11 ⟨u11, v11 + 1, none⟩ = some (.int .i64 x11) /\
 isP d6 fun y11 z11 =>
∃ a12, cI t11 y11 z11 .i64 a12 /\
∃ b12, cell? t11 ⟨y11, z11 + 1, none⟩ = some (.int .i64 b12) /\
 isP e6 fun c12 d12 =>
∃ e12, cI t11 c12 d12 .i64 e12 /\
∃ f12, cell? t11 ⟨c12, d12 + 1, none⟩ = some (.int .i64 f12) /\
 Ec B 18 #[.agg #[.int .i64 a12, .int .i64 b12], .agg #[.int .i64 e12, .int .i64 f12]] (retE (fun g12 i12 => ∃ j12 k12, g12 = .agg #[.int .i64 j12, .int .i64 k12] /\
 sameCells t11 i12 u11 v11 2 /\ Ec B 16 #[.agg #[.int .i64 w11, .int .i64 x11], .int .i64 u6, .bool false, .agg #[.int .i64 j12, .int .i64 k12]] (retE (fun l12 m12 => ∃ n12, l12 = .bool n12 /\
(n12 = true ->
 iP p7 0 fun o12 p12 =>
∃ q12, cI m12 o12 p12 .i64 q12 /\
∃ r12, cell? m12 ⟨o12, p12 + 1, none⟩ = some (.int .i64 r12) /\
 isP d6 fun s12 t12 =>
∃ u12, cI m12 s12 t12 .i64 u12 /\
∃ v12, cell? m12 ⟨s12, t12 + 1, none⟩ = some (.int .i64 v12) /\
 isP e6 fun w12 x12 =>
∃ y12, cI m12 w12 x12 .i64 y12 /\
∃ z12, cell? m12 ⟨w12, x12 + 1, none⟩ = some (.int .i64 z12) /\
 Ec B 19 #[.agg #[.int .i64 u12, .int .i64 v12], .agg #[.int .i64 y12, .int .i64 z12]] (retE (fun a13 b13 => ∃ c13 d13, a13 = .agg #[.int .i64 c13, .int .i64 d13] /\
 sameCells m12 b13 o12 p12 2 /\ Ec B 16 #[.agg #[.int .i64 q12, .int .i64 r12], .int .i64 o7, .bool false, .agg #[.int .i64 c13, .int .i64 d13]] (retE (fun e13 f13 => ∃ g13, e13 = .bool g13 /\
 F1012_j301 B R d6 e6 (some ⟨j8, 0, none⟩) i8 (some ⟨d9, 0, none⟩) b9 c9 (some ⟨x9, 0, none⟩) w9 (some ⟨o11, 0, none⟩) n11 g13 f13)
(fun _ _ => False)) b13)
(fun _ _ => False)) m12) /\
(n12 = false ->
 F1012_j301 B R d6 e6 (some ⟨j8, 0, none⟩) i8 (some ⟨d9, 0, none⟩) b9 c9 (some ⟨x9, 0, none⟩) w9 (some ⟨o11, 0, none⟩) n11 false m12))
(fun _ _ => False)) i12)
(fun _ _ => False)) t11)
(pk R)) c10))
(pk R)) j9)
(pk R)) o8)
(pk R)) u7)
(pk R)) a7)
(pk R)) g6
def F1012_j18 (B : World) (R : Po) (i13 j13 : OA) (k13 : Bool) (l13 : Heap) : Prop :=
 F1012_j2 B R i13 j13 k13 l13
def F1012 (B : World) (R : Po) (m13 n13 o13 p13 : Int) (h : Heap) : Prop :=
 alW h (.cells #[.int .i64 m13, .int .i64 n13] 23) fun q13 r13 =>
 alW r13 (.cells #[.int .i64 o13, .int .i64 p13] 23) fun s13 t13 =>
 iP q13 0 fun u13 v13 =>
∃ w13, cI t13 u13 v13 .i64 w13 /\
∃ x13, cell? t13 ⟨u13, v13 + 1, none⟩ = some (.int .i64 x13) /\
 Ec B 11 #[.agg #[.int .i64 w13, .int .i64 x13]] (retE (fun y13 z13 => ∃ a14, y13 = .bool a14 /\
((!a14) = true ->
 F1012_j18 B R (some ⟨q13, 0, none⟩) (some ⟨s13, 0, none⟩) true z13) /\
((!a14) = false ->
 iP s13 0 fun b14 c14 =>
∃ d14, cI z13 b14 c14 .i64 d14 /\
∃ e14, cell? z13 ⟨b14, c14 + 1, none⟩ = some (.int .i64 e14) /\
 Ec B 11 #[.agg #[.int .i64 d14, .int .i64 e14]] (retE (fun f14 g14 => ∃ i14, f14 = .bool i14 /\
 F1012_j18 B R (some ⟨q13, 0, none⟩) (some ⟨s13, 0, none⟩) (!i14) g14)
(pk R)) z13))
(pk R)) t13
def F1012_L : Nat -> List (Nat × TypeDesc) := fun _ => []
def F1012_J (B : World) (R : Po) : Nat -> Option JT := fun i => match i with
  | 2 => some ⟨[(2, .pointer 0), (3, .pointer 0), (5, .bool)], fun s v h => match s, v with
    | [], [.pointer d6, .pointer e6, .bool f6] => F1012_j2 B R d6 e6 f6 h
    | _, _ => False⟩
  | _ => none
theorem F1012_ok {B : World} {R : Ending -> Heap -> Prop} (m13 n13 o13 p13 : Int) {h : Heap} (H : F1012 B R m13 n13 o13 p13 h) : Ec B 7 #[.agg #[.int .i64 m13, .int .i64 n13], .agg #[.int .i64 o13, .int .i64 p13]] R h :=
 Ej Tryz.func7 (by kernel_rfl) (by kernel_rfl) (by kernel_rfl) F1012_L (F1012_J B R) [] (by kernel_rfl) (by kernel_rfl) H

def F1034_j15 (B : World) (R : Po) (a0 : Bool) (b0 : Heap) : Prop :=
 R (.returned (.bool a0)) b0
def F1034_j26 (B : World) (R : Po) (c0 : Bool) (d0 : Heap) : Prop :=
 R (.returned (.bool c0)) d0
def F1034 (B : World) (R : Po) (e0 f0 g0 : Int) (i0 : Bool) (j0 k0 : Int) (h : Heap) : Prop :=
 alW h (.cells #[.int .i64 e0, .int .i64 f0] 23) fun l0 m0 =>
 alW m0 (.cells #[.int .i64 j0, .int .i64 k0] 23) fun n0 o0 =>
(i0 = true ->
((decide (g0 = (1 : Int))) = true ->
 iP l0 0 fun p0 q0 =>
∃ r0, cI o0 p0 q0 .i64 r0 /\
∃ s0, cell? o0 ⟨p0, q0 + 1, none⟩ = some (.int .i64 s0) /\
 F1034_j15 B R (decide (r0 = 0) && decide (s0 = 0)) o0) /\
((decide (g0 = (1 : Int))) = false ->
 F1034_j15 B R false o0)) /\
(i0 = false ->
((decide (g0 = (0 : Int))) = true ->
 iP l0 0 fun t0 u0 =>
∃ v0, cI o0 t0 u0 .i64 v0 /\
∃ w0, cell? o0 ⟨t0, u0 + 1, none⟩ = some (.int .i64 w0) /\
 iP n0 0 fun x0 y0 =>
∃ z0, cI o0 x0 y0 .i64 z0 /\
∃ a1, cell? o0 ⟨x0, y0 + 1, none⟩ = some (.int .i64 a1) /\
 F1034_j26 B R (decide (v0 = z0) && decide (w0 = a1)) o0) /\
((decide (g0 = (0 : Int))) = false ->
 F1034_j26 B R false o0))
def F1034_L : Nat -> List (Nat × TypeDesc) := fun _ => []
theorem F1034_ok {B : World} {R : Ending -> Heap -> Prop} (e0 f0 g0 : Int) (i0 : Bool) (j0 k0 : Int) {h : Heap} (H : F1034 B R e0 f0 g0 i0 j0 k0 h) : Ec B 16 #[.agg #[.int .i64 e0, .int .i64 f0], .int .i64 g0, .bool i0, .agg #[.int .i64 j0, .int .i64 k0]] R h :=
 Ek Tryz.func16 (by kernel_rfl) (by kernel_rfl) (by kernel_rfl) F1034_L [] (by kernel_rfl) H

def F1033_j92 (B : World) (R : Po) (a0 : Bool) (b0 : Heap) : Prop :=
 R (.returned (.bool a0)) b0
def F1033_j70 (B : World) (R : Po) (c0 d0 : OA) (e0 : Bool) (f0 : Heap) : Prop :=
(e0 = true ->
 isP c0 fun g0 i0 =>
∃ j0, cI f0 g0 i0 .i64 j0 /\
∃ k0, cell? f0 ⟨g0, i0 + 1, none⟩ = some (.bool k0) /\
∃ l0 m0 n0, cell? f0 ⟨g0, i0 + 1 + 1, none⟩ = some (.slice l0 m0 n0) /\
∃ o0, cell? f0 ⟨g0, i0 + 1 + 1 + 1, none⟩ = some (.int .i64 o0) /\
 isP d0 fun p0 q0 =>
∃ r0, cI f0 p0 q0 .i64 r0 /\
∃ s0, cell? f0 ⟨p0, q0 + 1, none⟩ = some (.bool s0) /\
∃ t0 u0 v0, cell? f0 ⟨p0, q0 + 1 + 1, none⟩ = some (.slice t0 u0 v0) /\
∃ w0, cell? f0 ⟨p0, q0 + 1 + 1 + 1, none⟩ = some (.int .i64 w0) /\
 Ec B 42 #[.agg #[.int .i64 j0, .bool k0, .slice l0 m0 n0, .int .i64 o0], .agg #[.int .i64 r0, .bool s0, .slice t0 u0 v0, .int .i64 w0]] (retE (fun x0 y0 => ∃ z0, x0 = .int .i64 z0 /\
 F1033_j92 B R (decide (z0 <= (0 : Int))) y0)
(pk R)) f0) /\
(e0 = false ->
 F1033_j92 B R false f0)
def F1033_j2 (B : World) (R : Po) (a1 : OA) (b1 : Bool) (c1 : Heap) : Prop :=
(b1 = true ->
 R (.returned (.bool false)) c1) /\
(b1 = false ->
 isP a1 fun d1 e1 =>
 iP d1 e1 fun f1 g1 => ∃ i1, cI c1 f1 g1 .i64 i1 /\
 Ec B 41 #[.int .i64 i1] (retE (fun j1 k1 => ∃ l1 m1 n1 o1 p1 q1, j1 = .agg #[.int .i64 l1, .bool m1, .slice n1 o1 p1, .int .i64 q1] /\
 alW k1 (.cells #[.int .i64 0, .bool false, .slice none 0 0, .int .i64 0] 67) fun r1 s1 =>
 iP r1 0 fun t1 u1 => stC s1 t1 u1 (.int .i64 l1) fun v1 =>
 stC v1 t1 (u1 + 1) (.bool m1) fun w1 =>
 stC w1 t1 (u1 + 1 + 1) (.slice n1 o1 p1) fun x1 =>
 stC x1 t1 (u1 + 1 + 1 + 1) (.int .i64 q1) fun y1 =>
 isP a1 fun z1 a2 =>
 isP (some ⟨z1, a2 + 1, none⟩) fun b2 c2 => ∃ d2, cI y1 b2 c2 .i64 d2 /\
 Ec B 41 #[.int .i64 d2] (retE (fun e2 f2 => ∃ g2 i2 j2 k2 l2 m2, e2 = .agg #[.int .i64 g2, .bool i2, .slice j2 k2 l2, .int .i64 m2] /\
 alW f2 (.cells #[.int .i64 0, .bool false, .slice none 0 0, .int .i64 0] 67) fun n2 o2 =>
 iP n2 0 fun p2 q2 => stC o2 p2 q2 (.int .i64 g2) fun r2 =>
 stC r2 p2 (q2 + 1) (.bool i2) fun s2 =>
 stC s2 p2 (q2 + 1 + 1) (.slice j2 k2 l2) fun t2 =>
 stC t2 p2 (q2 + 1 + 1 + 1) (.int .i64 m2) fun u2 =>
 iP r1 0 fun v2 w2 =>
 iP v2 w2 fun x2 y2 => ∃ z2, cI u2 x2 y2 .i64 z2 /\
((!decide (z2 = (1 : Int))) = true ->
 iP n2 0 fun a3 b3 =>
 iP a3 b3 fun c3 d3 => ∃ e3, cI u2 c3 d3 .i64 e3 /\
 F1033_j70 B R (some ⟨r1, 0, none⟩) (some ⟨n2, 0, none⟩) (!decide (e3 = (-1 : Int))) u2) /\
((!decide (z2 = (1 : Int))) = false ->
 F1033_j70 B R (some ⟨r1, 0, none⟩) (some ⟨n2, 0, none⟩) false u2))
(pk R)) y1)
(pk R)) c1)
def F1033 (B : World) (R : Po) (f3 g3 : Int) (h : Heap) : Prop :=
 alW h (.cells #[.int .i64 f3, .int .i64 g3] 23) fun i3 j3 =>
 iP i3 0 fun k3 l3 =>
 iP k3 l3 fun m3 n3 => ∃ o3, cI j3 m3 n3 .i64 o3 /\
 Ec B 40 #[.int .i64 o3] (retE (fun p3 q3 => ∃ r3, p3 = .int .i64 r3 /\
((decide (r3 = (4 : Int))) = true ->
 F1033_j2 B R (some ⟨i3, 0, none⟩) true q3) /\
((decide (r3 = (4 : Int))) = false ->
 iP i3 0 fun s3 t3 =>
 isP (some ⟨s3, t3 + 1, none⟩) fun u3 v3 => ∃ w3, cI q3 u3 v3 .i64 w3 /\
 Ec B 40 #[.int .i64 w3] (retE (fun x3 y3 => ∃ z3, x3 = .int .i64 z3 /\
 F1033_j2 B R (some ⟨i3, 0, none⟩) (decide (z3 = (4 : Int))) y3)
(pk R)) q3))
(pk R)) j3
def F1033_L : Nat -> List (Nat × TypeDesc) := fun _ => []
def F1033_J (B : World) (R : Po) : Nat -> Option JT := fun i => match i with
  | 2 => some ⟨[(1, .pointer 0), (14, .bool)], fun s v h => match s, v with
    | [], [.pointer a1, .bool b1] => F1033_j2 B R a1 b1 h
    | _, _ => False⟩
  | _ => none
theorem F1033_ok {B : World} {R : Ending -> Heap -> Prop} (f3 g3 : Int) {h : Heap} (H : F1033 B R f3 g3 h) : Ec B 11 #[.agg #[.int .i64 f3, .int .i64 g3]] R h :=
 Ej Tryz.func11 (by kernel_rfl) (by kernel_rfl) (by kernel_rfl) F1033_L (F1033_J B R) [] (by kernel_rfl) (by kernel_rfl) H

def F1085 (B : World) (R : Po) (a0 : Bool) (b0 : OA) (c0 d0 : Nat) (e0 : Int) (f0 : Bool) (g0 : OA) (i0 j0 : Nat) (k0 : Int) (h : Heap) : Prop :=
 alW h (.cells #[.bool a0, .slice b0 c0 d0, .int .i64 e0] 28) fun l0 m0 =>
 alW m0 (.cells #[.bool f0, .slice g0 i0 j0, .int .i64 k0] 28) fun n0 o0 =>
 iP l0 0 fun p0 q0 =>
∃ r0, cell? o0 ⟨p0, q0, none⟩ = some (.bool r0) /\
∃ s0 t0 u0, cell? o0 ⟨p0, q0 + 1, none⟩ = some (.slice s0 t0 u0) /\
∃ v0, cell? o0 ⟨p0, q0 + 1 + 1, none⟩ = some (.int .i64 v0) /\
 iP n0 0 fun w0 x0 =>
∃ y0, cell? o0 ⟨w0, x0, none⟩ = some (.bool y0) /\
∃ z0 a1 b1, cell? o0 ⟨w0, x0 + 1, none⟩ = some (.slice z0 a1 b1) /\
∃ c1, cell? o0 ⟨w0, x0 + 1 + 1, none⟩ = some (.int .i64 c1) /\
 Ec B 93 #[.agg #[.bool r0, .slice s0 t0 u0, .int .i64 v0], .agg #[.bool y0, .slice z0 a1 b1, .int .i64 c1]] (retE (fun d1 e1 => ∃ f1 g1 i1 j1 k1, d1 = .agg #[.bool f1, .slice g1 i1 j1, .int .i64 k1] /\
 Ec B 83 #[.agg #[.bool f1, .slice g1 i1 j1, .int .i64 k1]] (retE (fun l1 m1 => ∃ n1, l1 = .int .i64 n1 /\
 R (.returned (.int .i64 n1)) m1)
(pk R)) e1)
(pk R)) o0
def F1085_L : Nat -> List (Nat × TypeDesc) := fun _ => []
theorem F1085_ok {B : World} {R : Ending -> Heap -> Prop} (a0 : Bool) (b0 : OA) (c0 d0 : Nat) (e0 : Int) (f0 : Bool) (g0 : OA) (i0 j0 : Nat) (k0 : Int) {h : Heap} (H : F1085 B R a0 b0 c0 d0 e0 f0 g0 i0 j0 k0 h) : Ec B 69 #[.agg #[.bool a0, .slice b0 c0 d0, .int .i64 e0], .agg #[.bool f0, .slice g0 i0 j0, .int .i64 k0]] R h :=
 Ek Tryz.func69 (by kernel_rfl) (by kernel_rfl) (by kernel_rfl) F1085_L [] (by kernel_rfl) H

def F1090 (B : World) (R : Po) (a0 : Bool) (b0 : OA) (c0 d0 : Nat) (e0 : Int) (h : Heap) : Prop :=
 alW h (.cells #[.bool a0, .slice b0 c0 d0, .int .i64 e0] 28) fun f0 g0 =>
 iP f0 0 fun i0 j0 =>
 isP (some ⟨i0, j0 + 1, none⟩) fun k0 l0 => ∃ m0 n0 o0, cS g0 k0 l0 m0 n0 o0 /\
((decide ((n0 : Int) = (0 : Int))) = true ->
 R (.returned (.int .i64 (0 : Int))) g0) /\
((decide ((n0 : Int) = (0 : Int))) = false ->
 iP f0 0 fun p0 q0 =>
 iP p0 q0 fun r0 s0 => ∃ t0, cell? g0 ⟨r0, s0, none⟩ = some (.bool t0) /\
(t0 = true ->
 R (.returned (.int .i64 (-1 : Int))) g0) /\
(t0 = false ->
 R (.returned (.int .i64 (1 : Int))) g0))
def F1090_L : Nat -> List (Nat × TypeDesc) := fun _ => []
theorem F1090_ok {B : World} {R : Ending -> Heap -> Prop} (a0 : Bool) (b0 : OA) (c0 d0 : Nat) (e0 : Int) {h : Heap} (H : F1090 B R a0 b0 c0 d0 e0 h) : Ec B 83 #[.agg #[.bool a0, .slice b0 c0 d0, .int .i64 e0]] R h :=
 Ek Tryz.func83 (by kernel_rfl) (by kernel_rfl) (by kernel_rfl) F1090_L [] (by kernel_rfl) H

def F1102 (B : World) (R : Po) (a0 : Bool) (b0 : OA) (c0 d0 : Nat) (e0 : Int) (f0 : Bool) (g0 : OA) (i0 j0 : Nat) (k0 : Int) (h : Heap) : Prop :=
 alW h (.cells #[.bool a0, .slice b0 c0 d0, .int .i64 e0] 28) fun l0 m0 =>
 alW m0 (.cells #[.bool f0, .slice g0 i0 j0, .int .i64 k0] 28) fun n0 o0 =>
 alW o0 (.cells #[.bool false, .slice none 0 0, .int .i64 0] 28) fun p0 q0 =>
 iP l0 0 fun r0 s0 =>
∃ t0, cell? q0 ⟨r0, s0, none⟩ = some (.bool t0) /\
∃ u0 v0 w0, cell? q0 ⟨r0, s0 + 1, none⟩ = some (.slice u0 v0 w0) /\
∃ x0, cell? q0 ⟨r0, s0 + 1 + 1, none⟩ = some (.int .i64 x0) /\
 iP n0 0 fun y0 z0 =>
∃ a1, cell? q0 ⟨y0, z0, none⟩ = some (.bool a1) /\
∃ b1 c1 d1, cell? q0 ⟨y0, z0 + 1, none⟩ = some (.slice b1 c1 d1) /\
∃ e1, cell? q0 ⟨y0, z0 + 1 + 1, none⟩ = some (.int .i64 e1) /\
 Ec B 84 #[.agg #[.bool a1, .slice b1 c1 d1, .int .i64 e1]] (retE (fun f1 g1 => ∃ i1 j1 k1 l1 m1, f1 = .agg #[.bool i1, .slice j1 k1 l1, .int .i64 m1] /\
 sameCells q0 g1 r0 s0 3 /\ Ec B 73 #[.agg #[.bool t0, .slice u0 v0 w0, .int .i64 x0], .agg #[.bool i1, .slice j1 k1 l1, .int .i64 m1]] (retE (fun n1 o1 => ∃ p1 q1 r1 s1 t1, n1 = .agg #[.bool p1, .slice q1 r1 s1, .int .i64 t1] /\
 iP p0 0 fun u1 v1 => stC o1 u1 v1 (.bool p1) fun w1 =>
 stC w1 u1 (v1 + 1) (.slice q1 r1 s1) fun x1 =>
 stC x1 u1 (v1 + 1 + 1) (.int .i64 t1) fun y1 =>
 iP p0 0 fun z1 a2 =>
∃ b2, cell? y1 ⟨z1, a2, none⟩ = some (.bool b2) /\
∃ c2 d2 e2, cell? y1 ⟨z1, a2 + 1, none⟩ = some (.slice c2 d2 e2) /\
∃ f2, cell? y1 ⟨z1, a2 + 1 + 1, none⟩ = some (.int .i64 f2) /\
 R (.returned (.agg #[.bool b2, .slice c2 d2 e2, .int .i64 f2])) y1)
(fun _ _ => False)) g1)
(fun _ _ => False)) q0
def F1102_L : Nat -> List (Nat × TypeDesc) := fun _ => []
theorem F1102_ok {B : World} {R : Ending -> Heap -> Prop} (a0 : Bool) (b0 : OA) (c0 d0 : Nat) (e0 : Int) (f0 : Bool) (g0 : OA) (i0 j0 : Nat) (k0 : Int) {h : Heap} (H : F1102 B R a0 b0 c0 d0 e0 f0 g0 i0 j0 k0 h) : Ec B 93 #[.agg #[.bool a0, .slice b0 c0 d0, .int .i64 e0], .agg #[.bool f0, .slice g0 i0 j0, .int .i64 k0]] R h :=
 Ek Tryz.func93 (by kernel_rfl) (by kernel_rfl) (by kernel_rfl) F1102_L [] (by kernel_rfl) H
end Go.Proofs
set_option linter.unusedVariables false
set_option maxRecDepth 100000
namespace Go.Proofs
open Go Go.Eng
def F1052 (B : World) (R : Po) (a0 b0 : Int) (h : Heap) : Prop :=
 alW h (.cells #[.int .i64 a0, .int .i64 b0] 23) fun c0 d0 =>
 alW d0 (.cells #[.int .i64 0, .int .i64 0] 23) fun e0 f0 =>
 iP c0 0 fun g0 i0 =>
 isP (some ⟨g0, i0 + 1, none⟩) fun j0 k0 => ∃ l0, cI f0 j0 k0 .i64 l0 /\
 iP c0 0 fun m0 n0 =>
 iP m0 n0 fun o0 p0 => ∃ q0, cI f0 o0 p0 .i64 q0 /\
 Ec B 41 #[.int .i64 l0] (retE (fun r0 s0 => ∃ t0 u0 v0 w0 x0 y0, r0 = .agg #[.int .i64 t0, .bool u0, .slice v0 w0 x0, .int .i64 y0] /\
 sameCells f0 s0 o0 p0 1 /\ Ec B 58 #[.agg #[.int .i64 t0, .bool u0, .slice v0 w0 x0, .int .i64 y0]] (retE (fun z0 a1 => ∃ b1 c1 d1 e1 f1 g1, z0 = .agg #[.int .i64 b1, .bool c1, .slice d1 e1 f1, .int .i64 g1] /\
 sameCells s0 a1 o0 p0 1 /\ Ec B 41 #[.int .i64 q0] (retE (fun i1 j1 => ∃ k1 l1 m1 n1 o1 p1, i1 = .agg #[.int .i64 k1, .bool l1, .slice m1 n1 o1, .int .i64 p1] /\
 Ec B 58 #[.agg #[.int .i64 k1, .bool l1, .slice m1 n1 o1, .int .i64 p1]] (retE (fun q1 r1 => ∃ s1 t1 u1 v1 w1 x1, q1 = .agg #[.int .i64 s1, .bool t1, .slice u1 v1 w1, .int .i64 x1] /\
 Ec B 47 #[.agg #[.int .i64 b1, .bool c1, .slice d1 e1 f1, .int .i64 g1], .agg #[.int .i64 s1, .bool t1, .slice u1 v1 w1, .int .i64 x1]] (retE (fun y1 z1 => ∃ a2 b2, y1 = .agg #[.int .i64 a2, .int .i64 b2] /\
 iP e0 0 fun c2 d2 => stC z1 c2 d2 (.int .i64 a2) fun e2 =>
 stC e2 c2 (d2 + 1) (.int .i64 b2) fun f2 =>
 iP e0 0 fun g2 i2 =>
∃ j2, cI f2 g2 i2 .i64 j2 /\
∃ k2, cell? f2 ⟨g2, i2 + 1, none⟩ = some (.int .i64 k2) /\
 R (.returned (.agg #[.int .i64 j2, .int .i64 k2])) f2)
(fun _ _ => False)) r1)
(fun _ _ => False)) j1)
(fun _ _ => False)) a1)
(fun _ _ => False)) s0)
(fun _ _ => False)) f0
def F1052_L : Nat -> List (Nat × TypeDesc) := fun _ => []
theorem F1052_ok {B : World} {R : Ending -> Heap -> Prop} (a0 b0 : Int) {h : Heap} (H : F1052 B R a0 b0 h) : Ec B 33 #[.agg #[.int .i64 a0, .int .i64 b0]] R h :=
 Ek Tryz.func33 (by kernel_rfl) (by kernel_rfl) (by kernel_rfl) F1052_L [] (by kernel_rfl) H

def F1060 (B : World) (R : Po) (a0 : Int) (h : Heap) : Prop :=
 alW h (.cells #[.int .i64 0, .bool false, .slice none 0 0, .int .i64 0] 67) fun b0 c0 =>
 Ec B 40 #[.int .i64 a0] (retE (fun d0 e0 => ∃ f0, d0 = .int .i64 f0 /\
((decide (f0 = (3 : Int))) = true ->
((decide (a0 < (0 : Int))) = true ->
 iP b0 0 fun g0 i0 => stC e0 g0 i0 (.int .i64 (-1 : Int)) fun j0 =>
 stC j0 g0 (i0 + 1) (.bool false) fun k0 =>
 stC k0 g0 (i0 + 1 + 1) (.slice none 0 0) fun l0 =>
 stC l0 g0 (i0 + 1 + 1 + 1) (.int .i64 0) fun m0 =>
 iP b0 0 fun n0 o0 =>
∃ p0, cI m0 n0 o0 .i64 p0 /\
∃ q0, cell? m0 ⟨n0, o0 + 1, none⟩ = some (.bool q0) /\
∃ r0 s0 t0, cell? m0 ⟨n0, o0 + 1 + 1, none⟩ = some (.slice r0 s0 t0) /\
∃ u0, cell? m0 ⟨n0, o0 + 1 + 1 + 1, none⟩ = some (.int .i64 u0) /\
 R (.returned (.agg #[.int .i64 p0, .bool q0, .slice r0 s0 t0, .int .i64 u0])) m0) /\
((decide (a0 < (0 : Int))) = false ->
 iP b0 0 fun v0 w0 => stC e0 v0 w0 (.int .i64 (1 : Int)) fun x0 =>
 stC x0 v0 (w0 + 1) (.bool false) fun y0 =>
 stC y0 v0 (w0 + 1 + 1) (.slice none 0 0) fun z0 =>
 stC z0 v0 (w0 + 1 + 1 + 1) (.int .i64 0) fun a1 =>
 iP b0 0 fun b1 c1 =>
∃ d1, cI a1 b1 c1 .i64 d1 /\
∃ e1, cell? a1 ⟨b1, c1 + 1, none⟩ = some (.bool e1) /\
∃ f1 g1 i1, cell? a1 ⟨b1, c1 + 1 + 1, none⟩ = some (.slice f1 g1 i1) /\
∃ j1, cell? a1 ⟨b1, c1 + 1 + 1 + 1, none⟩ = some (.int .i64 j1) /\
 R (.returned (.agg #[.int .i64 d1, .bool e1, .slice f1 g1 i1, .int .i64 j1])) a1)) /\
((decide (f0 = (3 : Int))) = false ->
 Ec B 68 #[.int .i64 a0] (retE (fun k1 l1 => ∃ m1 n1 o1 p1 q1, k1 = .agg #[.bool m1, .slice n1 o1 p1, .int .i64 q1] /\
 iP b0 0 fun r1 s1 => stC l1 r1 s1 (.int .i64 0) fun t1 =>
 stC t1 r1 (s1 + 1) (.bool m1) fun u1 =>
 stC u1 r1 (s1 + 1 + 1) (.slice n1 o1 p1) fun v1 =>
 stC v1 r1 (s1 + 1 + 1 + 1) (.int .i64 q1) fun w1 =>
 iP b0 0 fun x1 y1 =>
∃ z1, cI w1 x1 y1 .i64 z1 /\
∃ a2, cell? w1 ⟨x1, y1 + 1, none⟩ = some (.bool a2) /\
∃ b2 c2 d2, cell? w1 ⟨x1, y1 + 1 + 1, none⟩ = some (.slice b2 c2 d2) /\
∃ e2, cell? w1 ⟨x1, y1 + 1 + 1 + 1, none⟩ = some (.int .i64 e2) /\
 R (.returned (.agg #[.int .i64 z1, .bool a2, .slice b2 c2 d2, .int .i64 e2])) w1)
(pk R)) e0))
(pk R)) c0
def F1060_L : Nat -> List (Nat × TypeDesc) := fun _ => []
theorem F1060_ok {B : World} {R : Ending -> Heap -> Prop} (a0 : Int) {h : Heap} (H : F1060 B R a0 h) : Ec B 41 #[.int .i64 a0] R h :=
 Ek Tryz.func41 (by kernel_rfl) (by kernel_rfl) (by kernel_rfl) F1060_L [] (by kernel_rfl) H

def F1061 (B : World) (R : Po) (a0 : Int) (b0 : Bool) (c0 : OA) (d0 e0 : Nat) (f0 g0 : Int) (i0 : Bool) (j0 : OA) (k0 l0 : Nat) (m0 : Int) (h : Heap) : Prop :=
 alW h (.cells #[.int .i64 a0, .bool b0, .slice c0 d0 e0, .int .i64 f0] 67) fun n0 o0 =>
 alW o0 (.cells #[.int .i64 g0, .bool i0, .slice j0 k0 l0, .int .i64 m0] 67) fun p0 q0 =>
 iP n0 0 fun r0 s0 =>
 iP r0 s0 fun t0 u0 => ∃ v0, cI q0 t0 u0 .i64 v0 /\
 iP p0 0 fun w0 x0 =>
 iP w0 x0 fun y0 z0 => ∃ a1, cI q0 y0 z0 .i64 a1 /\
((!decide (v0 = a1)) = true ->
 iP n0 0 fun b1 c1 =>
 iP b1 c1 fun d1 e1 => ∃ f1, cI q0 d1 e1 .i64 f1 /\
 iP p0 0 fun g1 i1 =>
 iP g1 i1 fun j1 k1 => ∃ l1, cI q0 j1 k1 .i64 l1 /\
((decide (f1 < l1)) = true ->
 R (.returned (.int .i64 (-1 : Int))) q0) /\
((decide (f1 < l1)) = false ->
 R (.returned (.int .i64 (1 : Int))) q0)) /\
((!decide (v0 = a1)) = false ->
 iP n0 0 fun m1 n1 =>
 iP m1 n1 fun o1 p1 => ∃ q1, cI q0 o1 p1 .i64 q1 /\
((!decide (q1 = (0 : Int))) = true ->
 R (.returned (.int .i64 (0 : Int))) q0) /\
((!decide (q1 = (0 : Int))) = false ->
 iP n0 0 fun r1 s1 =>
 isP (some ⟨r1, s1 + 1, none⟩) fun t1 u1 =>
∃ v1, cell? q0 ⟨t1, u1, none⟩ = some (.bool v1) /\
∃ w1 x1 y1, cell? q0 ⟨t1, u1 + 1, none⟩ = some (.slice w1 x1 y1) /\
∃ z1, cell? q0 ⟨t1, u1 + 1 + 1, none⟩ = some (.int .i64 z1) /\
 iP p0 0 fun a2 b2 =>
 isP (some ⟨a2, b2 + 1, none⟩) fun c2 d2 =>
∃ e2, cell? q0 ⟨c2, d2, none⟩ = some (.bool e2) /\
∃ f2 g2 i2, cell? q0 ⟨c2, d2 + 1, none⟩ = some (.slice f2 g2 i2) /\
∃ j2, cell? q0 ⟨c2, d2 + 1 + 1, none⟩ = some (.int .i64 j2) /\
 Ec B 69 #[.agg #[.bool v1, .slice w1 x1 y1, .int .i64 z1], .agg #[.bool e2, .slice f2 g2 i2, .int .i64 j2]] (retE (fun k2 l2 => ∃ m2, k2 = .int .i64 m2 /\
 R (.returned (.int .i64 m2)) l2)
(pk R)) q0))
def F1061_L : Nat -> List (Nat × TypeDesc) := fun _ => []
theorem F1061_ok {B : World} {R : Ending -> Heap -> Prop} (a0 : Int) (b0 : Bool) (c0 : OA) (d0 e0 : Nat) (f0 g0 : Int) (i0 : Bool) (j0 : OA) (k0 l0 : Nat) (m0 : Int) {h : Heap} (H : F1061 B R a0 b0 c0 d0 e0 f0 g0 i0 j0 k0 l0 m0 h) : Ec B 42 #[.agg #[.int .i64 a0, .bool b0, .slice c0 d0 e0, .int .i64 f0], .agg #[.int .i64 g0, .bool i0, .slice j0 k0 l0, .int .i64 m0]] R h :=
 Ek Tryz.func42 (by kernel_rfl) (by kernel_rfl) (by kernel_rfl) F1061_L [] (by kernel_rfl) H

def F1063 (B : World) (R : Po) (a0 : Int) (b0 : Bool) (c0 : OA) (d0 e0 : Nat) (f0 g0 : Int) (i0 : Bool) (j0 : OA) (k0 l0 : Nat) (m0 : Int) (h : Heap) : Prop :=
 alW h (.cells #[.int .i64 a0, .bool b0, .slice c0 d0 e0, .int .i64 f0] 67) fun n0 o0 =>
 alW o0 (.cells #[.int .i64 g0, .bool i0, .slice j0 k0 l0, .int .i64 m0] 67) fun p0 q0 =>
 alW q0 (.cells #[.int .i64 0, .int .i64 0] 23) fun r0 s0 =>
 iP n0 0 fun t0 u0 =>
∃ v0, cI s0 t0 u0 .i64 v0 /\
∃ w0, cell? s0 ⟨t0, u0 + 1, none⟩ = some (.bool w0) /\
∃ x0 y0 z0, cell? s0 ⟨t0, u0 + 1 + 1, none⟩ = some (.slice x0 y0 z0) /\
∃ a1, cell? s0 ⟨t0, u0 + 1 + 1 + 1, none⟩ = some (.int .i64 a1) /\
 iP p0 0 fun b1 c1 =>
∃ d1, cI s0 b1 c1 .i64 d1 /\
∃ e1, cell? s0 ⟨b1, c1 + 1, none⟩ = some (.bool e1) /\
∃ f1 g1 i1, cell? s0 ⟨b1, c1 + 1 + 1, none⟩ = some (.slice f1 g1 i1) /\
∃ j1, cell? s0 ⟨b1, c1 + 1 + 1 + 1, none⟩ = some (.int .i64 j1) /\
 Ec B 72 #[.agg #[.int .i64 v0, .bool w0, .slice x0 y0 z0, .int .i64 a1], .int .i64 (1 : Int)] (retE (fun k1 l1 => ∃ m1, k1 = .int .i64 m1 /\
 sameCells s0 l1 b1 c1 4 /\ Ec B 72 #[.agg #[.int .i64 d1, .bool e1, .slice f1 g1 i1, .int .i64 j1], .int .i64 (2 : Int)] (retE (fun n1 o1 => ∃ p1, n1 = .int .i64 p1 /\
 iP r0 0 fun q1 r1 => stC o1 q1 r1 (.int .i64 m1) fun s1 =>
 stC s1 q1 (r1 + 1) (.int .i64 p1) fun t1 =>
 iP r0 0 fun u1 v1 =>
∃ w1, cI t1 u1 v1 .i64 w1 /\
∃ x1, cell? t1 ⟨u1, v1 + 1, none⟩ = some (.int .i64 x1) /\
 R (.returned (.agg #[.int .i64 w1, .int .i64 x1])) t1)
(fun _ _ => False)) l1)
(fun _ _ => False)) s0
def F1063_L : Nat -> List (Nat × TypeDesc) := fun _ => []
theorem F1063_ok {B : World} {R : Ending -> Heap -> Prop} (a0 : Int) (b0 : Bool) (c0 : OA) (d0 e0 : Nat) (f0 g0 : Int) (i0 : Bool) (j0 : OA) (k0 l0 : Nat) (m0 : Int) {h : Heap} (H : F1063 B R a0 b0 c0 d0 e0 f0 g0 i0 j0 k0 l0 m0 h) : Ec B 47 #[.agg #[.int .i64 a0, .bool b0, .slice c0 d0 e0, .int .i64 f0], .agg #[.int .i64 g0, .bool i0, .slice j0 k0 l0, .int .i64 m0]] R h :=
 Ek Tryz.func47 (by kernel_rfl) (by kernel_rfl) (by kernel_rfl) F1063_L [] (by kernel_rfl) H

def F1064 (B : World) (R : Po) (a0 : Int) (b0 : Bool) (c0 : OA) (d0 e0 : Nat) (f0 g0 : Int) (i0 : Bool) (j0 : OA) (k0 l0 : Nat) (m0 : Int) (h : Heap) : Prop :=
 alW h (.cells #[.int .i64 a0, .bool b0, .slice c0 d0 e0, .int .i64 f0] 67) fun n0 o0 =>
 alW o0 (.cells #[.int .i64 g0, .bool i0, .slice j0 k0 l0, .int .i64 m0] 67) fun p0 q0 =>
 alW q0 (.cells #[.int .i64 0, .bool false, .slice none 0 0, .int .i64 0] 67) fun r0 s0 =>
 iP n0 0 fun t0 u0 =>
 iP t0 u0 fun v0 w0 => ∃ x0, cI s0 v0 w0 .i64 x0 /\
((!decide (x0 = (0 : Int))) = true ->
 iP n0 0 fun y0 z0 =>
∃ a1, cI s0 y0 z0 .i64 a1 /\
∃ b1, cell? s0 ⟨y0, z0 + 1, none⟩ = some (.bool b1) /\
∃ c1 d1 e1, cell? s0 ⟨y0, z0 + 1 + 1, none⟩ = some (.slice c1 d1 e1) /\
∃ f1, cell? s0 ⟨y0, z0 + 1 + 1 + 1, none⟩ = some (.int .i64 f1) /\
 iP r0 0 fun g1 i1 => stC s0 g1 i1 (.int .i64 a1) fun j1 =>
 stC j1 g1 (i1 + 1) (.bool b1) fun k1 =>
 stC k1 g1 (i1 + 1 + 1) (.slice c1 d1 e1) fun l1 =>
 stC l1 g1 (i1 + 1 + 1 + 1) (.int .i64 f1) fun m1 =>
 iP r0 0 fun n1 o1 =>
∃ p1, cI m1 n1 o1 .i64 p1 /\
∃ q1, cell? m1 ⟨n1, o1 + 1, none⟩ = some (.bool q1) /\
∃ r1 s1 t1, cell? m1 ⟨n1, o1 + 1 + 1, none⟩ = some (.slice r1 s1 t1) /\
∃ u1, cell? m1 ⟨n1, o1 + 1 + 1 + 1, none⟩ = some (.int .i64 u1) /\
 R (.returned (.agg #[.int .i64 p1, .bool q1, .slice r1 s1 t1, .int .i64 u1])) m1) /\
((!decide (x0 = (0 : Int))) = false ->
 iP p0 0 fun v1 w1 =>
 iP v1 w1 fun x1 y1 => ∃ z1, cI s0 x1 y1 .i64 z1 /\
((!decide (z1 = (0 : Int))) = true ->
 iP p0 0 fun a2 b2 =>
∃ c2, cI s0 a2 b2 .i64 c2 /\
∃ d2, cell? s0 ⟨a2, b2 + 1, none⟩ = some (.bool d2) /\
∃ e2 f2 g2, cell? s0 ⟨a2, b2 + 1 + 1, none⟩ = some (.slice e2 f2 g2) /\
∃ i2, cell? s0 ⟨a2, b2 + 1 + 1 + 1, none⟩ = some (.int .i64 i2) /\
 iP r0 0 fun j2 k2 => stC s0 j2 k2 (.int .i64 c2) fun l2 =>
 stC l2 j2 (k2 + 1) (.bool d2) fun m2 =>
 stC m2 j2 (k2 + 1 + 1) (.slice e2 f2 g2) fun n2 =>
 stC n2 j2 (k2 + 1 + 1 + 1) (.int .i64 i2) fun o2 =>
 iP r0 0 fun p2 q2 =>
∃ r2, cI o2 p2 q2 .i64 r2 /\
∃ s2, cell? o2 ⟨p2, q2 + 1, none⟩ = some (.bool s2) /\
∃ t2 u2 v2, cell? o2 ⟨p2, q2 + 1 + 1, none⟩ = some (.slice t2 u2 v2) /\
∃ w2, cell? o2 ⟨p2, q2 + 1 + 1 + 1, none⟩ = some (.int .i64 w2) /\
 R (.returned (.agg #[.int .i64 r2, .bool s2, .slice t2 u2 v2, .int .i64 w2])) o2) /\
((!decide (z1 = (0 : Int))) = false ->
 iP n0 0 fun x2 y2 =>
 isP (some ⟨x2, y2 + 1, none⟩) fun z2 a3 =>
∃ b3, cell? s0 ⟨z2, a3, none⟩ = some (.bool b3) /\
∃ c3 d3 e3, cell? s0 ⟨z2, a3 + 1, none⟩ = some (.slice c3 d3 e3) /\
∃ f3, cell? s0 ⟨z2, a3 + 1 + 1, none⟩ = some (.int .i64 f3) /\
 iP p0 0 fun g3 i3 =>
 isP (some ⟨g3, i3 + 1, none⟩) fun j3 k3 =>
∃ l3, cell? s0 ⟨j3, k3, none⟩ = some (.bool l3) /\
∃ m3 n3 o3, cell? s0 ⟨j3, k3 + 1, none⟩ = some (.slice m3 n3 o3) /\
∃ p3, cell? s0 ⟨j3, k3 + 1 + 1, none⟩ = some (.int .i64 p3) /\
 Ec B 73 #[.agg #[.bool b3, .slice c3 d3 e3, .int .i64 f3], .agg #[.bool l3, .slice m3 n3 o3, .int .i64 p3]] (retE (fun q3 r3 => ∃ s3 t3 u3 v3 w3, q3 = .agg #[.bool s3, .slice t3 u3 v3, .int .i64 w3] /\
 iP r0 0 fun x3 y3 => stC r3 x3 y3 (.int .i64 0) fun z3 =>
 stC z3 x3 (y3 + 1) (.bool s3) fun a4 =>
 stC a4 x3 (y3 + 1 + 1) (.slice t3 u3 v3) fun b4 =>
 stC b4 x3 (y3 + 1 + 1 + 1) (.int .i64 w3) fun c4 =>
 iP r0 0 fun d4 e4 =>
∃ f4, cI c4 d4 e4 .i64 f4 /\
∃ g4, cell? c4 ⟨d4, e4 + 1, none⟩ = some (.bool g4) /\
∃ i4 j4 k4, cell? c4 ⟨d4, e4 + 1 + 1, none⟩ = some (.slice i4 j4 k4) /\
∃ l4, cell? c4 ⟨d4, e4 + 1 + 1 + 1, none⟩ = some (.int .i64 l4) /\
 R (.returned (.agg #[.int .i64 f4, .bool g4, .slice i4 j4 k4, .int .i64 l4])) c4)
(pk R)) s0))
def F1064_L : Nat -> List (Nat × TypeDesc) := fun _ => []
theorem F1064_ok {B : World} {R : Ending -> Heap -> Prop} (a0 : Int) (b0 : Bool) (c0 : OA) (d0 e0 : Nat) (f0 g0 : Int) (i0 : Bool) (j0 : OA) (k0 l0 : Nat) (m0 : Int) {h : Heap} (H : F1064 B R a0 b0 c0 d0 e0 f0 g0 i0 j0 k0 l0 m0 h) : Ec B 48 #[.agg #[.int .i64 a0, .bool b0, .slice c0 d0 e0, .int .i64 f0], .agg #[.int .i64 g0, .bool i0, .slice j0 k0 l0, .int .i64 m0]] R h :=
 Ek Tryz.func48 (by kernel_rfl) (by kernel_rfl) (by kernel_rfl) F1064_L [] (by kernel_rfl) H

def F1065_j5 (B : World) (R : Po) (a0 b0 c0 : OA) (d0 : Int) (e0 : Bool) (f0 : Heap) : Prop :=
(e0 = true ->
 isP c0 fun g0 i0 => stC f0 g0 i0 (.int .i64 d0) fun j0 =>
 stC j0 g0 (i0 + 1) (.bool false) fun k0 =>
 stC k0 g0 (i0 + 1 + 1) (.slice none 0 0) fun l0 =>
 stC l0 g0 (i0 + 1 + 1 + 1) (.int .i64 0) fun m0 =>
 isP c0 fun n0 o0 =>
∃ p0, cI m0 n0 o0 .i64 p0 /\
∃ q0, cell? m0 ⟨n0, o0 + 1, none⟩ = some (.bool q0) /\
∃ r0 s0 t0, cell? m0 ⟨n0, o0 + 1 + 1, none⟩ = some (.slice r0 s0 t0) /\
∃ u0, cell? m0 ⟨n0, o0 + 1 + 1 + 1, none⟩ = some (.int .i64 u0) /\
 R (.returned (.agg #[.int .i64 p0, .bool q0, .slice r0 s0 t0, .int .i64 u0])) m0) /\
(e0 = false ->
 isP a0 fun v0 w0 =>
 isP (some ⟨v0, w0 + 1, none⟩) fun x0 y0 =>
∃ z0, cell? f0 ⟨x0, y0, none⟩ = some (.bool z0) /\
∃ a1 b1 c1, cell? f0 ⟨x0, y0 + 1, none⟩ = some (.slice a1 b1 c1) /\
∃ d1, cell? f0 ⟨x0, y0 + 1 + 1, none⟩ = some (.int .i64 d1) /\
 isP b0 fun e1 f1 =>
 isP (some ⟨e1, f1 + 1, none⟩) fun g1 i1 =>
∃ j1, cell? f0 ⟨g1, i1, none⟩ = some (.bool j1) /\
∃ k1 l1 m1, cell? f0 ⟨g1, i1 + 1, none⟩ = some (.slice k1 l1 m1) /\
∃ n1, cell? f0 ⟨g1, i1 + 1 + 1, none⟩ = some (.int .i64 n1) /\
 Ec B 74 #[.agg #[.bool z0, .slice a1 b1 c1, .int .i64 d1], .agg #[.bool j1, .slice k1 l1 m1, .int .i64 n1]] (retE (fun o1 p1 => ∃ q1 r1 s1 t1 u1, o1 = .agg #[.bool q1, .slice r1 s1 t1, .int .i64 u1] /\
 isP c0 fun v1 w1 => stC p1 v1 w1 (.int .i64 0) fun x1 =>
 stC x1 v1 (w1 + 1) (.bool q1) fun y1 =>
 stC y1 v1 (w1 + 1 + 1) (.slice r1 s1 t1) fun z1 =>
 stC z1 v1 (w1 + 1 + 1 + 1) (.int .i64 u1) fun a2 =>
 isP c0 fun b2 c2 =>
∃ d2, cI a2 b2 c2 .i64 d2 /\
∃ e2, cell? a2 ⟨b2, c2 + 1, none⟩ = some (.bool e2) /\
∃ f2 g2 i2, cell? a2 ⟨b2, c2 + 1 + 1, none⟩ = some (.slice f2 g2 i2) /\
∃ j2, cell? a2 ⟨b2, c2 + 1 + 1 + 1, none⟩ = some (.int .i64 j2) /\
 R (.returned (.agg #[.int .i64 d2, .bool e2, .slice f2 g2 i2, .int .i64 j2])) a2)
(pk R)) f0)
def F1065_j59 (B : World) (R : Po) (k2 l2 m2 : OA) (n2 : Int) (o2 : Bool) (p2 : Heap) : Prop :=
 F1065_j5 B R k2 l2 m2 n2 o2 p2
def F1065_j2 (B : World) (R : Po) (q2 r2 s2 : OA) (t2 : Int) (u2 : Heap) : Prop :=
((decide (t2 = (0 : Int))) = true ->
 isP s2 fun v2 w2 => stC u2 v2 w2 (.int .i64 0) fun x2 =>
 stC x2 v2 (w2 + 1) (.bool false) fun y2 =>
 stC y2 v2 (w2 + 1 + 1) (.slice none 0 0) fun z2 =>
 stC z2 v2 (w2 + 1 + 1 + 1) (.int .i64 0) fun a3 =>
 isP s2 fun b3 c3 =>
∃ d3, cI a3 b3 c3 .i64 d3 /\
∃ e3, cell? a3 ⟨b3, c3 + 1, none⟩ = some (.bool e3) /\
∃ f3 g3 i3, cell? a3 ⟨b3, c3 + 1 + 1, none⟩ = some (.slice f3 g3 i3) /\
∃ j3, cell? a3 ⟨b3, c3 + 1 + 1 + 1, none⟩ = some (.int .i64 j3) /\
 R (.returned (.agg #[.int .i64 d3, .bool e3, .slice f3 g3 i3, .int .i64 j3])) a3) /\
((decide (t2 = (0 : Int))) = false ->
 isP q2 fun k3 l3 =>
 iP k3 l3 fun m3 n3 => ∃ o3, cI u2 m3 n3 .i64 o3 /\
((!decide (o3 = (0 : Int))) = true ->
 F1065_j59 B R q2 r2 s2 t2 true u2) /\
((!decide (o3 = (0 : Int))) = false ->
 isP r2 fun p3 q3 =>
 iP p3 q3 fun r3 s3 => ∃ t3, cI u2 r3 s3 .i64 t3 /\
 F1065_j59 B R q2 r2 s2 t2 (!decide (t3 = (0 : Int))) u2))
def F1065 (B : World) (R : Po) (u3 : Int) (v3 : Bool) (w3 : OA) (x3 y3 : Nat) (z3 a4 : Int) (b4 : Bool) (c4 : OA) (d4 e4 : Nat) (f4 : Int) (h : Heap) : Prop :=
 alW h (.cells #[.int .i64 u3, .bool v3, .slice w3 x3 y3, .int .i64 z3] 67) fun g4 i4 =>
 alW i4 (.cells #[.int .i64 a4, .bool b4, .slice c4 d4 e4, .int .i64 f4] 67) fun j4 k4 =>
 alW k4 (.cells #[.int .i64 0, .bool false, .slice none 0 0, .int .i64 0] 67) fun l4 m4 =>
 iP g4 0 fun n4 o4 =>
∃ p4, cI m4 n4 o4 .i64 p4 /\
∃ q4, cell? m4 ⟨n4, o4 + 1, none⟩ = some (.bool q4) /\
∃ r4 s4 t4, cell? m4 ⟨n4, o4 + 1 + 1, none⟩ = some (.slice r4 s4 t4) /\
∃ u4, cell? m4 ⟨n4, o4 + 1 + 1 + 1, none⟩ = some (.int .i64 u4) /\
 iP j4 0 fun v4 w4 =>
∃ x4, cI m4 v4 w4 .i64 x4 /\
∃ y4, cell? m4 ⟨v4, w4 + 1, none⟩ = some (.bool y4) /\
∃ z4 a5 b5, cell? m4 ⟨v4, w4 + 1 + 1, none⟩ = some (.slice z4 a5 b5) /\
∃ c5, cell? m4 ⟨v4, w4 + 1 + 1 + 1, none⟩ = some (.int .i64 c5) /\
 Ec B 57 #[.agg #[.int .i64 p4, .bool q4, .slice r4 s4 t4, .int .i64 u4]] (retE (fun d5 e5 => ∃ f5, d5 = .int .i64 f5 /\
 sameCells m4 e5 v4 w4 4 /\ Ec B 57 #[.agg #[.int .i64 x4, .bool y4, .slice z4 a5 b5, .int .i64 c5]] (retE (fun g5 i5 => ∃ j5, g5 = .int .i64 j5 /\
 F1065_j2 B R (some ⟨g4, 0, none⟩) (some ⟨j4, 0, none⟩) (some ⟨l4, 0, none⟩) (IntKind.i64.wrap (f5 * j5)) i5)
(fun _ _ => False)) e5)
(fun _ _ => False)) m4
def F1065_L : Nat -> List (Nat × TypeDesc) := fun _ => []
def F1065_J (B : World) (R : Po) : Nat -> Option JT := fun i => match i with
  | 2 => some ⟨[(2, .pointer 0), (3, .pointer 0), (4, .pointer 0), (5, .int .i64)], fun s v h => match s, v with
    | [], [.pointer q2, .pointer r2, .pointer s2, .int _ t2] => F1065_j2 B R q2 r2 s2 t2 h
    | _, _ => False⟩
  | 5 => some ⟨[(2, .pointer 0), (3, .pointer 0), (4, .pointer 0), (5, .int .i64), (15, .bool)], fun s v h => match s, v with
    | [], [.pointer a0, .pointer b0, .pointer c0, .int _ d0, .bool e0] => F1065_j5 B R a0 b0 c0 d0 e0 h
    | _, _ => False⟩
  | _ => none
theorem F1065_ok {B : World} {R : Ending -> Heap -> Prop} (u3 : Int) (v3 : Bool) (w3 : OA) (x3 y3 : Nat) (z3 a4 : Int) (b4 : Bool) (c4 : OA) (d4 e4 : Nat) (f4 : Int) {h : Heap} (H : F1065 B R u3 v3 w3 x3 y3 z3 a4 b4 c4 d4 e4 f4 h) : Ec B 49 #[.agg #[.int .i64 u3, .bool v3, .slice w3 x3 y3, .int .i64 z3], .agg #[.int .i64 a4, .bool b4, .slice c4 d4 e4, .int .i64 f4]] R h :=
 Ej Tryz.func49 (by kernel_rfl) (by kernel_rfl) (by kernel_rfl) F1065_L (F1065_J B R) [] (by kernel_rfl) (by kernel_rfl) H

def F1074 (B : World) (R : Po) (a0 : Int) (b0 : Bool) (c0 : OA) (d0 e0 : Nat) (f0 : Int) (h : Heap) : Prop :=
 alW h (.cells #[.int .i64 a0, .bool b0, .slice c0 d0 e0, .int .i64 f0] 67) fun g0 i0 =>
 iP g0 0 fun j0 k0 =>
 iP j0 k0 fun l0 m0 => ∃ n0, cI i0 l0 m0 .i64 n0 /\
((!decide (n0 = (0 : Int))) = true ->
 iP g0 0 fun o0 p0 =>
 iP o0 p0 fun q0 r0 => ∃ s0, cI i0 q0 r0 .i64 s0 /\
 R (.returned (.int .i64 s0)) i0) /\
((!decide (n0 = (0 : Int))) = false ->
 iP g0 0 fun t0 u0 =>
 isP (some ⟨t0, u0 + 1, none⟩) fun v0 w0 =>
∃ x0, cell? i0 ⟨v0, w0, none⟩ = some (.bool x0) /\
∃ y0 z0 a1, cell? i0 ⟨v0, w0 + 1, none⟩ = some (.slice y0 z0 a1) /\
∃ b1, cell? i0 ⟨v0, w0 + 1 + 1, none⟩ = some (.int .i64 b1) /\
 Ec B 83 #[.agg #[.bool x0, .slice y0 z0 a1, .int .i64 b1]] (retE (fun c1 d1 => ∃ e1, c1 = .int .i64 e1 /\
 R (.returned (.int .i64 e1)) d1)
(pk R)) i0)
def F1074_L : Nat -> List (Nat × TypeDesc) := fun _ => []
theorem F1074_ok {B : World} {R : Ending -> Heap -> Prop} (a0 : Int) (b0 : Bool) (c0 : OA) (d0 e0 : Nat) (f0 : Int) {h : Heap} (H : F1074 B R a0 b0 c0 d0 e0 f0 h) : Ec B 57 #[.agg #[.int .i64 a0, .bool b0, .slice c0 d0 e0, .int .i64 f0]] R h :=
 Ek Tryz.func57 (by kernel_rfl) (by kernel_rfl) (by kernel_rfl) F1074_L [] (by kernel_rfl) H

def F1075 (B : World) (R : Po) (a0 : Int) (b0 : Bool) (c0 : OA) (d0 e0 : Nat) (f0 : Int) (h : Heap) : Prop :=
 alW h (.cells #[.int .i64 a0, .bool b0, .slice c0 d0 e0, .int .i64 f0] 67) fun g0 i0 =>
 alW i0 (.cells #[.int .i64 0, .bool false, .slice none 0 0, .int .i64 0] 67) fun j0 k0 =>
 iP g0 0 fun l0 m0 =>
 iP l0 m0 fun n0 o0 => ∃ p0, cI k0 n0 o0 .i64 p0 /\
 iP g0 0 fun q0 r0 =>
 isP (some ⟨q0, r0 + 1, none⟩) fun s0 t0 =>
∃ u0, cell? k0 ⟨s0, t0, none⟩ = some (.bool u0) /\
∃ v0 w0 x0, cell? k0 ⟨s0, t0 + 1, none⟩ = some (.slice v0 w0 x0) /\
∃ y0, cell? k0 ⟨s0, t0 + 1 + 1, none⟩ = some (.int .i64 y0) /\
 Ec B 84 #[.agg #[.bool u0, .slice v0 w0 x0, .int .i64 y0]] (retE (fun z0 a1 => ∃ b1 c1 d1 e1 f1, z0 = .agg #[.bool b1, .slice c1 d1 e1, .int .i64 f1] /\
 sameCells k0 a1 n0 o0 1 /\ iP j0 0 fun g1 i1 => stC a1 g1 i1 (.int .i64 (IntKind.i64.wrap (0 - p0))) fun j1 =>
 stC j1 g1 (i1 + 1) (.bool b1) fun k1 =>
 stC k1 g1 (i1 + 1 + 1) (.slice c1 d1 e1) fun l1 =>
 stC l1 g1 (i1 + 1 + 1 + 1) (.int .i64 f1) fun m1 =>
 iP j0 0 fun n1 o1 =>
∃ p1, cI m1 n1 o1 .i64 p1 /\
∃ q1, cell? m1 ⟨n1, o1 + 1, none⟩ = some (.bool q1) /\
∃ r1 s1 t1, cell? m1 ⟨n1, o1 + 1 + 1, none⟩ = some (.slice r1 s1 t1) /\
∃ u1, cell? m1 ⟨n1, o1 + 1 + 1 + 1, none⟩ = some (.int .i64 u1) /\
 R (.returned (.agg #[.int .i64 p1, .bool q1, .slice r1 s1 t1, .int .i64 u1])) m1)
(fun _ _ => False)) k0
def F1075_L : Nat -> List (Nat × TypeDesc) := fun _ => []
theorem F1075_ok {B : World} {R : Ending -> Heap -> Prop} (a0 : Int) (b0 : Bool) (c0 : OA) (d0 e0 : Nat) (f0 : Int) {h : Heap} (H : F1075 B R a0 b0 c0 d0 e0 f0 h) : Ec B 58 #[.agg #[.int .i64 a0, .bool b0, .slice c0 d0 e0, .int .i64 f0]] R h :=
 Ek Tryz.func58 (by kernel_rfl) (by kernel_rfl) (by kernel_rfl) F1075_L [] (by kernel_rfl) H

def F1086_j6 (B : World) (R : Po) (a0 : Int) (b0 : Heap) : Prop :=
 R (.returned (.int .i64 a0)) b0
def F1086 (B : World) (R : Po) (c0 : Int) (d0 : Bool) (e0 : OA) (f0 g0 : Nat) (i0 j0 : Int) (h : Heap) : Prop :=
 alW h (.cells #[.int .i64 c0, .bool d0, .slice e0 f0 g0, .int .i64 i0] 67) fun k0 l0 =>
 iP k0 0 fun m0 n0 =>
 iP m0 n0 fun o0 p0 => ∃ q0, cI l0 o0 p0 .i64 q0 /\
((decide ((0 : Int) < q0)) = true ->
 Ec B 96 #[] (retE (fun r0 s0 => ∃ t0 u0 v0 w0 x0, r0 = .agg #[.int .i64 t0, .int .i64 u0, .int .i64 v0, .int .i64 w0, .int .i64 x0] /\
 R (.returned (.int .i64 w0)) s0)
(pk R)) l0) /\
((decide ((0 : Int) < q0)) = false ->
 iP k0 0 fun y0 z0 =>
 iP y0 z0 fun a1 b1 => ∃ c1, cI l0 a1 b1 .i64 c1 /\
((decide (c1 < (0 : Int))) = true ->
 Ec B 96 #[] (retE (fun d1 e1 => ∃ f1 g1 i1 j1 k1, d1 = .agg #[.int .i64 f1, .int .i64 g1, .int .i64 i1, .int .i64 j1, .int .i64 k1] /\
 Ec B 96 #[] (retE (fun l1 m1 => ∃ n1 o1 p1 q1 r1, l1 = .agg #[.int .i64 n1, .int .i64 o1, .int .i64 p1, .int .i64 q1, .int .i64 r1] /\
 R (.returned (.int .i64 (IntKind.i64.wrap (j1 + r1)))) m1)
(pk R)) e1)
(pk R)) l0) /\
((decide (c1 < (0 : Int))) = false ->
 iP k0 0 fun s1 t1 =>
 isP (some ⟨s1, t1 + 1, none⟩) fun u1 v1 =>
∃ w1, cell? l0 ⟨u1, v1, none⟩ = some (.bool w1) /\
∃ x1 y1 z1, cell? l0 ⟨u1, v1 + 1, none⟩ = some (.slice x1 y1 z1) /\
∃ a2, cell? l0 ⟨u1, v1 + 1 + 1, none⟩ = some (.int .i64 a2) /\
 Ec B 96 #[] (retE (fun b2 c2 => ∃ d2 e2 f2 g2 i2, b2 = .agg #[.int .i64 d2, .int .i64 e2, .int .i64 f2, .int .i64 g2, .int .i64 i2] /\
 sameCells l0 c2 u1 v1 3 /\ Ec B 97 #[.agg #[.int .i64 d2, .int .i64 e2, .int .i64 f2, .int .i64 g2, .int .i64 i2], .agg #[.bool w1, .slice x1 y1 z1, .int .i64 a2], .int .i64 j0] (retE (fun j2 k2 => ∃ l2 m2, j2 = .tuple #[.int .i64 l2, .bool m2] /\
 F1086_j6 B R l2 k2)
(fun _ _ => False)) c2)
(fun _ _ => False)) l0))
def F1086_L : Nat -> List (Nat × TypeDesc) := fun _ => []
def F1086_J (B : World) (R : Po) : Nat -> Option JT := fun i => match i with
  | 6 => some ⟨[(5, .int .i64)], fun s v h => match s, v with
    | [], [.int _ a0] => F1086_j6 B R a0 h
    | _, _ => False⟩
  | _ => none
theorem F1086_ok {B : World} {R : Ending -> Heap -> Prop} (c0 : Int) (d0 : Bool) (e0 : OA) (f0 g0 : Nat) (i0 j0 : Int) {h : Heap} (H : F1086 B R c0 d0 e0 f0 g0 i0 j0 h) : Ec B 72 #[.agg #[.int .i64 c0, .bool d0, .slice e0 f0 g0, .int .i64 i0], .int .i64 j0] R h :=
 Ej Tryz.func72 (by kernel_rfl) (by kernel_rfl) (by kernel_rfl) F1086_L (F1086_J B R) [] (by kernel_rfl) (by kernel_rfl) H
end Go.Proofs
set_option linter.unusedVariables false
set_option maxRecDepth 100000
namespace Go.Proofs
open Go Go.Eng
def F1062_j5 (B : World) (R : Po) (a0 : Lp) (b0 : Nat) (c0 : OA) (d0 e0 : Nat) (f0 g0 i0 j0 : OA) (k0 : Int) (l0 : Heap) : Prop :=
 ∃ m0, m0 < b0 /\ a0 m0 [.slice c0 d0 e0, .pointer f0, .pointer g0, .pointer i0, .pointer j0, .int .i64 (IntKind.i64.wrap (k0 + (1 : Int)))] l0
def F1062_j9 (B : World) (R : Po) (a0 : Lp) (b0 : Nat) (n0 : OA) (o0 p0 : Nat) (q0 r0 s0 t0 : OA) (u0 : Int) (v0 : Bool) (w0 : Heap) : Prop :=
(v0 = true ->
 ixW n0 o0 u0 4 fun x0 y0 =>
 iP x0 y0 fun z0 a1 =>
∃ b1, cI w0 z0 a1 .i64 b1 /\
∃ c1, cell? w0 ⟨z0, a1 + 1, none⟩ = some (.bool c1) /\
∃ d1 e1 f1, cell? w0 ⟨z0, a1 + 1 + 1, none⟩ = some (.slice d1 e1 f1) /\
∃ g1, cell? w0 ⟨z0, a1 + 1 + 1 + 1, none⟩ = some (.int .i64 g1) /\
 isP t0 fun i1 j1 => stC w0 i1 j1 (.int .i64 b1) fun k1 =>
 stC k1 i1 (j1 + 1) (.bool c1) fun l1 =>
 stC l1 i1 (j1 + 1 + 1) (.slice d1 e1 f1) fun m1 =>
 stC m1 i1 (j1 + 1 + 1 + 1) (.int .i64 g1) fun n1 =>
 F1062_j5 B R a0 b0 n0 o0 p0 q0 r0 s0 t0 u0 n1) /\
(v0 = false ->
 F1062_j5 B R a0 b0 n0 o0 p0 q0 r0 s0 t0 u0 w0)
def F1062_j8 (B : World) (R : Po) (a0 : Lp) (b0 : Nat) (o1 : OA) (p1 q1 : Nat) (r1 s1 t1 u1 : OA) (v1 : Int) (w1 : Heap) : Prop :=
 ixW o1 p1 v1 4 fun x1 y1 =>
 iP x1 y1 fun z1 a2 =>
∃ b2, cI w1 z1 a2 .i64 b2 /\
∃ c2, cell? w1 ⟨z1, a2 + 1, none⟩ = some (.bool c2) /\
∃ d2 e2 f2, cell? w1 ⟨z1, a2 + 1 + 1, none⟩ = some (.slice d2 e2 f2) /\
∃ g2, cell? w1 ⟨z1, a2 + 1 + 1 + 1, none⟩ = some (.int .i64 g2) /\
 isP u1 fun i2 j2 =>
∃ k2, cI w1 i2 j2 .i64 k2 /\
∃ l2, cell? w1 ⟨i2, j2 + 1, none⟩ = some (.bool l2) /\
∃ m2 n2 o2, cell? w1 ⟨i2, j2 + 1 + 1, none⟩ = some (.slice m2 n2 o2) /\
∃ p2, cell? w1 ⟨i2, j2 + 1 + 1 + 1, none⟩ = some (.int .i64 p2) /\
 Ec B 42 #[.agg #[.int .i64 b2, .bool c2, .slice d2 e2 f2, .int .i64 g2], .agg #[.int .i64 k2, .bool l2, .slice m2 n2 o2, .int .i64 p2]] (retE (fun q2 r2 => ∃ s2, q2 = .int .i64 s2 /\
 F1062_j9 B R a0 b0 o1 p1 q1 r1 s1 t1 u1 v1 (decide ((0 : Int) < s2)) r2)
(fun _ _ => False)) w1
def F1062_j7 (B : World) (R : Po) (a0 : Lp) (b0 : Nat) (t2 : OA) (u2 v2 : Nat) (w2 x2 y2 z2 : OA) (a3 : Int) (b3 : Bool) (c3 : Heap) : Prop :=
(b3 = true ->
 ixW t2 u2 a3 4 fun d3 e3 =>
 iP d3 e3 fun f3 g3 =>
∃ i3, cI c3 f3 g3 .i64 i3 /\
∃ j3, cell? c3 ⟨f3, g3 + 1, none⟩ = some (.bool j3) /\
∃ k3 l3 m3, cell? c3 ⟨f3, g3 + 1 + 1, none⟩ = some (.slice k3 l3 m3) /\
∃ n3, cell? c3 ⟨f3, g3 + 1 + 1 + 1, none⟩ = some (.int .i64 n3) /\
 isP y2 fun o3 p3 => stC c3 o3 p3 (.int .i64 i3) fun q3 =>
 stC q3 o3 (p3 + 1) (.bool j3) fun r3 =>
 stC r3 o3 (p3 + 1 + 1) (.slice k3 l3 m3) fun s3 =>
 stC s3 o3 (p3 + 1 + 1 + 1) (.int .i64 n3) fun t3 =>
 F1062_j8 B R a0 b0 t2 u2 v2 w2 x2 y2 z2 a3 t3) /\
(b3 = false ->
 F1062_j8 B R a0 b0 t2 u2 v2 w2 x2 y2 z2 a3 c3)
def F1062 (B : World) (R : Po) (u3 : OA) (v3 w3 : Nat) (h : Heap) : Prop :=
 alW h (.cells #[.int .i64 0, .bool false, .slice none 0 0, .int .i64 0] 67) fun x3 y3 =>
 alW y3 (.cells #[.int .i64 0, .bool false, .slice none 0 0, .int .i64 0] 67) fun z3 a4 =>
 ixW u3 v3 (0 : Int) 4 fun b4 c4 =>
 iP b4 c4 fun d4 e4 =>
∃ f4, cI a4 d4 e4 .i64 f4 /\
∃ g4, cell? a4 ⟨d4, e4 + 1, none⟩ = some (.bool g4) /\
∃ i4 j4 k4, cell? a4 ⟨d4, e4 + 1 + 1, none⟩ = some (.slice i4 j4 k4) /\
∃ l4, cell? a4 ⟨d4, e4 + 1 + 1 + 1, none⟩ = some (.int .i64 l4) /\
 alW a4 (.cells #[.int .i64 0, .bool false, .slice none 0 0, .int .i64 0] 67) fun m4 n4 =>
 iP m4 0 fun o4 p4 => stC n4 o4 p4 (.int .i64 f4) fun q4 =>
 stC q4 o4 (p4 + 1) (.bool g4) fun r4 =>
 stC r4 o4 (p4 + 1 + 1) (.slice i4 j4 k4) fun s4 =>
 stC s4 o4 (p4 + 1 + 1 + 1) (.int .i64 l4) fun t4 =>
 ixW u3 v3 (0 : Int) 4 fun u4 v4 =>
 iP u4 v4 fun w4 x4 =>
∃ y4, cI t4 w4 x4 .i64 y4 /\
∃ z4, cell? t4 ⟨w4, x4 + 1, none⟩ = some (.bool z4) /\
∃ a5 b5 c5, cell? t4 ⟨w4, x4 + 1 + 1, none⟩ = some (.slice a5 b5 c5) /\
∃ d5, cell? t4 ⟨w4, x4 + 1 + 1 + 1, none⟩ = some (.int .i64 d5) /\
 alW t4 (.cells #[.int .i64 0, .bool false, .slice none 0 0, .int .i64 0] 67) fun e5 f5 =>
 iP e5 0 fun g5 i5 => stC f5 g5 i5 (.int .i64 y4) fun j5 =>
 stC j5 g5 (i5 + 1) (.bool z4) fun k5 =>
 stC k5 g5 (i5 + 1 + 1) (.slice a5 b5 c5) fun l5 =>
 stC l5 g5 (i5 + 1 + 1 + 1) (.int .i64 d5) fun m5 =>
∃ a0 : Lp, ∃ n5, a0 n5 [.slice u3 v3 w3, .pointer (some ⟨x3, 0, none⟩), .pointer (some ⟨z3, 0, none⟩), .pointer (some ⟨m4, 0, none⟩), .pointer (some ⟨e5, 0, none⟩), .int .i64 (1 : Int)] m5 /\
∀ (b0 : Nat) (o5 : Heap) (p5 : OA) (q5 r5 : Nat) (s5 t5 u5 v5 : OA) (w5 : Int), a0 b0 [.slice p5 q5 r5, .pointer s5, .pointer t5, .pointer u5, .pointer v5, .int .i64 w5] o5 -> ∀ _r : Nat -> Value,
((decide (w5 < (q5 : Int))) = true ->
 ixW p5 q5 w5 4 fun x5 y5 =>
 iP x5 y5 fun z5 a6 =>
∃ b6, cI o5 z5 a6 .i64 b6 /\
∃ c6, cell? o5 ⟨z5, a6 + 1, none⟩ = some (.bool c6) /\
∃ d6 e6 f6, cell? o5 ⟨z5, a6 + 1 + 1, none⟩ = some (.slice d6 e6 f6) /\
∃ g6, cell? o5 ⟨z5, a6 + 1 + 1 + 1, none⟩ = some (.int .i64 g6) /\
 isP u5 fun i6 j6 =>
∃ k6, cI o5 i6 j6 .i64 k6 /\
∃ l6, cell? o5 ⟨i6, j6 + 1, none⟩ = some (.bool l6) /\
∃ m6 n6 o6, cell? o5 ⟨i6, j6 + 1 + 1, none⟩ = some (.slice m6 n6 o6) /\
∃ p6, cell? o5 ⟨i6, j6 + 1 + 1 + 1, none⟩ = some (.int .i64 p6) /\
 Ec B 42 #[.agg #[.int .i64 b6, .bool c6, .slice d6 e6 f6, .int .i64 g6], .agg #[.int .i64 k6, .bool l6, .slice m6 n6 o6, .int .i64 p6]] (retE (fun q6 r6 => ∃ s6, q6 = .int .i64 s6 /\
 F1062_j7 B R a0 b0 p5 q5 r5 s5 t5 u5 v5 w5 (decide (s6 < (0 : Int))) r6)
(fun _ _ => False)) o5) /\
((decide (w5 < (q5 : Int))) = false ->
 isP u5 fun t6 u6 =>
∃ v6, cI o5 t6 u6 .i64 v6 /\
∃ w6, cell? o5 ⟨t6, u6 + 1, none⟩ = some (.bool w6) /\
∃ x6 y6 z6, cell? o5 ⟨t6, u6 + 1 + 1, none⟩ = some (.slice x6 y6 z6) /\
∃ a7, cell? o5 ⟨t6, u6 + 1 + 1 + 1, none⟩ = some (.int .i64 a7) /\
 isP v5 fun b7 c7 =>
∃ d7, cI o5 b7 c7 .i64 d7 /\
∃ e7, cell? o5 ⟨b7, c7 + 1, none⟩ = some (.bool e7) /\
∃ f7 g7 i7, cell? o5 ⟨b7, c7 + 1 + 1, none⟩ = some (.slice f7 g7 i7) /\
∃ j7, cell? o5 ⟨b7, c7 + 1 + 1 + 1, none⟩ = some (.int .i64 j7) /\
 isP s5 fun k7 l7 => stC o5 k7 l7 (.int .i64 v6) fun m7 =>
 stC m7 k7 (l7 + 1) (.bool w6) fun n7 =>
 stC n7 k7 (l7 + 1 + 1) (.slice x6 y6 z6) fun o7 =>
 stC o7 k7 (l7 + 1 + 1 + 1) (.int .i64 a7) fun p7 =>
 sameCells o5 p7 b7 c7 4 /\ isP t5 fun q7 r7 => stC p7 q7 r7 (.int .i64 d7) fun s7 =>
 stC s7 q7 (r7 + 1) (.bool e7) fun t7 =>
 stC t7 q7 (r7 + 1 + 1) (.slice f7 g7 i7) fun u7 =>
 stC u7 q7 (r7 + 1 + 1 + 1) (.int .i64 j7) fun v7 =>
 isP s5 fun w7 x7 =>
∃ y7, cI v7 w7 x7 .i64 y7 /\
∃ z7, cell? v7 ⟨w7, x7 + 1, none⟩ = some (.bool z7) /\
∃ a8 b8 c8, cell? v7 ⟨w7, x7 + 1 + 1, none⟩ = some (.slice a8 b8 c8) /\
∃ d8, cell? v7 ⟨w7, x7 + 1 + 1 + 1, none⟩ = some (.int .i64 d8) /\
 isP t5 fun e8 f8 =>
∃ g8, cI v7 e8 f8 .i64 g8 /\
∃ i8, cell? v7 ⟨e8, f8 + 1, none⟩ = some (.bool i8) /\
∃ j8 k8 l8, cell? v7 ⟨e8, f8 + 1 + 1, none⟩ = some (.slice j8 k8 l8) /\
∃ m8, cell? v7 ⟨e8, f8 + 1 + 1 + 1, none⟩ = some (.int .i64 m8) /\
 R (.returned (.tuple #[.agg #[.int .i64 y7, .bool z7, .slice a8 b8 c8, .int .i64 d8], .agg #[.int .i64 g8, .bool i8, .slice j8 k8 l8, .int .i64 m8]])) v7)
def F1062_L : Nat -> List (Nat × TypeDesc) := fun i => match i with
  | 4 => [(0, .slice 0), (2, .pointer 0), (3, .pointer 0), (4, .pointer 0), (5, .pointer 0), (6, .int .i64)]
  | _ => []
def F1062_J (B : World) (R : Po) : Nat -> Option JT := fun i => match i with
  | 5 => some ⟨[(0, .slice 0), (2, .pointer 0), (3, .pointer 0), (4, .pointer 0), (5, .pointer 0), (6, .int .i64)], fun s v h => match s, v with
    | [(a0, b0)], [.slice c0 d0 e0, .pointer f0, .pointer g0, .pointer i0, .pointer j0, .int _ k0] => F1062_j5 B R a0 b0 c0 d0 e0 f0 g0 i0 j0 k0 h
    | _, _ => False⟩
  | 7 => some ⟨[(0, .slice 0), (2, .pointer 0), (3, .pointer 0), (4, .pointer 0), (5, .pointer 0), (6, .int .i64), (25, .bool)], fun s v h => match s, v with
    | [(a0, b0)], [.slice t2 u2 v2, .pointer w2, .pointer x2, .pointer y2, .pointer z2, .int _ a3, .bool b3] => F1062_j7 B R a0 b0 t2 u2 v2 w2 x2 y2 z2 a3 b3 h
    | _, _ => False⟩
  | 8 => some ⟨[(0, .slice 0), (2, .pointer 0), (3, .pointer 0), (4, .pointer 0), (5, .pointer 0), (6, .int .i64)], fun s v h => match s, v with
    | [(a0, b0)], [.slice o1 p1 q1, .pointer r1, .pointer s1, .pointer t1, .pointer u1, .int _ v1] => F1062_j8 B R a0 b0 o1 p1 q1 r1 s1 t1 u1 v1 h
    | _, _ => False⟩
  | 9 => some ⟨[(0, .slice 0), (2, .pointer 0), (3, .pointer 0), (4, .pointer 0), (5, .pointer 0), (6, .int .i64), (36, .bool)], fun s v h => match s, v with
    | [(a0, b0)], [.slice n0 o0 p0, .pointer q0, .pointer r0, .pointer s0, .pointer t0, .int _ u0, .bool v0] => F1062_j9 B R a0 b0 n0 o0 p0 q0 r0 s0 t0 u0 v0 h
    | _, _ => False⟩
  | _ => none
theorem F1062_ok {B : World} {R : Ending -> Heap -> Prop} (u3 : OA) (v3 w3 : Nat) {h : Heap} (H : F1062 B R u3 v3 w3 h) : Ec B 46 #[.slice u3 v3 w3] R h :=
 Ej Tryz.func46 (by kernel_rfl) (by kernel_rfl) (by kernel_rfl) F1062_L (F1062_J B R) [] (by kernel_rfl) (by kernel_rfl) H
end Go.Proofs
set_option linter.unusedVariables false
set_option maxRecDepth 100000
namespace Go.Proofs
open Go Go.Eng
def F1038 (B : World) (R : Po) (a0 b0 c0 d0 : Int) (h : Heap) : Prop :=
 alW h (.cells #[.int .i64 a0, .int .i64 b0] 23) fun e0 f0 =>
 alW f0 (.cells #[.int .i64 c0, .int .i64 d0] 23) fun g0 i0 =>
 alW i0 (.cells #[.int .i64 0, .int .i64 0] 23) fun j0 k0 =>
 iP e0 0 fun l0 m0 =>
 iP l0 m0 fun n0 o0 => ∃ p0, cI k0 n0 o0 .i64 p0 /\
 Ec B 41 #[.int .i64 p0] (retE (fun q0 r0 => ∃ s0 t0 u0 v0 w0 x0, q0 = .agg #[.int .i64 s0, .bool t0, .slice u0 v0 w0, .int .i64 x0] /\
 alW r0 (.cells #[.int .i64 0, .bool false, .slice none 0 0, .int .i64 0] 67) fun y0 z0 =>
 iP y0 0 fun a1 b1 => stC z0 a1 b1 (.int .i64 s0) fun c1 =>
 stC c1 a1 (b1 + 1) (.bool t0) fun d1 =>
 stC d1 a1 (b1 + 1 + 1) (.slice u0 v0 w0) fun e1 =>
 stC e1 a1 (b1 + 1 + 1 + 1) (.int .i64 x0) fun f1 =>
 iP e0 0 fun g1 i1 =>
 isP (some ⟨g1, i1 + 1, none⟩) fun j1 k1 => ∃ l1, cI f1 j1 k1 .i64 l1 /\
 Ec B 41 #[.int .i64 l1] (retE (fun m1 n1 => ∃ o1 p1 q1 r1 s1 t1, m1 = .agg #[.int .i64 o1, .bool p1, .slice q1 r1 s1, .int .i64 t1] /\
 alW n1 (.cells #[.int .i64 0, .bool false, .slice none 0 0, .int .i64 0] 67) fun u1 v1 =>
 iP u1 0 fun w1 x1 => stC v1 w1 x1 (.int .i64 o1) fun y1 =>
 stC y1 w1 (x1 + 1) (.bool p1) fun z1 =>
 stC z1 w1 (x1 + 1 + 1) (.slice q1 r1 s1) fun a2 =>
 stC a2 w1 (x1 + 1 + 1 + 1) (.int .i64 t1) fun b2 =>
 iP g0 0 fun c2 d2 =>
 iP c2 d2 fun e2 f2 => ∃ g2, cI b2 e2 f2 .i64 g2 /\
 Ec B 41 #[.int .i64 g2] (retE (fun i2 j2 => ∃ k2 l2 m2 n2 o2 p2, i2 = .agg #[.int .i64 k2, .bool l2, .slice m2 n2 o2, .int .i64 p2] /\
 alW j2 (.cells #[.int .i64 0, .bool false, .slice none 0 0, .int .i64 0] 67) fun q2 r2 =>
 iP q2 0 fun s2 t2 => stC r2 s2 t2 (.int .i64 k2) fun u2 =>
 stC u2 s2 (t2 + 1) (.bool l2) fun v2 =>
 stC v2 s2 (t2 + 1 + 1) (.slice m2 n2 o2) fun w2 =>
 stC w2 s2 (t2 + 1 + 1 + 1) (.int .i64 p2) fun x2 =>
 iP g0 0 fun y2 z2 =>
 isP (some ⟨y2, z2 + 1, none⟩) fun a3 b3 => ∃ c3, cI x2 a3 b3 .i64 c3 /\
 Ec B 41 #[.int .i64 c3] (retE (fun d3 e3 => ∃ f3 g3 i3 j3 k3 l3, d3 = .agg #[.int .i64 f3, .bool g3, .slice i3 j3 k3, .int .i64 l3] /\
 alW e3 (.cells #[.int .i64 0, .bool false, .slice none 0 0, .int .i64 0] 67) fun m3 n3 =>
 iP m3 0 fun o3 p3 => stC n3 o3 p3 (.int .i64 f3) fun q3 =>
 stC q3 o3 (p3 + 1) (.bool g3) fun r3 =>
 stC r3 o3 (p3 + 1 + 1) (.slice i3 j3 k3) fun s3 =>
 stC s3 o3 (p3 + 1 + 1 + 1) (.int .i64 l3) fun t3 =>
 iP y0 0 fun u3 v3 =>
∃ w3, cI t3 u3 v3 .i64 w3 /\
∃ x3, cell? t3 ⟨u3, v3 + 1, none⟩ = some (.bool x3) /\
∃ y3 z3 a4, cell? t3 ⟨u3, v3 + 1 + 1, none⟩ = some (.slice y3 z3 a4) /\
∃ b4, cell? t3 ⟨u3, v3 + 1 + 1 + 1, none⟩ = some (.int .i64 b4) /\
 iP q2 0 fun c4 d4 =>
∃ e4, cI t3 c4 d4 .i64 e4 /\
∃ f4, cell? t3 ⟨c4, d4 + 1, none⟩ = some (.bool f4) /\
∃ g4 i4 j4, cell? t3 ⟨c4, d4 + 1 + 1, none⟩ = some (.slice g4 i4 j4) /\
∃ k4, cell? t3 ⟨c4, d4 + 1 + 1 + 1, none⟩ = some (.int .i64 k4) /\
 iP y0 0 fun l4 m4 =>
∃ n4, cI t3 l4 m4 .i64 n4 /\
∃ o4, cell? t3 ⟨l4, m4 + 1, none⟩ = some (.bool o4) /\
∃ p4 q4 r4, cell? t3 ⟨l4, m4 + 1 + 1, none⟩ = some (.slice p4 q4 r4) /\
∃ s4, cell? t3 ⟨l4, m4 + 1 + 1 + 1, none⟩ = some (.int .i64 s4) /\
 iP m3 0 fun t4 u4 =>
∃ v4, cI t3 t4 u4 .i64 v4 /\
∃ w4, cell? t3 ⟨t4, u4 + 1, none⟩ = some (.bool w4) /\
∃ x4 y4 z4, cell? t3 ⟨t4, u4 + 1 + 1, none⟩ = some (.slice x4 y4 z4) /\
∃ a5, cell? t3 ⟨t4, u4 + 1 + 1 + 1, none⟩ = some (.int .i64 a5) /\
 iP u1 0 fun b5 c5 =>
∃ d5, cI t3 b5 c5 .i64 d5 /\
∃ e5, cell? t3 ⟨b5, c5 + 1, none⟩ = some (.bool e5) /\
∃ f5 g5 i5, cell? t3 ⟨b5, c5 + 1 + 1, none⟩ = some (.slice f5 g5 i5) /\
∃ j5, cell? t3 ⟨b5, c5 + 1 + 1 + 1, none⟩ = some (.int .i64 j5) /\
 iP q2 0 fun k5 l5 =>
∃ m5, cI t3 k5 l5 .i64 m5 /\
∃ n5, cell? t3 ⟨k5, l5 + 1, none⟩ = some (.bool n5) /\
∃ o5 p5 q5, cell? t3 ⟨k5, l5 + 1 + 1, none⟩ = some (.slice o5 p5 q5) /\
∃ r5, cell? t3 ⟨k5, l5 + 1 + 1 + 1, none⟩ = some (.int .i64 r5) /\
 iP u1 0 fun s5 t5 =>
∃ u5, cI t3 s5 t5 .i64 u5 /\
∃ v5, cell? t3 ⟨s5, t5 + 1, none⟩ = some (.bool v5) /\
∃ w5 x5 y5, cell? t3 ⟨s5, t5 + 1 + 1, none⟩ = some (.slice w5 x5 y5) /\
∃ z5, cell? t3 ⟨s5, t5 + 1 + 1 + 1, none⟩ = some (.int .i64 z5) /\
 iP m3 0 fun a6 b6 =>
∃ c6, cI t3 a6 b6 .i64 c6 /\
∃ d6, cell? t3 ⟨a6, b6 + 1, none⟩ = some (.bool d6) /\
∃ e6 f6 g6, cell? t3 ⟨a6, b6 + 1 + 1, none⟩ = some (.slice e6 f6 g6) /\
∃ i6, cell? t3 ⟨a6, b6 + 1 + 1 + 1, none⟩ = some (.int .i64 i6) /\
 Ec B 49 #[.agg #[.int .i64 w3, .bool x3, .slice y3 z3 a4, .int .i64 b4], .agg #[.int .i64 e4, .bool f4, .slice g4 i4 j4, .int .i64 k4]] (retE (fun j6 k6 => ∃ l6 m6 n6 o6 p6 q6, j6 = .agg #[.int .i64 l6, .bool m6, .slice n6 o6 p6, .int .i64 q6] /\
 sameCells t3 k6 a6 b6 4 /\ sameCells t3 k6 s5 t5 4 /\ sameCells t3 k6 k5 l5 4 /\ sameCells t3 k6 b5 c5 4 /\ sameCells t3 k6 t4 u4 4 /\ sameCells t3 k6 l4 m4 4 /\ Ec B 49 #[.agg #[.int .i64 n4, .bool o4, .slice p4 q4 r4, .int .i64 s4], .agg #[.int .i64 v4, .bool w4, .slice x4 y4 z4, .int .i64 a5]] (retE (fun r6 s6 => ∃ t6 u6 v6 w6 x6 y6, r6 = .agg #[.int .i64 t6, .bool u6, .slice v6 w6 x6, .int .i64 y6] /\
 sameCells k6 s6 a6 b6 4 /\ sameCells k6 s6 s5 t5 4 /\ sameCells k6 s6 k5 l5 4 /\ sameCells k6 s6 b5 c5 4 /\ Ec B 49 #[.agg #[.int .i64 d5, .bool e5, .slice f5 g5 i5, .int .i64 j5], .agg #[.int .i64 m5, .bool n5, .slice o5 p5 q5, .int .i64 r5]] (retE (fun z6 a7 => ∃ b7 c7 d7 e7 f7 g7, z6 = .agg #[.int .i64 b7, .bool c7, .slice d7 e7 f7, .int .i64 g7] /\
 sameCells s6 a7 a6 b6 4 /\ sameCells s6 a7 s5 t5 4 /\ Ec B 49 #[.agg #[.int .i64 u5, .bool v5, .slice w5 x5 y5, .int .i64 z5], .agg #[.int .i64 c6, .bool d6, .slice e6 f6 g6, .int .i64 i6]] (retE (fun i7 j7 => ∃ k7 l7 m7 n7 o7 p7, i7 = .agg #[.int .i64 k7, .bool l7, .slice m7 n7 o7, .int .i64 p7] /\
 alW j7 (.cells #[.int .i64 l6, .bool m6, .slice n6 o6 p6, .int .i64 q6, .int .i64 t6, .bool u6, .slice v6 w6 x6, .int .i64 y6, .int .i64 b7, .bool c7, .slice d7 e7 f7, .int .i64 g7, .int .i64 k7, .bool l7, .slice m7 n7 o7, .int .i64 p7] 67) fun q7 r7 =>
 Ec B 46 #[.slice (some ⟨q7, 0, none⟩) 4 4] (retE (fun s7 t7 => ∃ u7 v7 w7 x7 y7 z7 a8 b8 c8 d8 e8 f8, s7 = .tuple #[.agg #[.int .i64 u7, .bool v7, .slice w7 x7 y7, .int .i64 z7], .agg #[.int .i64 a8, .bool b8, .slice c8 d8 e8, .int .i64 f8]] /\
 Ec B 47 #[.agg #[.int .i64 u7, .bool v7, .slice w7 x7 y7, .int .i64 z7], .agg #[.int .i64 a8, .bool b8, .slice c8 d8 e8, .int .i64 f8]] (retE (fun g8 i8 => ∃ j8 k8, g8 = .agg #[.int .i64 j8, .int .i64 k8] /\
 iP j0 0 fun l8 m8 => stC i8 l8 m8 (.int .i64 j8) fun n8 =>
 stC n8 l8 (m8 + 1) (.int .i64 k8) fun o8 =>
 iP j0 0 fun p8 q8 =>
∃ r8, cI o8 p8 q8 .i64 r8 /\
∃ s8, cell? o8 ⟨p8, q8 + 1, none⟩ = some (.int .i64 s8) /\
 R (.returned (.agg #[.int .i64 r8, .int .i64 s8])) o8)
(fun _ _ => False)) t7)
(fun _ _ => False)) r7)
(fun _ _ => False)) a7)
(fun _ _ => False)) s6)
(fun _ _ => False)) k6)
(fun _ _ => False)) t3)
(pk R)) x2)
(pk R)) b2)
(pk R)) f1)
(pk R)) k0
def F1038_L : Nat -> List (Nat × TypeDesc) := fun _ => []
theorem F1038_ok {B : World} {R : Ending -> Heap -> Prop} (a0 b0 c0 d0 : Int) {h : Heap} (H : F1038 B R a0 b0 c0 d0 h) : Ec B 20 #[.agg #[.int .i64 a0, .int .i64 b0], .agg #[.int .i64 c0, .int .i64 d0]] R h :=
 Ek Tryz.func20 (by kernel_rfl) (by kernel_rfl) (by kernel_rfl) F1038_L [] (by kernel_rfl) H
end Go.Proofs
