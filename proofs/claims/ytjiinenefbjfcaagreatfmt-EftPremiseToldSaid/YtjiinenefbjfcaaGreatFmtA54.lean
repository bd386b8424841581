import Derived.Test.YtjiinenefbjfcaaGreatFmtA03
/- Here stand lemmas: EftPremise, bits.Same: what they come to (written by program). -/
set_option linter.unusedVariables false
namespace Go.Proofs
open Go Go.Eng
/-- plumb/plumblaw6.EftPremise -/
def F1008_j234 (B : World) (R : Po) (a0 : Bool) (b0 : Heap) : Prop :=
 R (.returned (.bool a0)) b0
def F1008_j24 (B : World) (R : Po) (c0 d0 : Bool) (e0 : Heap) : Prop :=
((!d0) = true →
 F1008_j234 B R true e0) ∧
((!d0) = false →
 F1008_j234 B R c0 e0)
def F1008_j227 (B : World) (R : Po) (f0 g0 : Bool) (i0 : Heap) : Prop :=
 F1008_j24 B R f0 g0 i0
def F1008_j22 (B : World) (R : Po) (j0 : OA) (k0 : Int) (l0 : Bool) (m0 : Int) (n0 : Bool) (o0 : Heap) : Prop :=
(n0 = true →
 R (.returned (.bool false)) o0) ∧
(n0 = false →
 isP j0 fun p0 q0 =>
 isP (some ⟨p0, q0 + 1, none⟩) fun r0 s0 => ∃ t0 u0 v0, cS o0 r0 s0 t0 u0 v0 ∧
((decide ((u0 : Int) = (0 : Int))) = true →
 F1008_j227 B R l0 true o0) ∧
((decide ((u0 : Int) = (0 : Int))) = false →
 Ec B 5 #[.int .i64 k0, .int .i64 (1023 : Int)] (retE (fun w0 x0 => ∃ y0, w0 = .bool y0 ∧
(y0 = true →
 Ec B 14 #[.int .i64 k0] (retE (fun z0 a1 => ∃ b1, z0 = .int .i64 b1 ∧
 Ec B 13 #[.int .i64 b1, .int .i64 m0] (retE (fun c1 d1 => ∃ e1, c1 = .bool e1 ∧
 F1008_j227 B R l0 (!e1) d1)
(pk R)) a1)
(pk R)) x0) ∧
(y0 = false →
 F1008_j227 B R l0 false x0))
(pk R)) o0))
def F1008_j15 (B : World) (R : Po) (f1 g1 : Int) (i1 j1 : OA) (k1 : Bool) (l1 : Heap) : Prop :=
(k1 = true →
 R (.returned (.bool true)) l1) ∧
(k1 = false →
 Ec B 16 #[.int .i64 f1] (retE (fun m1 n1 => ∃ o1 p1 q1, m1 = .tuple #[.int .i64 o1, .int .i64 p1, .bool q1] ∧
 isP i1 fun r1 s1 =>
∃ t1, cell? n1 ⟨r1, s1, none⟩ = some (.bool t1) ∧
∃ u1 v1 w1, cell? n1 ⟨r1, s1 + 1, none⟩ = some (.slice u1 v1 w1) ∧
∃ x1, cell? n1 ⟨r1, s1 + 1 + 1, none⟩ = some (.int .i64 x1) ∧
 isP j1 fun y1 z1 =>
∃ a2, cell? n1 ⟨y1, z1, none⟩ = some (.bool a2) ∧
∃ b2 c2 d2, cell? n1 ⟨y1, z1 + 1, none⟩ = some (.slice b2 c2 d2) ∧
∃ e2, cell? n1 ⟨y1, z1 + 1 + 1, none⟩ = some (.int .i64 e2) ∧
 Ec B 17 #[.agg #[.bool t1, .slice u1 v1 w1, .int .i64 x1], .agg #[.bool a2, .slice b2 c2 d2, .int .i64 e2]] (retE (fun f2 g2 => ∃ i2 j2 k2 l2 m2 n2, f2 = .tuple #[.agg #[.bool i2, .slice j2 k2 l2, .int .i64 m2], .int .i64 n2] ∧
 alW g2 (.cells #[.bool false, .slice none 0 0, .int .i64 0] 26) fun o2 p2 =>
 iP o2 0 fun q2 r2 => stC p2 q2 r2 (.bool i2) fun s2 =>
 stC s2 q2 (r2 + 1) (.slice j2 k2 l2) fun t2 =>
 stC t2 q2 (r2 + 1 + 1) (.int .i64 m2) fun u2 =>
 iP o2 0 fun v2 w2 =>
∃ x2, cell? u2 ⟨v2, w2, none⟩ = some (.bool x2) ∧
∃ y2 z2 a3, cell? u2 ⟨v2, w2 + 1, none⟩ = some (.slice y2 z2 a3) ∧
∃ b3, cell? u2 ⟨v2, w2 + 1 + 1, none⟩ = some (.int .i64 b3) ∧
 Ec B 8 #[.agg #[.bool x2, .slice y2 z2 a3, .int .i64 b3], .int .i64 (0 : Int)] (retE (fun c3 d3 => ∃ e3 f3 g3, c3 = .tuple #[.int .i64 e3, .bool f3, .int .i64 g3] ∧
 Ec B 18 #[.int .i64 f1, .int .i64 g1] (retE (fun i3 j3 => ∃ k3 l3 m3, i3 = .tuple #[.int .i64 k3, .int .i64 l3, .bool m3] ∧
 Ec B 19 #[.bool false, .int .i64 (1 : Int), .int .i64 (-969 : Int)] (retE (fun n3 o3 => ∃ p3 q3, n3 = .tuple #[.int .i64 p3, .bool q3] ∧
((!q1) = true →
 F1008_j22 B R (some ⟨o2, 0, none⟩) k3 m3 p3 true o3) ∧
((!q1) = false →
 Ec B 12 #[.int .i64 k3, .int .i64 e3] (retE (fun r3 s3 => ∃ t3, r3 = .bool t3 ∧
 F1008_j22 B R (some ⟨o2, 0, none⟩) k3 m3 p3 (!t3) s3)
(pk R)) o3))
(pk R)) j3)
(pk R)) d3)
(pk R)) u2)
(pk R)) n1)
(pk R)) l1)
def F1008_j13 (B : World) (R : Po) (u3 v3 : Int) (w3 x3 : OA) (y3 : Bool) (z3 : Heap) : Prop :=
(y3 = true →
 R (.returned (.bool false)) z3) ∧
(y3 = false →
 Ec B 5 #[.int .i64 u3, .int .i64 (996 : Int)] (retE (fun a4 b4 => ∃ c4, a4 = .bool c4 ∧
((!c4) = true →
 F1008_j15 B R u3 v3 w3 x3 true b4) ∧
((!c4) = false →
 Ec B 5 #[.int .i64 v3, .int .i64 (996 : Int)] (retE (fun d4 e4 => ∃ f4, d4 = .bool f4 ∧
 F1008_j15 B R u3 v3 w3 x3 (!f4) e4)
(pk R)) b4))
(pk R)) z3)
def F1008_j134 (B : World) (R : Po) (g4 i4 : Int) (j4 k4 : OA) (l4 m4 : Bool) (n4 : Heap) : Prop :=
(m4 = true →
 F1008_j13 B R g4 i4 j4 k4 true n4) ∧
(m4 = false →
 Ec B 15 #[.int .i64 g4] (retE (fun o4 p4 => ∃ q4, o4 = .int .i64 q4 ∧
((decide (q4 = (0 : Int))) = true →
 F1008_j13 B R g4 i4 j4 k4 (!l4) p4) ∧
((decide (q4 = (0 : Int))) = false →
 F1008_j13 B R g4 i4 j4 k4 false p4))
(pk R)) n4)
def F1008_j126 (B : World) (R : Po) (r4 s4 : Int) (t4 u4 : OA) (v4 w4 : Bool) (x4 : Heap) : Prop :=
(w4 = true →
 F1008_j134 B R r4 s4 t4 u4 v4 true x4) ∧
(w4 = false →
 Ec B 14 #[.int .i64 r4] (retE (fun y4 z4 => ∃ a5, y4 = .int .i64 a5 ∧
 Ec B 14 #[.int .i64 s4] (retE (fun b5 c5 => ∃ d5, b5 = .int .i64 d5 ∧
 Ec B 13 #[.int .i64 a5, .int .i64 d5] (retE (fun e5 f5 => ∃ g5, e5 = .bool g5 ∧
((!g5) = true →
 F1008_j134 B R r4 s4 t4 u4 v4 (!v4) f5) ∧
((!g5) = false →
 F1008_j134 B R r4 s4 t4 u4 v4 false f5))
(pk R)) c5)
(pk R)) z4)
(pk R)) x4)
def F1008_j116 (B : World) (R : Po) (i5 j5 : Int) (k5 l5 : OA) (m5 n5 : Int) (o5 p5 : Bool) (q5 : Heap) : Prop :=
(p5 = true →
 F1008_j126 B R i5 j5 k5 l5 o5 true q5) ∧
(p5 = false →
 Ec B 12 #[.int .i64 n5, .int .i64 m5] (retE (fun r5 s5 => ∃ t5, r5 = .bool t5 ∧
 F1008_j126 B R i5 j5 k5 l5 o5 (!t5) s5)
(pk R)) q5)
def F1008_j105 (B : World) (R : Po) (u5 v5 : Int) (w5 x5 : OA) (y5 z5 a6 : Int) (b6 c6 : Bool) (d6 : Heap) : Prop :=
(c6 = true →
 F1008_j116 B R u5 v5 w5 x5 y5 a6 b6 true d6) ∧
(c6 = false →
 Ec B 12 #[.int .i64 z5, .int .i64 y5] (retE (fun e6 f6 => ∃ g6, e6 = .bool g6 ∧
 F1008_j116 B R u5 v5 w5 x5 y5 a6 b6 (!g6) f6)
(pk R)) d6)
def F1008_j4 (B : World) (R : Po) (i6 j6 : Int) (k6 : Bool) (l6 : Heap) : Prop :=
(k6 = true →
 R (.returned (.bool true)) l6) ∧
(k6 = false →
 Ec B 6 #[.int .i64 i6] (retE (fun m6 n6 => ∃ o6 p6 q6 r6 s6 t6, m6 = .tuple #[.agg #[.bool o6, .slice p6 q6 r6, .int .i64 s6], .int .i64 t6] ∧
 alW n6 (.cells #[.bool false, .slice none 0 0, .int .i64 0] 26) fun u6 v6 =>
 iP u6 0 fun w6 x6 => stC v6 w6 x6 (.bool o6) fun y6 =>
 stC y6 w6 (x6 + 1) (.slice p6 q6 r6) fun z6 =>
 stC z6 w6 (x6 + 1 + 1) (.int .i64 s6) fun a7 =>
 Ec B 6 #[.int .i64 j6] (retE (fun b7 c7 => ∃ d7 e7 f7 g7 i7 j7, b7 = .tuple #[.agg #[.bool d7, .slice e7 f7 g7, .int .i64 i7], .int .i64 j7] ∧
 alW c7 (.cells #[.bool false, .slice none 0 0, .int .i64 0] 26) fun k7 l7 =>
 iP k7 0 fun m7 n7 => stC l7 m7 n7 (.bool d7) fun o7 =>
 stC o7 m7 (n7 + 1) (.slice e7 f7 g7) fun p7 =>
 stC p7 m7 (n7 + 1 + 1) (.int .i64 i7) fun q7 =>
 iP u6 0 fun r7 s7 =>
∃ t7, cell? q7 ⟨r7, s7, none⟩ = some (.bool t7) ∧
∃ u7 v7 w7, cell? q7 ⟨r7, s7 + 1, none⟩ = some (.slice u7 v7 w7) ∧
∃ x7, cell? q7 ⟨r7, s7 + 1 + 1, none⟩ = some (.int .i64 x7) ∧
 iP k7 0 fun y7 z7 =>
∃ a8, cell? q7 ⟨y7, z7, none⟩ = some (.bool a8) ∧
∃ b8 c8 d8, cell? q7 ⟨y7, z7 + 1, none⟩ = some (.slice b8 c8 d8) ∧
∃ e8, cell? q7 ⟨y7, z7 + 1 + 1, none⟩ = some (.int .i64 e8) ∧
 Ec B 7 #[.agg #[.bool t7, .slice u7 v7 w7, .int .i64 x7], .agg #[.bool a8, .slice b8 c8 d8, .int .i64 e8]] (retE (fun f8 g8 => ∃ i8 j8 k8 l8 m8 n8, f8 = .tuple #[.agg #[.bool i8, .slice j8 k8 l8, .int .i64 m8], .int .i64 n8] ∧
 alW g8 (.cells #[.bool false, .slice none 0 0, .int .i64 0] 26) fun o8 p8 =>
 iP o8 0 fun q8 r8 => stC p8 q8 r8 (.bool i8) fun s8 =>
 stC s8 q8 (r8 + 1) (.slice j8 k8 l8) fun t8 =>
 stC t8 q8 (r8 + 1 + 1) (.int .i64 m8) fun u8 =>
 iP o8 0 fun v8 w8 =>
∃ x8, cell? u8 ⟨v8, w8, none⟩ = some (.bool x8) ∧
∃ y8 z8 a9, cell? u8 ⟨v8, w8 + 1, none⟩ = some (.slice y8 z8 a9) ∧
∃ b9, cell? u8 ⟨v8, w8 + 1 + 1, none⟩ = some (.int .i64 b9) ∧
 Ec B 8 #[.agg #[.bool x8, .slice y8 z8 a9, .int .i64 b9], .int .i64 (0 : Int)] (retE (fun c9 d9 => ∃ e9 f9 g9, c9 = .tuple #[.int .i64 e9, .bool f9, .int .i64 g9] ∧
 Ec B 9 #[.int .i64 i6, .int .i64 j6] (retE (fun i9 j9 => ∃ k9 l9 m9, i9 = .tuple #[.int .i64 k9, .int .i64 l9, .bool m9] ∧
 Ec B 10 #[.int .i64 i6, .int .i64 j6] (retE (fun n9 o9 => ∃ p9 q9 r9, n9 = .tuple #[.int .i64 p9, .int .i64 q9, .bool r9] ∧
 Ec B 11 #[.int .i64 i6, .int .i64 j6] (retE (fun s9 t9 => ∃ u9 v9 w9, s9 = .tuple #[.int .i64 u9, .int .i64 v9, .bool w9] ∧
((!m9) = true →
 F1008_j105 B R i6 j6 (some ⟨u6, 0, none⟩) (some ⟨k7, 0, none⟩) e9 k9 u9 w9 true t9) ∧
((!m9) = false →
 F1008_j105 B R i6 j6 (some ⟨u6, 0, none⟩) (some ⟨k7, 0, none⟩) e9 k9 u9 w9 (!r9) t9))
(pk R)) o9)
(pk R)) j9)
(pk R)) d9)
(pk R)) u8)
(pk R)) q7)
(pk R)) a7)
(pk R)) l6)
def F1008 (B : World) (R : Po) (x9 y9 : Int) (h : Heap) : Prop :=
 Ec B 4 #[] (retE (fun z9 a10 => ∃ b10, z9 = .bool b10 ∧
((!b10) = true →
 R (.returned (.bool false)) a10) ∧
((!b10) = false →
 Ec B 5 #[.int .i64 x9, .int .i64 (1023 : Int)] (retE (fun c10 d10 => ∃ e10, c10 = .bool e10 ∧
((!e10) = true →
 F1008_j4 B R x9 y9 true d10) ∧
((!e10) = false →
 Ec B 5 #[.int .i64 y9, .int .i64 (1023 : Int)] (retE (fun f10 g10 => ∃ i10, f10 = .bool i10 ∧
 F1008_j4 B R x9 y9 (!i10) g10)
(pk R)) d10))
(pk R)) a10))
(pk R)) h
def F1008_L : Nat → List (Nat × TypeDesc) := fun _ => []
def F1008_J (B : World) (R : Po) : Nat → Option JT := fun i => match i with
  | 4 => some ⟨[(0, .int .i64), (1, .int .i64), (43, .bool)], fun s v h => match s, v with
    | [], [.int _ i6, .int _ j6, .bool k6] => F1008_j4 B R i6 j6 k6 h
    | _, _ => False⟩
  | 13 => some ⟨[(0, .int .i64), (1, .int .i64), (5, .pointer 0), (7, .pointer 0), (125, .bool)], fun s v h => match s, v with
    | [], [.int _ u3, .int _ v3, .pointer w3, .pointer x3, .bool y3] => F1008_j13 B R u3 v3 w3 x3 y3 h
    | _, _ => False⟩
  | 15 => some ⟨[(0, .int .i64), (1, .int .i64), (5, .pointer 0), (7, .pointer 0), (133, .bool)], fun s v h => match s, v with
    | [], [.int _ f1, .int _ g1, .pointer i1, .pointer j1, .bool k1] => F1008_j15 B R f1 g1 i1 j1 k1 h
    | _, _ => False⟩
  | 22 => some ⟨[(26, .pointer 0), (28, .int .i64), (30, .bool), (31, .int .i64), (170, .bool)], fun s v h => match s, v with
    | [], [.pointer j0, .int _ k0, .bool l0, .int _ m0, .bool n0] => F1008_j22 B R j0 k0 l0 m0 n0 h
    | _, _ => False⟩
  | 24 => some ⟨[(30, .bool), (33, .bool)], fun s v h => match s, v with
    | [], [.bool c0, .bool d0] => F1008_j24 B R c0 d0 h
    | _, _ => False⟩
  | _ => none
theorem F1008_ok {B : World} {R : Ending → Heap → Prop} (x9 y9 : Int) {h : Heap} (H : F1008 B R x9 y9 h) : Ec B 3 #[.int .i64 x9, .int .i64 y9] R h :=
 Ej Tryz.func3 (by kernel_rfl) (by kernel_rfl) (by kernel_rfl) F1008_L (F1008_J B R) [] (by kernel_rfl) (by kernel_rfl) H

/-- plumb/bits.Same -/
def F1031 (B : World) (R : Po) (a0 b0 : Int) (h : Heap) : Prop :=
 Ec B 29 #[.int .i64 a0] (retE (fun c0 d0 => ∃ e0, c0 = .float .f64 e0 ∧
 Ec B 29 #[.int .i64 b0] (retE (fun f0 g0 => ∃ i0, f0 = .float .f64 i0 ∧
 R (.returned (.bool (FloatKind.f64.format.order e0 i0 == some .eq))) g0)
(pk R)) d0)
(pk R)) h
def F1031_L : Nat → List (Nat × TypeDesc) := fun _ => []
theorem F1031_ok {B : World} {R : Ending → Heap → Prop} (a0 b0 : Int) {h : Heap} (H : F1031 B R a0 b0 h) : Ec B 12 #[.int .i64 a0, .int .i64 b0] R h :=
 Ek Tryz.func12 (by kernel_rfl) (by kernel_rfl) (by kernel_rfl) F1031_L [] (by kernel_rfl) H
end Go.Proofs
