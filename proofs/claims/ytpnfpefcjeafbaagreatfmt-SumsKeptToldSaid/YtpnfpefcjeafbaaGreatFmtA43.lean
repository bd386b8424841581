import Derived.Test.YtpnfpefcjeafbaaGreatFmtA09
/- Here stand lemmas and contracts, in the order in which they are used. -/
set_option linter.unusedVariables false
namespace Go.Proofs
open Go Go.Eng
/-- plumb/plumblaw5.SumsKept -/
def F1379_j6 (B : World) (R : Po) (a0 : Lp) (b0 : Nat) (c0 : OA) (d0 e0 : Nat) (f0 : OA) (g0 i0 : Nat) (j0 k0 : Int) (l0 : Heap) : Prop :=
 ixW c0 d0 k0 1 fun m0 n0 =>
 iP m0 n0 fun o0 p0 => ∃ q0, cI l0 o0 p0 .i64 q0 ∧
(1099511627776 : Int) ≠ 0 ∧
 Ec B 6 #[.int .i64 (Int.tmod q0 (1099511627776 : Int)), .int .i64 (0 : Int)] (retE (fun r0 s0 => ∃ t0 u0, r0 = .tuple #[.int .i64 t0, .int .i64 u0] ∧
 alW s0 (.cells #[.int .i64 t0] 3) fun v0 w0 =>
 apW w0 f0 g0 i0 (some ⟨v0, 0, none⟩) 1 1 8 3 #[.int .i64 0] fun x0 y0 z0 a1 =>
∃ b1, b1 < b0 ∧ a0 b1 [.slice c0 d0 e0, .slice x0 y0 z0, .int .i64 (IntKind.i64.wrap (j0 + (Int.tmod q0 (1099511627776 : Int)))), .int .i64 (IntKind.i64.wrap (k0 + (1 : Int)))] a1)
(pk R)) l0
def F1379_j106 (B : World) (R : Po) (c1 : Bool) (d1 : Heap) : Prop :=
 R (.returned (.bool c1)) d1
def F1379_j96 (B : World) (R : Po) (e1 : OA) (f1 g1 : Nat) (i1 : Int) (j1 : Bool) (k1 : Heap) : Prop :=
(j1 = true →
 Ec B 13 #[.slice e1 f1 g1] (retE (fun l1 m1 => ∃ n1, l1 = .int .i64 n1 ∧
 F1379_j106 B R (decide (n1 = i1)) m1)
(pk R)) k1) ∧
(j1 = false →
 F1379_j106 B R false k1)
def F1379_j86 (B : World) (R : Po) (o1 : OA) (p1 q1 : Nat) (r1 : Int) (s1 : Bool) (t1 : Heap) : Prop :=
(s1 = true →
 Ec B 12 #[.slice o1 p1 q1] (retE (fun u1 v1 => ∃ w1, u1 = .int .i64 w1 ∧
 F1379_j96 B R o1 p1 q1 r1 (decide (w1 = r1)) v1)
(pk R)) t1) ∧
(s1 = false →
 F1379_j96 B R o1 p1 q1 r1 false t1)
def F1379_j76 (B : World) (R : Po) (x1 : OA) (y1 z1 : Nat) (a2 : Int) (b2 : Bool) (c2 : Heap) : Prop :=
(b2 = true →
 Ec B 11 #[.slice x1 y1 z1] (retE (fun d2 e2 => ∃ f2, d2 = .int .i64 f2 ∧
 F1379_j86 B R x1 y1 z1 a2 (decide (f2 = a2)) e2)
(pk R)) c2) ∧
(b2 = false →
 F1379_j86 B R x1 y1 z1 a2 false c2)
def F1379_j66 (B : World) (R : Po) (g2 : OA) (i2 j2 : Nat) (k2 : Int) (l2 : Bool) (m2 : Heap) : Prop :=
(l2 = true →
 Ec B 10 #[.slice g2 i2 j2] (retE (fun n2 o2 => ∃ p2, n2 = .int .i64 p2 ∧
 F1379_j76 B R g2 i2 j2 k2 (decide (p2 = k2)) o2)
(pk R)) m2) ∧
(l2 = false →
 F1379_j76 B R g2 i2 j2 k2 false m2)
def F1379_j56 (B : World) (R : Po) (q2 : OA) (r2 s2 : Nat) (t2 : Int) (u2 : Bool) (v2 : Heap) : Prop :=
(u2 = true →
 Ec B 9 #[.slice q2 r2 s2] (retE (fun w2 x2 => ∃ y2, w2 = .int .i64 y2 ∧
 F1379_j66 B R q2 r2 s2 t2 (decide (y2 = t2)) x2)
(pk R)) v2) ∧
(u2 = false →
 F1379_j66 B R q2 r2 s2 t2 false v2)
def F1379_j50 (B : World) (R : Po) (z2 : OA) (a3 b3 : Nat) (c3 d3 : Int) (e3 : Bool) (f3 : Heap) : Prop :=
(e3 = true →
 F1379_j56 B R z2 a3 b3 c3 (decide (d3 = c3)) f3) ∧
(e3 = false →
 F1379_j56 B R z2 a3 b3 c3 false f3)
def F1379_j182 (B : World) (R : Po) (g3 : Bool) (i3 : Heap) : Prop :=
 R (.returned (.bool g3)) i3
def F1379_j172 (B : World) (R : Po) (j3 : OA) (k3 l3 : Nat) (m3 : Int) (n3 : Bool) (o3 : Heap) : Prop :=
(n3 = true →
 Ec B 13 #[.slice j3 k3 l3] (retE (fun p3 q3 => ∃ r3, p3 = .int .i64 r3 ∧
 F1379_j182 B R (decide (r3 = m3)) q3)
(pk R)) o3) ∧
(n3 = false →
 F1379_j182 B R false o3)
def F1379_j162 (B : World) (R : Po) (s3 : OA) (t3 u3 : Nat) (v3 : Int) (w3 : Bool) (x3 : Heap) : Prop :=
(w3 = true →
 Ec B 12 #[.slice s3 t3 u3] (retE (fun y3 z3 => ∃ a4, y3 = .int .i64 a4 ∧
 F1379_j172 B R s3 t3 u3 v3 (decide (a4 = v3)) z3)
(pk R)) x3) ∧
(w3 = false →
 F1379_j172 B R s3 t3 u3 v3 false x3)
def F1379_j152 (B : World) (R : Po) (b4 : OA) (c4 d4 : Nat) (e4 : Int) (f4 : Bool) (g4 : Heap) : Prop :=
(f4 = true →
 Ec B 11 #[.slice b4 c4 d4] (retE (fun i4 j4 => ∃ k4, i4 = .int .i64 k4 ∧
 F1379_j162 B R b4 c4 d4 e4 (decide (k4 = e4)) j4)
(pk R)) g4) ∧
(f4 = false →
 F1379_j162 B R b4 c4 d4 e4 false g4)
def F1379_j142 (B : World) (R : Po) (l4 : OA) (m4 n4 : Nat) (o4 : Int) (p4 : Bool) (q4 : Heap) : Prop :=
(p4 = true →
 Ec B 10 #[.slice l4 m4 n4] (retE (fun r4 s4 => ∃ t4, r4 = .int .i64 t4 ∧
 F1379_j152 B R l4 m4 n4 o4 (decide (t4 = o4)) s4)
(pk R)) q4) ∧
(p4 = false →
 F1379_j152 B R l4 m4 n4 o4 false q4)
def F1379_j132 (B : World) (R : Po) (u4 : OA) (v4 w4 : Nat) (x4 : Int) (y4 : Bool) (z4 : Heap) : Prop :=
(y4 = true →
 Ec B 9 #[.slice u4 v4 w4] (retE (fun a5 b5 => ∃ c5, a5 = .int .i64 c5 ∧
 F1379_j142 B R u4 v4 w4 x4 (decide (c5 = x4)) b5)
(pk R)) z4) ∧
(y4 = false →
 F1379_j142 B R u4 v4 w4 x4 false z4)
def F1379_j126 (B : World) (R : Po) (d5 : OA) (e5 f5 : Nat) (g5 i5 : Int) (j5 : Bool) (k5 : Heap) : Prop :=
(j5 = true →
 F1379_j132 B R d5 e5 f5 g5 (decide (i5 = g5)) k5) ∧
(j5 = false →
 F1379_j132 B R d5 e5 f5 g5 false k5)
def F1379 (B : World) (R : Po) (l5 : OA) (m5 n5 : Nat) (h : Heap) : Prop :=
 ∃ a0 : Lp, ∃ o5, a0 o5 [.slice l5 m5 n5, .slice none 0 0, .int .i64 (0 : Int), .int .i64 (0 : Int)] h ∧
∀ (b0 : Nat) (p5 : Heap) (q5 : OA) (r5 s5 : Nat) (t5 : OA) (u5 v5 : Nat) (w5 x5 : Int), a0 b0 [.slice q5 r5 s5, .slice t5 u5 v5, .int .i64 w5, .int .i64 x5] p5 → ∀ _r : Nat → Value,
((decide (x5 < (r5 : Int))) = true →
((decide (x5 < (500 : Int))) = true →
 F1379_j6 B R a0 b0 q5 r5 s5 t5 u5 v5 w5 x5 p5) ∧
((decide (x5 < (500 : Int))) = false →
 Ec B 6 #[.int .i64 w5, .int .i64 (0 : Int)] (retE (fun y5 z5 => ∃ a6 b6, y5 = .tuple #[.int .i64 a6, .int .i64 b6] ∧
 Ec B 7 #[.slice t5 u5 v5, .int .i64 (0 : Int)] (retE (fun c6 d6 => ∃ e6 f6, c6 = .tuple #[.int .i64 e6, .int .i64 f6] ∧
 Ec B 8 #[] (retE (fun g6 i6 => ∃ j6, g6 = .bool j6 ∧
(j6 = true →
 F1379_j50 B R t5 u5 v5 a6 e6 (decide (f6 = (0 : Int))) i6) ∧
(j6 = false →
 F1379_j50 B R t5 u5 v5 a6 e6 false i6))
(pk R)) d6)
(pk R)) z5)
(pk R)) p5)) ∧
((decide (x5 < (r5 : Int))) = false →
(false = true →
 F1379_j6 B R a0 b0 q5 r5 s5 t5 u5 v5 w5 x5 p5) ∧
(false = false →
 Ec B 6 #[.int .i64 w5, .int .i64 (0 : Int)] (retE (fun k6 l6 => ∃ m6 n6, k6 = .tuple #[.int .i64 m6, .int .i64 n6] ∧
 Ec B 7 #[.slice t5 u5 v5, .int .i64 (0 : Int)] (retE (fun o6 p6 => ∃ q6 r6, o6 = .tuple #[.int .i64 q6, .int .i64 r6] ∧
 Ec B 8 #[] (retE (fun s6 t6 => ∃ u6, s6 = .bool u6 ∧
(u6 = true →
 F1379_j126 B R t5 u5 v5 m6 q6 (decide (r6 = (0 : Int))) t6) ∧
(u6 = false →
 F1379_j126 B R t5 u5 v5 m6 q6 false t6))
(pk R)) p6)
(pk R)) l6)
(pk R)) p5))
def F1379_L : Nat → List (Nat × TypeDesc) := fun i => match i with
  | 4 => [(0, .slice 0), (3, .slice 0), (4, .int .i64), (5, .int .i64)]
  | _ => []
def F1379_J (B : World) (R : Po) : Nat → Option JT := fun i => match i with
  | 6 => some ⟨[(0, .slice 0), (3, .slice 0), (4, .int .i64), (5, .int .i64)], fun s v h => match s, v with
    | [(a0, b0)], [.slice c0 d0 e0, .slice f0 g0 i0, .int _ j0, .int _ k0] => F1379_j6 B R a0 b0 c0 d0 e0 f0 g0 i0 j0 k0 h
    | _, _ => False⟩
  | _ => none
theorem F1379_ok {B : World} {R : Ending → Heap → Prop} (l5 : OA) (m5 n5 : Nat) {h : Heap} (H : F1379 B R l5 m5 n5 h) : Ec B 3 #[.slice l5 m5 n5] R h :=
 Ej Tryz.func3 (by kernel_rfl) (by kernel_rfl) (by kernel_rfl) F1379_L (F1379_J B R) [] (by kernel_rfl) (by kernel_rfl) H

/-- plumb/sums.Right -/
def F1382 (B : World) (R : Po) (a0 : OA) (b0 c0 : Nat) (h : Heap) : Prop :=
 ∃ d0 : Lp, ∃ e0, d0 e0 [.slice a0 b0 c0, .float .f64 0, .int .i64 (b0 : Int), .int .i64 (0 : Int)] h ∧
∀ (f0 : Nat) (g0 : Heap) (i0 : OA) (j0 k0 l0 : Nat) (m0 n0 : Int), d0 f0 [.slice i0 j0 k0, .float .f64 l0, .int .i64 m0, .int .i64 n0] g0 → ∀ _r : Nat → Value,
((decide (n0 < m0)) = true →
 ixW i0 j0 (IntKind.i64.wrap ((IntKind.i64.wrap ((j0 : Int) - (1 : Int))) - n0)) 1 fun o0 p0 =>
 iP o0 p0 fun q0 r0 => ∃ s0, cI g0 q0 r0 .i64 s0 ∧
 Ec B 31 #[.int .i64 s0] (retE (fun t0 u0 => ∃ v0, t0 = .float .f64 v0 ∧
 flW .f64 (FloatKind.f64.format.add l0 v0) l0 v0 fun w0 =>
∃ x0, x0 < f0 ∧ d0 x0 [.slice i0 j0 k0, .float .f64 w0, .int .i64 m0, .int .i64 (IntKind.i64.wrap (n0 + (1 : Int)))] u0)
(pk R)) g0) ∧
((decide (n0 < m0)) = false →
 Ec B 25 #[.float .f64 l0] (retE (fun y0 z0 => ∃ a1, y0 = .int .i64 a1 ∧
 R (.returned (.int .i64 a1)) z0)
(pk R)) g0)
def F1382_L : Nat → List (Nat × TypeDesc) := fun i => match i with
  | 3 => [(0, .slice 0), (3, .float .f64), (6, .int .i64), (7, .int .i64)]
  | _ => []
theorem F1382_ok {B : World} {R : Ending → Heap → Prop} (a0 : OA) (b0 c0 : Nat) {h : Heap} (H : F1382 B R a0 b0 c0 h) : Ec B 10 #[.slice a0 b0 c0] R h :=
 Ek Tryz.func10 (by kernel_rfl) (by kernel_rfl) (by kernel_rfl) F1382_L [] (by kernel_rfl) H

/-- plumb/sums.Pairs -/
def F1383 (B : World) (R : Po) (a0 : OA) (b0 c0 : Nat) (h : Heap) : Prop :=
 Ec B 30 #[.slice a0 b0 c0, .func (.func 31) #[] #[]] (retE (fun d0 e0 => ∃ f0 g0 i0, d0 = .slice f0 g0 i0 ∧
 Ec B 34 #[.slice f0 g0 i0] (retE (fun j0 k0 => ∃ l0, j0 = .float .f64 l0 ∧
 Ec B 25 #[.float .f64 l0] (retE (fun m0 n0 => ∃ o0, m0 = .int .i64 o0 ∧
 R (.returned (.int .i64 o0)) n0)
(pk R)) k0)
(pk R)) e0)
(pk R)) h
def F1383_L : Nat → List (Nat × TypeDesc) := fun _ => []
theorem F1383_ok {B : World} {R : Ending → Heap → Prop} (a0 : OA) (b0 c0 : Nat) {h : Heap} (H : F1383 B R a0 b0 c0 h) : Ec B 11 #[.slice a0 b0 c0] R h :=
 Ek Tryz.func11 (by kernel_rfl) (by kernel_rfl) (by kernel_rfl) F1383_L [] (by kernel_rfl) H

/-- plumb/sums.Kahan -/
def F1384 (B : World) (R : Po) (a0 : OA) (b0 c0 : Nat) (h : Heap) : Prop :=
 Ec B 30 #[.slice a0 b0 c0, .func (.func 31) #[] #[]] (retE (fun d0 e0 => ∃ f0 g0 i0, d0 = .slice f0 g0 i0 ∧
∃ j0 : Lp, ∃ k0, j0 k0 [.float .f64 0, .float .f64 0, .slice f0 g0 i0, .int .i64 (g0 : Int), .int .i64 (0 : Int)] e0 ∧
∀ (l0 : Nat) (m0 : Heap) (n0 o0 : Nat) (p0 : OA) (q0 r0 : Nat) (s0 t0 : Int), j0 l0 [.float .f64 n0, .float .f64 o0, .slice p0 q0 r0, .int .i64 s0, .int .i64 t0] m0 → ∀ _r : Nat → Value,
((decide (t0 < s0)) = true →
 ixW p0 q0 t0 1 fun u0 v0 =>
 iP u0 v0 fun w0 x0 => ∃ y0, cell? m0 ⟨w0, x0, none⟩ = some (.float .f64 y0) ∧
 flW .f64 (FloatKind.f64.format.sub y0 o0) y0 o0 fun z0 =>
 flW .f64 (FloatKind.f64.format.add n0 z0) n0 z0 fun a1 =>
 flW .f64 (FloatKind.f64.format.sub a1 n0) a1 n0 fun b1 =>
 flW .f64 (FloatKind.f64.format.sub b1 z0) b1 z0 fun c1 =>
∃ d1, d1 < l0 ∧ j0 d1 [.float .f64 a1, .float .f64 c1, .slice p0 q0 r0, .int .i64 s0, .int .i64 (IntKind.i64.wrap (t0 + (1 : Int)))] m0) ∧
((decide (t0 < s0)) = false →
 Ec B 25 #[.float .f64 n0] (retE (fun e1 f1 => ∃ g1, e1 = .int .i64 g1 ∧
 R (.returned (.int .i64 g1)) f1)
(pk R)) m0))
(pk R)) h
def F1384_L : Nat → List (Nat × TypeDesc) := fun i => match i with
  | 3 => [(3, .float .f64), (4, .float .f64), (10, .slice 0), (11, .int .i64), (12, .int .i64)]
  | _ => []
theorem F1384_ok {B : World} {R : Ending → Heap → Prop} (a0 : OA) (b0 c0 : Nat) {h : Heap} (H : F1384 B R a0 b0 c0 h) : Ec B 12 #[.slice a0 b0 c0] R h :=
 Ek Tryz.func12 (by kernel_rfl) (by kernel_rfl) (by kernel_rfl) F1384_L [] (by kernel_rfl) H

/-- plumb/sums.Neumaier -/
def F1385_j9 (B : World) (R : Po) (a0 : Lp) (b0 c0 d0 : Nat) (e0 : OA) (f0 g0 : Nat) (i0 j0 : Int) (k0 : Heap) : Prop :=
 ∃ l0, l0 < b0 ∧ a0 l0 [.float .f64 d0, .float .f64 c0, .slice e0 f0 g0, .int .i64 i0, .int .i64 (IntKind.i64.wrap (j0 + (1 : Int)))] k0
def F1385 (B : World) (R : Po) (m0 : OA) (n0 o0 : Nat) (h : Heap) : Prop :=
 Ec B 30 #[.slice m0 n0 o0, .func (.func 31) #[] #[]] (retE (fun p0 q0 => ∃ r0 s0 t0, p0 = .slice r0 s0 t0 ∧
∃ a0 : Lp, ∃ u0, a0 u0 [.float .f64 0, .float .f64 0, .slice r0 s0 t0, .int .i64 (s0 : Int), .int .i64 (0 : Int)] q0 ∧
∀ (b0 : Nat) (v0 : Heap) (w0 x0 : Nat) (y0 : OA) (z0 a1 : Nat) (b1 c1 : Int), a0 b0 [.float .f64 w0, .float .f64 x0, .slice y0 z0 a1, .int .i64 b1, .int .i64 c1] v0 → ∀ _r : Nat → Value,
((decide (c1 < b1)) = true →
 ixW y0 z0 c1 1 fun d1 e1 =>
 iP d1 e1 fun f1 g1 => ∃ i1, cell? v0 ⟨f1, g1, none⟩ = some (.float .f64 i1) ∧
 flW .f64 (FloatKind.f64.format.add w0 i1) w0 i1 fun j1 =>
 Ec B 35 #[.float .f64 i1] (retE (fun k1 l1 => ∃ m1, k1 = .float .f64 m1 ∧
 Ec B 35 #[.float .f64 w0] (retE (fun n1 o1 => ∃ p1, n1 = .float .f64 p1 ∧
((FloatKind.f64.format.order m1 p1 == some .lt || FloatKind.f64.format.order m1 p1 == some .eq) = true →
 flW .f64 (FloatKind.f64.format.sub w0 j1) w0 j1 fun q1 =>
 flW .f64 (FloatKind.f64.format.add q1 i1) q1 i1 fun r1 =>
 flW .f64 (FloatKind.f64.format.add x0 r1) x0 r1 fun s1 =>
 F1385_j9 B R a0 b0 s1 j1 y0 z0 a1 b1 c1 o1) ∧
((FloatKind.f64.format.order m1 p1 == some .lt || FloatKind.f64.format.order m1 p1 == some .eq) = false →
 flW .f64 (FloatKind.f64.format.sub i1 j1) i1 j1 fun t1 =>
 flW .f64 (FloatKind.f64.format.add t1 w0) t1 w0 fun u1 =>
 flW .f64 (FloatKind.f64.format.add x0 u1) x0 u1 fun v1 =>
 F1385_j9 B R a0 b0 v1 j1 y0 z0 a1 b1 c1 o1))
(pk R)) l1)
(pk R)) v0) ∧
((decide (c1 < b1)) = false →
 flW .f64 (FloatKind.f64.format.add w0 x0) w0 x0 fun w1 =>
 Ec B 25 #[.float .f64 w1] (retE (fun x1 y1 => ∃ z1, x1 = .int .i64 z1 ∧
 R (.returned (.int .i64 z1)) y1)
(pk R)) v0))
(pk R)) h
def F1385_L : Nat → List (Nat × TypeDesc) := fun i => match i with
  | 3 => [(3, .float .f64), (4, .float .f64), (9, .slice 0), (10, .int .i64), (11, .int .i64)]
  | _ => []
def F1385_J (B : World) (R : Po) : Nat → Option JT := fun i => match i with
  | 9 => some ⟨[(4, .float .f64), (7, .float .f64), (9, .slice 0), (10, .int .i64), (11, .int .i64)], fun s v h => match s, v with
    | [(a0, b0)], [.float _ c0, .float _ d0, .slice e0 f0 g0, .int _ i0, .int _ j0] => F1385_j9 B R a0 b0 c0 d0 e0 f0 g0 i0 j0 h
    | _, _ => False⟩
  | _ => none
theorem F1385_ok {B : World} {R : Ending → Heap → Prop} (m0 : OA) (n0 o0 : Nat) {h : Heap} (H : F1385 B R m0 n0 o0 h) : Ec B 13 #[.slice m0 n0 o0] R h :=
 Ej Tryz.func13 (by kernel_rfl) (by kernel_rfl) (by kernel_rfl) F1385_L (F1385_J B R) [] (by kernel_rfl) (by kernel_rfl) H

/-- plumb/sums.pairs -/
def F1389 (B : World) (R : Po) (a0 : OA) (b0 c0 : Nat) (h : Heap) : Prop :=
((decide ((b0 : Int) = (0 : Int))) = true →
 R (.returned (.float .f64 0)) h) ∧
((decide ((b0 : Int) = (0 : Int))) = false →
((decide ((b0 : Int) = (1 : Int))) = true →
 ixW a0 b0 (0 : Int) 1 fun d0 e0 =>
 iP d0 e0 fun f0 g0 => ∃ i0, cell? h ⟨f0, g0, none⟩ = some (.float .f64 i0) ∧
 flW .f64 (FloatKind.f64.format.add i0 0) i0 0 fun j0 =>
 R (.returned (.float .f64 j0)) h) ∧
((decide ((b0 : Int) = (1 : Int))) = false →
(2 : Int) ≠ 0 ∧
 slW b0 c0 none (some (.int .i64 (IntKind.i64.wrap (Int.tdiv (b0 : Int) (2 : Int))))) none fun k0 l0 m0 =>
(2 : Int) ≠ 0 ∧
 slW b0 c0 (some (.int .i64 (IntKind.i64.wrap (Int.tdiv (b0 : Int) (2 : Int))))) none none fun n0 o0 p0 =>
 Ec B 34 #[.slice (slP a0 k0 m0 1) (l0 - k0) (m0 - k0)] (retE (fun q0 r0 => ∃ s0, q0 = .float .f64 s0 ∧
 Ec B 34 #[.slice (slP a0 n0 p0 1) (o0 - n0) (p0 - n0)] (retE (fun t0 u0 => ∃ v0, t0 = .float .f64 v0 ∧
 flW .f64 (FloatKind.f64.format.add s0 v0) s0 v0 fun w0 =>
 R (.returned (.float .f64 w0)) u0)
(fun _ _ => False)) r0)
(fun _ _ => False)) h))
def F1389_L : Nat → List (Nat × TypeDesc) := fun _ => []
theorem F1389_ok {B : World} {R : Ending → Heap → Prop} (a0 : OA) (b0 c0 : Nat) {h : Heap} (H : F1389 B R a0 b0 c0 h) : Ec B 34 #[.slice a0 b0 c0] R h :=
 Ek Tryz.func34 (by kernel_rfl) (by kernel_rfl) (by kernel_rfl) F1389_L [] (by kernel_rfl) H
end Go.Proofs
