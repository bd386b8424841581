import Derived.Test.YtkfafikejdhccaaGreatDoorA20
/- Here stand lemmas: what the functions of this file come to, third part (written by program). -/
set_option linter.unusedVariables false
namespace Go.Proofs
open Go Go.Eng
/-- plumb/plumbref1.Finite -/
def F79 (B : World) (R : Po) (a0 : Int) (h : Heap) : Prop :=
 Ec B 84 #[.int .i64 a0] (retE (fun b0 c0 => ∃ d0, b0 = .int .i64 d0 ∧
 R (.returned (.bool (decide (d0 < (3 : Int))))) c0)
(pk R)) h
def F79_L : Nat → List (Nat × TypeDesc) := fun _ => []
theorem F79_ok {B : World} {R : Ending → Heap → Prop} (a0 : Int) {h : Heap} (H : F79 B R a0 h) : Ec B 79 #[.int .i64 a0] R h :=
 Ek Tryz.func79 (by kernel_rfl) (by kernel_rfl) (by kernel_rfl) F79_L [] (by kernel_rfl) H

/-- plumb/plumbref1.Class -/
def F84 (B : World) (R : Po) (a0 : Int) (h : Heap) : Prop :=
 Ec B 149 #[.int .i64 a0] (retE (fun b0 c0 => ∃ d0 e0 f0, b0 = .tuple #[.bool d0, .int .i64 e0, .int .i64 f0] ∧
 Ec B 150 #[.int .i64 e0, .int .i64 f0, .int .i64 (2047 : Int)] (retE (fun g0 i0 => ∃ j0, g0 = .int .i64 j0 ∧
 R (.returned (.int .i64 j0)) i0)
(pk R)) c0)
(pk R)) h
def F84_L : Nat → List (Nat × TypeDesc) := fun _ => []
theorem F84_ok {B : World} {R : Ending → Heap → Prop} (a0 : Int) {h : Heap} (H : F84 B R a0 h) : Ec B 84 #[.int .i64 a0] R h :=
 Ek Tryz.func84 (by kernel_rfl) (by kernel_rfl) (by kernel_rfl) F84_L [] (by kernel_rfl) H

/-- plumb/plumbref3.Same -/
def F104_j58 (B : World) (R : Po) (a0 : Lp) (b0 : Nat) (c0 d0 : OA) (e0 : Int) (f0 : Bool) (g0 : Heap) : Prop :=
(f0 = true →
 R (.returned (.bool false)) g0) ∧
(f0 = false →
 ∃ i0, i0 < b0 ∧ a0 i0 [.pointer c0, .pointer d0, .int .i64 (IntKind.i64.wrap (e0 + (1 : Int)))] g0)
def F104_j21 (B : World) (R : Po) (j0 k0 : OA) (l0 : Bool) (m0 : Heap) : Prop :=
(l0 = true →
 R (.returned (.bool false)) m0) ∧
(l0 = false →
 ∃ a0 : Lp, ∃ n0, a0 n0 [.pointer j0, .pointer k0, .int .i64 (0 : Int)] m0 ∧
∀ (b0 : Nat) (o0 : Heap) (p0 q0 : OA) (r0 : Int), a0 b0 [.pointer p0, .pointer q0, .int .i64 r0] o0 → ∀ _r : Nat → Value,
 isP p0 fun s0 t0 =>
 isP (some ⟨s0, t0 + 1, none⟩) fun u0 v0 => ∃ w0 x0 y0, cS o0 u0 v0 w0 x0 y0 ∧
((decide (r0 < (x0 : Int))) = true →
 isP p0 fun z0 a1 =>
 isP (some ⟨z0, a1 + 1, none⟩) fun b1 c1 => ∃ d1 e1 f1, cS o0 b1 c1 d1 e1 f1 ∧
 ixW d1 e1 r0 1 fun g1 i1 =>
 iP g1 i1 fun j1 k1 => ∃ l1, cI o0 j1 k1 .i64 l1 ∧
 isP q0 fun m1 n1 =>
 isP (some ⟨m1, n1 + 1, none⟩) fun o1 p1 => ∃ q1 r1 s1, cS o0 o1 p1 q1 r1 s1 ∧
 ixW q1 r1 r0 1 fun t1 u1 =>
 iP t1 u1 fun v1 w1 => ∃ x1, cI o0 v1 w1 .i64 x1 ∧
 F104_j58 B R a0 b0 p0 q0 r0 (!decide (l1 = x1)) o0) ∧
((decide (r0 < (x0 : Int))) = false →
 R (.returned (.bool true)) o0))
def F104 (B : World) (R : Po) (y1 : Bool) (z1 : OA) (a2 b2 : Nat) (c2 : Int) (d2 : Bool) (e2 : OA) (f2 g2 : Nat) (i2 : Int) (h : Heap) : Prop :=
 alW h (.cells #[.bool y1, .slice z1 a2 b2, .int .i64 c2] 29) fun j2 k2 =>
 alW k2 (.cells #[.bool d2, .slice e2 f2 g2, .int .i64 i2] 29) fun l2 m2 =>
 iP j2 0 fun n2 o2 =>
 iP n2 o2 fun p2 q2 => ∃ r2, cell? m2 ⟨p2, q2, none⟩ = some (.bool r2) ∧
 iP l2 0 fun s2 t2 =>
 iP s2 t2 fun u2 v2 => ∃ w2, cell? m2 ⟨u2, v2, none⟩ = some (.bool w2) ∧
((!(r2 == w2)) = true →
(true = true →
 F104_j21 B R (some ⟨j2, 0, none⟩) (some ⟨l2, 0, none⟩) true m2) ∧
(true = false →
 iP j2 0 fun x2 y2 =>
 isP (some ⟨x2, y2 + 1, none⟩) fun z2 a3 => ∃ b3 c3 d3, cS m2 z2 a3 b3 c3 d3 ∧
 iP l2 0 fun e3 f3 =>
 isP (some ⟨e3, f3 + 1, none⟩) fun g3 i3 => ∃ j3 k3 l3, cS m2 g3 i3 j3 k3 l3 ∧
 F104_j21 B R (some ⟨j2, 0, none⟩) (some ⟨l2, 0, none⟩) (!decide ((c3 : Int) = (k3 : Int))) m2)) ∧
((!(r2 == w2)) = false →
 iP j2 0 fun m3 n3 =>
 isP (some ⟨m3, n3 + 2, none⟩) fun o3 p3 => ∃ q3, cI m2 o3 p3 .i64 q3 ∧
 iP l2 0 fun r3 s3 =>
 isP (some ⟨r3, s3 + 2, none⟩) fun t3 u3 => ∃ v3, cI m2 t3 u3 .i64 v3 ∧
((!decide (q3 = v3)) = true →
 F104_j21 B R (some ⟨j2, 0, none⟩) (some ⟨l2, 0, none⟩) true m2) ∧
((!decide (q3 = v3)) = false →
 iP j2 0 fun w3 x3 =>
 isP (some ⟨w3, x3 + 1, none⟩) fun y3 z3 => ∃ a4 b4 c4, cS m2 y3 z3 a4 b4 c4 ∧
 iP l2 0 fun d4 e4 =>
 isP (some ⟨d4, e4 + 1, none⟩) fun f4 g4 => ∃ i4 j4 k4, cS m2 f4 g4 i4 j4 k4 ∧
 F104_j21 B R (some ⟨j2, 0, none⟩) (some ⟨l2, 0, none⟩) (!decide ((b4 : Int) = (j4 : Int))) m2))
def F104_L : Nat → List (Nat × TypeDesc) := fun i => match i with
  | 4 => [(2, .pointer 0), (3, .pointer 0), (5, .int .i64)]
  | _ => []
theorem F104_ok {B : World} {R : Ending → Heap → Prop} (y1 : Bool) (z1 : OA) (a2 b2 : Nat) (c2 : Int) (d2 : Bool) (e2 : OA) (f2 g2 : Nat) (i2 : Int) {h : Heap} (H : F104 B R y1 z1 a2 b2 c2 d2 e2 f2 g2 i2 h) : Ec B 104 #[.agg #[.bool y1, .slice z1 a2 b2, .int .i64 c2], .agg #[.bool d2, .slice e2 f2 g2, .int .i64 i2]] R h :=
 Ek Tryz.func104 (by kernel_rfl) (by kernel_rfl) (by kernel_rfl) F104_L [] (by kernel_rfl) H

/-- plumb/plumbref6.diff -/
def F110 (B : World) (R : Po) (a0 b0 : Int) (h : Heap) : Prop :=
 Ec B 157 #[.int .i64 a0, .int .i64 b0] (retE (fun c0 d0 => ∃ e0, c0 = .int .i64 e0 ∧
 R (.returned (.int .i64 e0)) d0)
(pk R)) h
def F110_L : Nat → List (Nat × TypeDesc) := fun _ => []
theorem F110_ok {B : World} {R : Ending → Heap → Prop} (a0 b0 : Int) {h : Heap} (H : F110 B R a0 b0 h) : Ec B 110 #[.int .i64 a0, .int .i64 b0] R h :=
 Ek Tryz.func110 (by kernel_rfl) (by kernel_rfl) (by kernel_rfl) F110_L [] (by kernel_rfl) H

/-- plumb/plumbref6.finite -/
def F111_j13 (B : World) (R : Po) (a0 : Bool) (b0 : Heap) : Prop :=
 R (.returned (.bool a0)) b0
def F111 (B : World) (R : Po) (c0 d0 : Int) (h : Heap) : Prop :=
 Ec B 79 #[.int .i64 c0] (retE (fun e0 f0 => ∃ g0, e0 = .bool g0 ∧
(g0 = true →
 Ec B 79 #[.int .i64 d0] (retE (fun i0 j0 => ∃ k0, i0 = .bool k0 ∧
 F111_j13 B R k0 j0)
(pk R)) f0) ∧
(g0 = false →
 F111_j13 B R false f0))
(pk R)) h
def F111_L : Nat → List (Nat × TypeDesc) := fun _ => []
theorem F111_ok {B : World} {R : Ending → Heap → Prop} (c0 d0 : Int) {h : Heap} (H : F111 B R c0 d0 h) : Ec B 111 #[.int .i64 c0, .int .i64 d0] R h :=
 Ek Tryz.func111 (by kernel_rfl) (by kernel_rfl) (by kernel_rfl) F111_L [] (by kernel_rfl) H

/-- plumb/plumbref6.just -/
def F112_j50 (B : World) (R : Po) (a0 : Bool) (b0 : Heap) : Prop :=
 R (.returned (.bool a0)) b0
def F112_j13 (B : World) (R : Po) (c0 d0 : Int) (e0 : OA) (f0 : Bool) (g0 : Heap) : Prop :=
(f0 = true →
 R (.returned (.bool false)) g0) ∧
(f0 = false →
 isP e0 fun i0 j0 =>
∃ k0, cell? g0 ⟨i0, j0, none⟩ = some (.bool k0) ∧
∃ l0 m0 n0, cell? g0 ⟨i0, j0 + 1, none⟩ = some (.slice l0 m0 n0) ∧
∃ o0, cell? g0 ⟨i0, j0 + 1 + 1, none⟩ = some (.int .i64 o0) ∧
 Ec B 114 #[.int .i64 c0] (retE (fun p0 q0 => ∃ r0 s0 t0 u0 v0, p0 = .agg #[.bool r0, .slice s0 t0 u0, .int .i64 v0] ∧
 sameCells g0 q0 i0 j0 3 ∧ Ec B 114 #[.int .i64 d0] (retE (fun w0 x0 => ∃ y0 z0 a1 b1 c1, w0 = .agg #[.bool y0, .slice z0 a1 b1, .int .i64 c1] ∧
 sameCells q0 x0 i0 j0 3 ∧ Ec B 133 #[.agg #[.bool r0, .slice s0 t0 u0, .int .i64 v0], .agg #[.bool y0, .slice z0 a1 b1, .int .i64 c1]] (retE (fun d1 e1 => ∃ f1 g1 i1 j1 k1, d1 = .agg #[.bool f1, .slice g1 i1 j1, .int .i64 k1] ∧
 sameCells x0 e1 i0 j0 3 ∧ Ec B 104 #[.agg #[.bool f1, .slice g1 i1 j1, .int .i64 k1], .agg #[.bool k0, .slice l0 m0 n0, .int .i64 o0]] (retE (fun l1 m1 => ∃ n1, l1 = .bool n1 ∧
 F112_j50 B R n1 m1)
(fun _ _ => False)) e1)
(fun _ _ => False)) x0)
(fun _ _ => False)) q0)
(fun _ _ => False)) g0)
def F112 (B : World) (R : Po) (o1 p1 : Int) (q1 : Bool) (r1 : OA) (s1 t1 : Nat) (u1 : Int) (h : Heap) : Prop :=
 alW h (.cells #[.bool q1, .slice r1 s1 t1, .int .i64 u1] 29) fun v1 w1 =>
 Ec B 79 #[.int .i64 o1] (retE (fun x1 y1 => ∃ z1, x1 = .bool z1 ∧
((!z1) = true →
 F112_j13 B R o1 p1 (some ⟨v1, 0, none⟩) true y1) ∧
((!z1) = false →
 Ec B 79 #[.int .i64 p1] (retE (fun a2 b2 => ∃ c2, a2 = .bool c2 ∧
 F112_j13 B R o1 p1 (some ⟨v1, 0, none⟩) (!c2) b2)
(pk R)) y1))
(pk R)) w1
def F112_L : Nat → List (Nat × TypeDesc) := fun _ => []
theorem F112_ok {B : World} {R : Ending → Heap → Prop} (o1 p1 : Int) (q1 : Bool) (r1 : OA) (s1 t1 : Nat) (u1 : Int) {h : Heap} (H : F112 B R o1 p1 q1 r1 s1 t1 u1 h) : Ec B 112 #[.int .i64 o1, .int .i64 p1, .agg #[.bool q1, .slice r1 s1 t1, .int .i64 u1]] R h :=
 Ek Tryz.func112 (by kernel_rfl) (by kernel_rfl) (by kernel_rfl) F112_L [] (by kernel_rfl) H

/-- plumb/plumbref3.Of -/
def F114 (B : World) (R : Po) (a0 : Int) (h : Heap) : Prop :=
 alW h (.cells #[.bool false, .slice none 0 0, .int .i64 0] 29) fun b0 c0 =>
 Ec B 160 #[.int .i64 a0] (retE (fun d0 e0 => ∃ f0 g0 i0 j0, d0 = .tuple #[.bool f0, .int .i64 g0, .int .i64 i0, .bool j0] ∧
 Ec B 161 #[.int .i64 g0] (retE (fun k0 l0 => ∃ m0 n0 o0, k0 = .slice m0 n0 o0 ∧
 Ec B 158 #[.bool f0, .slice m0 n0 o0, .int .i64 i0] (retE (fun p0 q0 => ∃ r0 s0 t0 u0 v0, p0 = .agg #[.bool r0, .slice s0 t0 u0, .int .i64 v0] ∧
 iP b0 0 fun w0 x0 => stC q0 w0 x0 (.bool r0) fun y0 =>
 stC y0 w0 (x0 + 1) (.slice s0 t0 u0) fun z0 =>
 stC z0 w0 (x0 + 1 + 1) (.int .i64 v0) fun a1 =>
 iP b0 0 fun b1 c1 =>
∃ d1, cell? a1 ⟨b1, c1, none⟩ = some (.bool d1) ∧
∃ e1 f1 g1, cell? a1 ⟨b1, c1 + 1, none⟩ = some (.slice e1 f1 g1) ∧
∃ i1, cell? a1 ⟨b1, c1 + 1 + 1, none⟩ = some (.int .i64 i1) ∧
 R (.returned (.agg #[.bool d1, .slice e1 f1 g1, .int .i64 i1])) a1)
(pk R)) l0)
(pk R)) e0)
(pk R)) c0
def F114_L : Nat → List (Nat × TypeDesc) := fun _ => []
theorem F114_ok {B : World} {R : Ending → Heap → Prop} (a0 : Int) {h : Heap} (H : F114 B R a0 h) : Ec B 114 #[.int .i64 a0] R h :=
 Ek Tryz.func114 (by kernel_rfl) (by kernel_rfl) (by kernel_rfl) F114_L [] (by kernel_rfl) H

/-- plumb/plumbref1.Join -/
def F115_j22 (B : World) (R : Po) (a0 b0 c0 : Int) (d0 : Bool) (e0 : Heap) : Prop :=
(d0 = true →
 R (.returned (.tuple #[.int .i64 (0 : Int), .bool false])) e0) ∧
(d0 = false →
((decide (b0 < (4503599627370496 : Int))) = true →
 R (.returned (.tuple #[.int .i64 (IntKind.i64.wrap (a0 + b0)), .bool true])) e0) ∧
((decide (b0 < (4503599627370496 : Int))) = false →
 R (.returned (.tuple #[.int .i64 (IntKind.i64.wrap ((IntKind.i64.wrap ((IntKind.i64.wrap (a0 + (IntKind.i64.wrap ((IntKind.i64.wrap (c0 + (1075 : Int))) * (4503599627370496 : Int))))) + b0)) - (4503599627370496 : Int))), .bool true])) e0))
def F115_j9 (B : World) (R : Po) (f0 g0 i0 : Int) (j0 : Bool) (k0 : Heap) : Prop :=
(j0 = true →
 R (.returned (.tuple #[.int .i64 (0 : Int), .bool false])) k0) ∧
(j0 = false →
((decide (f0 = (0 : Int))) = true →
 R (.returned (.tuple #[.int .i64 i0, .bool true])) k0) ∧
((decide (f0 = (0 : Int))) = false →
 Ec B 162 #[.int .i64 f0, .int .i64 g0, .int .i64 (-1074 : Int), .int .i64 (53 : Int)] (retE (fun l0 m0 => ∃ n0 o0 p0, l0 = .tuple #[.int .i64 n0, .int .i64 o0, .bool p0] ∧
((!p0) = true →
 F115_j22 B R i0 n0 o0 true m0) ∧
((!p0) = false →
 F115_j22 B R i0 n0 o0 (decide ((971 : Int) < o0)) m0))
(pk R)) k0))
def F115_j4 (B : World) (R : Po) (q0 r0 s0 : Int) (t0 : Heap) : Prop :=
((decide (q0 < (0 : Int))) = true →
(true = true →
 F115_j9 B R q0 r0 s0 true t0) ∧
(true = false →
((decide (r0 < (-2000 : Int))) = true →
 F115_j9 B R q0 r0 s0 (decide ((0 : Int) < q0)) t0) ∧
((decide (r0 < (-2000 : Int))) = false →
 F115_j9 B R q0 r0 s0 false t0))) ∧
((decide (q0 < (0 : Int))) = false →
((decide ((2000 : Int) < r0)) = true →
((decide ((0 : Int) < q0)) = true →
 F115_j9 B R q0 r0 s0 true t0) ∧
((decide ((0 : Int) < q0)) = false →
((decide (r0 < (-2000 : Int))) = true →
 F115_j9 B R q0 r0 s0 (decide ((0 : Int) < q0)) t0) ∧
((decide (r0 < (-2000 : Int))) = false →
 F115_j9 B R q0 r0 s0 false t0))) ∧
((decide ((2000 : Int) < r0)) = false →
(false = true →
 F115_j9 B R q0 r0 s0 true t0) ∧
(false = false →
((decide (r0 < (-2000 : Int))) = true →
 F115_j9 B R q0 r0 s0 (decide ((0 : Int) < q0)) t0) ∧
((decide (r0 < (-2000 : Int))) = false →
 F115_j9 B R q0 r0 s0 false t0))))
def F115 (B : World) (R : Po) (u0 : Bool) (v0 w0 : Int) (h : Heap) : Prop :=
(u0 = true →
 F115_j4 B R v0 w0 (-9223372036854775808 : Int) h) ∧
(u0 = false →
 F115_j4 B R v0 w0 (0 : Int) h)
def F115_L : Nat → List (Nat × TypeDesc) := fun _ => []
theorem F115_ok {B : World} {R : Ending → Heap → Prop} (u0 : Bool) (v0 w0 : Int) {h : Heap} (H : F115 B R u0 v0 w0 h) : Ec B 115 #[.bool u0, .int .i64 v0, .int .i64 w0] R h :=
 Ek Tryz.func115 (by kernel_rfl) (by kernel_rfl) (by kernel_rfl) F115_L [] (by kernel_rfl) H

/-- plumb/plumbref1.cut -/
def F149_j2 (B : World) (R : Po) (a0 : Int) (b0 : Bool) (c0 : Heap) : Prop :=
(4503599627370496 : Int) ≠ 0 ∧
(4503599627370496 : Int) ≠ 0 ∧
 R (.returned (.tuple #[.bool b0, .int .i64 (IntKind.i64.wrap (Int.tdiv a0 (4503599627370496 : Int))), .int .i64 (Int.tmod a0 (4503599627370496 : Int))])) c0
def F149 (B : World) (R : Po) (d0 : Int) (h : Heap) : Prop :=
((decide (d0 < (0 : Int))) = true →
 F149_j2 B R (IntKind.i64.wrap (d0 - (-9223372036854775808 : Int))) (decide (d0 < (0 : Int))) h) ∧
((decide (d0 < (0 : Int))) = false →
 F149_j2 B R d0 (decide (d0 < (0 : Int))) h)
def F149_L : Nat → List (Nat × TypeDesc) := fun _ => []
theorem F149_ok {B : World} {R : Ending → Heap → Prop} (d0 : Int) {h : Heap} (H : F149 B R d0 h) : Ec B 149 #[.int .i64 d0] R h :=
 Ek Tryz.func149 (by kernel_rfl) (by kernel_rfl) (by kernel_rfl) F149_L [] (by kernel_rfl) H

/-- plumb/plumbref1.class -/
def F150_j4 (B : World) (R : Po) (a0 b0 c0 : Int) (d0 : Bool) (e0 : Heap) : Prop :=
(d0 = true →
 R (.returned (.int .i64 (3 : Int))) e0) ∧
(d0 = false →
((decide (a0 = c0)) = true →
 R (.returned (.int .i64 (4 : Int))) e0) ∧
((decide (a0 = c0)) = false →
((decide ((0 : Int) < a0)) = true →
 R (.returned (.int .i64 (2 : Int))) e0) ∧
((decide ((0 : Int) < a0)) = false →
((decide ((0 : Int) < b0)) = true →
 R (.returned (.int .i64 (1 : Int))) e0) ∧
((decide ((0 : Int) < b0)) = false →
 R (.returned (.int .i64 (0 : Int))) e0))))
def F150 (B : World) (R : Po) (f0 g0 i0 : Int) (h : Heap) : Prop :=
((decide (f0 = i0)) = true →
 F150_j4 B R f0 g0 i0 (decide (g0 = (0 : Int))) h) ∧
((decide (f0 = i0)) = false →
 F150_j4 B R f0 g0 i0 false h)
def F150_L : Nat → List (Nat × TypeDesc) := fun _ => []
theorem F150_ok {B : World} {R : Ending → Heap → Prop} (f0 g0 i0 : Int) {h : Heap} (H : F150 B R f0 g0 i0 h) : Ec B 150 #[.int .i64 f0, .int .i64 g0, .int .i64 i0] R h :=
 Ek Tryz.func150 (by kernel_rfl) (by kernel_rfl) (by kernel_rfl) F150_L [] (by kernel_rfl) H

/-- plumb/plumbref4.Sum -/
def F155 (B : World) (R : Po) (a0 b0 : Int) (h : Heap) : Prop :=
 Ec B 186 #[] (retE (fun c0 d0 => ∃ e0 f0 g0 i0 j0, c0 = .agg #[.int .i64 e0, .int .i64 f0, .int .i64 g0, .int .i64 i0, .int .i64 j0] ∧
 Ec B 187 #[.agg #[.int .i64 e0, .int .i64 f0, .int .i64 g0, .int .i64 i0, .int .i64 j0], .int .i64 a0, .int .i64 b0, .int .i64 (0 : Int)] (retE (fun k0 l0 => ∃ m0, k0 = .int .i64 m0 ∧
 R (.returned (.int .i64 m0)) l0)
(pk R)) d0)
(pk R)) h
def F155_L : Nat → List (Nat × TypeDesc) := fun _ => []
theorem F155_ok {B : World} {R : Ending → Heap → Prop} (a0 b0 : Int) {h : Heap} (H : F155 B R a0 b0 h) : Ec B 155 #[.int .i64 a0, .int .i64 b0] R h :=
 Ek Tryz.func155 (by kernel_rfl) (by kernel_rfl) (by kernel_rfl) F155_L [] (by kernel_rfl) H

/-- plumb/plumbref4.Diff -/
def F157 (B : World) (R : Po) (a0 b0 : Int) (h : Heap) : Prop :=
 Ec B 186 #[] (retE (fun c0 d0 => ∃ e0 f0 g0 i0 j0, c0 = .agg #[.int .i64 e0, .int .i64 f0, .int .i64 g0, .int .i64 i0, .int .i64 j0] ∧
 Ec B 189 #[.agg #[.int .i64 e0, .int .i64 f0, .int .i64 g0, .int .i64 i0, .int .i64 j0], .int .i64 a0, .int .i64 b0, .int .i64 (0 : Int)] (retE (fun k0 l0 => ∃ m0, k0 = .int .i64 m0 ∧
 R (.returned (.int .i64 m0)) l0)
(pk R)) d0)
(pk R)) h
def F157_L : Nat → List (Nat × TypeDesc) := fun _ => []
theorem F157_ok {B : World} {R : Ending → Heap → Prop} (a0 b0 : Int) {h : Heap} (H : F157 B R a0 b0 h) : Ec B 157 #[.int .i64 a0, .int .i64 b0] R h :=
 Ek Tryz.func157 (by kernel_rfl) (by kernel_rfl) (by kernel_rfl) F157_L [] (by kernel_rfl) H

/-- plumb/plumbref3.Norm -/
def F158 (B : World) (R : Po) (a0 : Bool) (b0 : OA) (c0 d0 : Nat) (e0 : Int) (h : Heap) : Prop :=
 alW h (.cells #[.bool false, .slice none 0 0, .int .i64 0] 29) fun f0 g0 =>
 Ec B 190 #[.slice b0 c0 d0] (retE (fun i0 j0 => ∃ k0, i0 = .int .i64 k0 ∧
((decide (k0 < (0 : Int))) = true →
 iP f0 0 fun l0 m0 => stC j0 l0 m0 (.bool false) fun n0 =>
 stC n0 l0 (m0 + 1) (.slice none 0 0) fun o0 =>
 stC o0 l0 (m0 + 1 + 1) (.int .i64 0) fun p0 =>
 iP f0 0 fun q0 r0 =>
∃ s0, cell? p0 ⟨q0, r0, none⟩ = some (.bool s0) ∧
∃ t0 u0 v0, cell? p0 ⟨q0, r0 + 1, none⟩ = some (.slice t0 u0 v0) ∧
∃ w0, cell? p0 ⟨q0, r0 + 1 + 1, none⟩ = some (.int .i64 w0) ∧
 R (.returned (.agg #[.bool s0, .slice t0 u0 v0, .int .i64 w0])) p0) ∧
((decide (k0 < (0 : Int))) = false →
 Ec B 191 #[.slice b0 c0 d0, .int .i64 k0] (retE (fun x0 y0 => ∃ z0 a1 b1, x0 = .slice z0 a1 b1 ∧
 iP f0 0 fun c1 d1 => stC y0 c1 d1 (.bool a0) fun e1 =>
 stC e1 c1 (d1 + 1) (.slice z0 a1 b1) fun f1 =>
 stC f1 c1 (d1 + 1 + 1) (.int .i64 (IntKind.i64.wrap (e0 + k0))) fun g1 =>
 iP f0 0 fun i1 j1 =>
∃ k1, cell? g1 ⟨i1, j1, none⟩ = some (.bool k1) ∧
∃ l1 m1 n1, cell? g1 ⟨i1, j1 + 1, none⟩ = some (.slice l1 m1 n1) ∧
∃ o1, cell? g1 ⟨i1, j1 + 1 + 1, none⟩ = some (.int .i64 o1) ∧
 R (.returned (.agg #[.bool k1, .slice l1 m1 n1, .int .i64 o1])) g1)
(pk R)) j0))
(pk R)) g0
def F158_L : Nat → List (Nat × TypeDesc) := fun _ => []
theorem F158_ok {B : World} {R : Ending → Heap → Prop} (a0 : Bool) (b0 : OA) (c0 d0 : Nat) (e0 : Int) {h : Heap} (H : F158 B R a0 b0 c0 d0 e0 h) : Ec B 158 #[.bool a0, .slice b0 c0 d0, .int .i64 e0] R h :=
 Ek Tryz.func158 (by kernel_rfl) (by kernel_rfl) (by kernel_rfl) F158_L [] (by kernel_rfl) H

/-- plumb/plumbref1.Parts -/
def F160_j14 (B : World) (R : Po) (a0 : Bool) (b0 c0 d0 : Int) (e0 : Bool) (f0 : Heap) : Prop :=
(e0 = true →
 R (.returned (.tuple #[.bool a0, .int .i64 c0, .int .i64 (-1074 : Int), .bool true])) f0) ∧
(e0 = false →
((decide (d0 = (2 : Int))) = true →
 R (.returned (.tuple #[.bool a0, .int .i64 (IntKind.i64.wrap ((4503599627370496 : Int) + c0)), .int .i64 (IntKind.i64.wrap (b0 - (1075 : Int))), .bool true])) f0) ∧
((decide (d0 = (2 : Int))) = false →
 R (.returned (.tuple #[.bool false, .int .i64 (0 : Int), .int .i64 (0 : Int), .bool false])) f0))
def F160 (B : World) (R : Po) (g0 : Int) (h : Heap) : Prop :=
 Ec B 149 #[.int .i64 g0] (retE (fun i0 j0 => ∃ k0 l0 m0, i0 = .tuple #[.bool k0, .int .i64 l0, .int .i64 m0] ∧
 Ec B 84 #[.int .i64 g0] (retE (fun n0 o0 => ∃ p0, n0 = .int .i64 p0 ∧
((decide (p0 = (0 : Int))) = true →
 F160_j14 B R k0 l0 m0 p0 (decide (p0 = (0 : Int))) o0) ∧
((decide (p0 = (0 : Int))) = false →
 F160_j14 B R k0 l0 m0 p0 (decide (p0 = (1 : Int))) o0))
(pk R)) j0)
(pk R)) h
def F160_L : Nat → List (Nat × TypeDesc) := fun _ => []
theorem F160_ok {B : World} {R : Ending → Heap → Prop} (g0 : Int) {h : Heap} (H : F160 B R g0 h) : Ec B 160 #[.int .i64 g0] R h :=
 Ek Tryz.func160 (by kernel_rfl) (by kernel_rfl) (by kernel_rfl) F160_L [] (by kernel_rfl) H

/-- plumb/plumbref2.From -/
def F161 (B : World) (R : Po) (a0 : Int) (h : Heap) : Prop :=
 ∃ b0 : Lp, ∃ c0, b0 c0 [.int .i64 a0, .slice none 0 0] h ∧
∀ (d0 : Nat) (e0 : Heap) (f0 : Int) (g0 : OA) (i0 j0 : Nat), b0 d0 [.int .i64 f0, .slice g0 i0 j0] e0 → ∀ _r : Nat → Value,
((decide ((0 : Int) < f0)) = true →
(1073741824 : Int) ≠ 0 ∧
 alW e0 (.cells #[.int .i64 (Int.tmod f0 (1073741824 : Int))] 3) fun k0 l0 =>
 apW l0 g0 i0 j0 (some ⟨k0, 0, none⟩) 1 1 8 3 #[.int .i64 0] fun m0 n0 o0 p0 =>
(1073741824 : Int) ≠ 0 ∧
∃ q0, q0 < d0 ∧ b0 q0 [.int .i64 (IntKind.i64.wrap (Int.tdiv f0 (1073741824 : Int))), .slice m0 n0 o0] p0) ∧
((decide ((0 : Int) < f0)) = false →
 R (.returned (.slice g0 i0 j0)) e0)
def F161_L : Nat → List (Nat × TypeDesc) := fun i => match i with
  | 2 => [(0, .int .i64), (3, .slice 0)]
  | _ => []
theorem F161_ok {B : World} {R : Ending → Heap → Prop} (a0 : Int) {h : Heap} (H : F161 B R a0 h) : Ec B 161 #[.int .i64 a0] R h :=
 Ek Tryz.func161 (by kernel_rfl) (by kernel_rfl) (by kernel_rfl) F161_L [] (by kernel_rfl) H

/-- plumb/plumbref1.shifted -/
def F162_j36 (B : World) (R : Po) (a0 : Lp) (b0 : Nat) (c0 : Lp) (d0 : Nat) (e0 f0 g0 i0 : Int) (j0 : Bool) (k0 : Heap) : Prop :=
(j0 = true →
 ∃ l0, l0 < d0 ∧ c0 l0 [.int .i64 (IntKind.i64.wrap (e0 + e0)), .int .i64 (IntKind.i64.wrap (f0 - (1 : Int))), .int .i64 g0, .int .i64 i0] k0) ∧
(j0 = false →
 R (.returned (.tuple #[.int .i64 e0, .int .i64 f0, .bool true])) k0)
def F162_j21 (B : World) (R : Po) (a0 : Lp) (b0 : Nat) (m0 n0 o0 p0 : Int) (q0 : Bool) (r0 : Heap) : Prop :=
(q0 = true →
 R (.returned (.tuple #[.int .i64 (0 : Int), .int .i64 (0 : Int), .bool false])) r0) ∧
(q0 = false →
 ∃ c0 : Lp, ∃ s0, c0 s0 [.int .i64 m0, .int .i64 n0, .int .i64 o0, .int .i64 p0] r0 ∧
∀ (d0 : Nat) (t0 : Heap) (u0 v0 w0 x0 : Int), c0 d0 [.int .i64 u0, .int .i64 v0, .int .i64 w0, .int .i64 x0] t0 → ∀ _r : Nat → Value,
((decide (w0 < v0)) = true →
 0 ≤ (IntKind.i64.wrap (x0 - (1 : Int))) ∧
 F162_j36 B R a0 b0 c0 d0 u0 v0 w0 x0 (decide (u0 < (IntKind.i64.wrap ((1 : Int) * 2 ^ min (Int.toNat (IntKind.i64.wrap (x0 - (1 : Int)))) IntKind.i64.bits)))) t0) ∧
((decide (w0 < v0)) = false →
 F162_j36 B R a0 b0 c0 d0 u0 v0 w0 x0 false t0))
def F162_j13 (B : World) (R : Po) (a0 : Lp) (b0 : Nat) (y0 z0 a1 b1 : Int) (c1 : Bool) (d1 : Heap) : Prop :=
(c1 = true →
(2 : Int) ≠ 0 ∧
∃ e1, e1 < b0 ∧ a0 e1 [.int .i64 (IntKind.i64.wrap (Int.tdiv y0 (2 : Int))), .int .i64 (IntKind.i64.wrap (z0 + (1 : Int))), .int .i64 a1, .int .i64 b1] d1) ∧
(c1 = false →
 0 ≤ b1 ∧
((decide ((IntKind.i64.wrap ((1 : Int) * 2 ^ min (Int.toNat b1) IntKind.i64.bits)) ≤ y0)) = true →
 F162_j21 B R a0 b0 y0 z0 a1 b1 true d1) ∧
((decide ((IntKind.i64.wrap ((1 : Int) * 2 ^ min (Int.toNat b1) IntKind.i64.bits)) ≤ y0)) = false →
 F162_j21 B R a0 b0 y0 z0 a1 b1 (decide (z0 < a1)) d1))
def F162 (B : World) (R : Po) (f1 g1 i1 j1 : Int) (h : Heap) : Prop :=
 ∃ a0 : Lp, ∃ k1, a0 k1 [.int .i64 f1, .int .i64 g1, .int .i64 i1, .int .i64 j1] h ∧
∀ (b0 : Nat) (l1 : Heap) (m1 n1 o1 p1 : Int), a0 b0 [.int .i64 m1, .int .i64 n1, .int .i64 o1, .int .i64 p1] l1 → ∀ _r : Nat → Value,
((decide ((0 : Int) < m1)) = true →
(2 : Int) ≠ 0 ∧
 F162_j13 B R a0 b0 m1 n1 o1 p1 (decide ((Int.tmod m1 (2 : Int)) = (0 : Int))) l1) ∧
((decide ((0 : Int) < m1)) = false →
 F162_j13 B R a0 b0 m1 n1 o1 p1 false l1)
def F162_L : Nat → List (Nat × TypeDesc) := fun i => match i with
  | 1 => [(0, .int .i64), (1, .int .i64), (2, .int .i64), (3, .int .i64)]
  | 6 => [(0, .int .i64), (1, .int .i64), (2, .int .i64), (3, .int .i64)]
  | _ => []
theorem F162_ok {B : World} {R : Ending → Heap → Prop} (f1 g1 i1 j1 : Int) {h : Heap} (H : F162 B R f1 g1 i1 j1 h) : Ec B 162 #[.int .i64 f1, .int .i64 g1, .int .i64 i1, .int .i64 j1] R h :=
 Ek Tryz.func162 (by kernel_rfl) (by kernel_rfl) (by kernel_rfl) F162_L [] (by kernel_rfl) H

/-- plumb/plumbref2.Shl -/
def F177 (B : World) (R : Po) (a0 : OA) (b0 c0 : Nat) (d0 : Int) (h : Heap) : Prop :=
((decide ((b0 : Int) = (0 : Int))) = true →
 R (.returned (.slice none 0 0)) h) ∧
((decide ((b0 : Int) = (0 : Int))) = false →
(30 : Int) ≠ 0 ∧
0 ≤ (IntKind.i64.wrap (Int.tdiv d0 (30 : Int))) ∧ (IntKind.i64.wrap (Int.tdiv d0 (30 : Int))) ≤ (IntKind.i64.wrap (Int.tdiv d0 (30 : Int))) ∧ 8 * (IntKind.i64.wrap (Int.tdiv d0 (30 : Int))) ≤ 281474976710656 ∧ (IntKind.i64.wrap (Int.tdiv d0 (30 : Int))) < 9223372036854775808 ∧
 alW h (.cells (mkCells #[.int .i64 0] (Int.toNat (IntKind.i64.wrap (Int.tdiv d0 (30 : Int))) * 1)) 3) fun e0 f0 =>
(30 : Int) ≠ 0 ∧
0 ≤ (Int.tmod d0 (30 : Int)) ∧
∃ g0 : Lp, ∃ i0, g0 i0 [.slice a0 b0 c0, .slice (some ⟨e0, 0, none⟩) (Int.toNat (IntKind.i64.wrap (Int.tdiv d0 (30 : Int)))) (Int.toNat (IntKind.i64.wrap (Int.tdiv d0 (30 : Int)))), .int .i64 (IntKind.i64.wrap ((1 : Int) * 2 ^ min (Int.toNat (Int.tmod d0 (30 : Int))) IntKind.i64.bits)), .int .i64 (0 : Int), .int .i64 (0 : Int)] f0 ∧
∀ (j0 : Nat) (k0 : Heap) (l0 : OA) (m0 n0 : Nat) (o0 : OA) (p0 q0 : Nat) (r0 s0 t0 : Int), g0 j0 [.slice l0 m0 n0, .slice o0 p0 q0, .int .i64 r0, .int .i64 s0, .int .i64 t0] k0 → ∀ _r : Nat → Value,
((decide (t0 < (m0 : Int))) = true →
 ixW l0 m0 t0 1 fun u0 v0 =>
 iP u0 v0 fun w0 x0 => ∃ y0, cI k0 w0 x0 .i64 y0 ∧
(1073741824 : Int) ≠ 0 ∧
 alW k0 (.cells #[.int .i64 (Int.tmod (IntKind.i64.wrap ((IntKind.i64.wrap (y0 * r0)) + s0)) (1073741824 : Int))] 3) fun z0 a1 =>
 apW a1 o0 p0 q0 (some ⟨z0, 0, none⟩) 1 1 8 3 #[.int .i64 0] fun b1 c1 d1 e1 =>
(1073741824 : Int) ≠ 0 ∧
∃ f1, f1 < j0 ∧ g0 f1 [.slice l0 m0 n0, .slice b1 c1 d1, .int .i64 r0, .int .i64 (IntKind.i64.wrap (Int.tdiv (IntKind.i64.wrap ((IntKind.i64.wrap (y0 * r0)) + s0)) (1073741824 : Int))), .int .i64 (IntKind.i64.wrap (t0 + (1 : Int)))] e1) ∧
((decide (t0 < (m0 : Int))) = false →
 alW k0 (.cells #[.int .i64 s0] 3) fun g1 i1 =>
 apW i1 o0 p0 q0 (some ⟨g1, 0, none⟩) 1 1 8 3 #[.int .i64 0] fun j1 k1 l1 m1 =>
 Ec B 192 #[.slice j1 k1 l1] (retE (fun n1 o1 => ∃ p1 q1 r1, n1 = .slice p1 q1 r1 ∧
 R (.returned (.slice p1 q1 r1)) o1)
(pk R)) m1))
def F177_L : Nat → List (Nat × TypeDesc) := fun i => match i with
  | 7 => [(0, .slice 0), (5, .slice 0), (6, .int .i64), (7, .int .i64), (8, .int .i64)]
  | _ => []
theorem F177_ok {B : World} {R : Ending → Heap → Prop} (a0 : OA) (b0 c0 : Nat) (d0 : Int) {h : Heap} (H : F177 B R a0 b0 c0 d0 h) : Ec B 177 #[.slice a0 b0 c0, .int .i64 d0] R h :=
 Ek Tryz.func177 (by kernel_rfl) (by kernel_rfl) (by kernel_rfl) F177_L [] (by kernel_rfl) H

/-- plumb/plumbref2.Add -/
def F178_j37 (B : World) (R : Po) (a0 : Lp) (b0 : Nat) (c0 : OA) (d0 e0 : Nat) (f0 : OA) (g0 i0 : Nat) (j0 : OA) (k0 l0 : Nat) (m0 n0 : Int) (o0 : Heap) : Prop :=
(1073741824 : Int) ≠ 0 ∧
 alW o0 (.cells #[.int .i64 (Int.tmod n0 (1073741824 : Int))] 3) fun p0 q0 =>
 apW q0 j0 k0 l0 (some ⟨p0, 0, none⟩) 1 1 8 3 #[.int .i64 0] fun r0 s0 t0 u0 =>
(1073741824 : Int) ≠ 0 ∧
∃ v0, v0 < b0 ∧ a0 v0 [.slice c0 d0 e0, .slice f0 g0 i0, .slice r0 s0 t0, .int .i64 (IntKind.i64.wrap (Int.tdiv n0 (1073741824 : Int))), .int .i64 (IntKind.i64.wrap (m0 + (1 : Int)))] u0
def F178_j25 (B : World) (R : Po) (a0 : Lp) (b0 : Nat) (w0 : OA) (x0 y0 : Nat) (z0 : OA) (a1 b1 : Nat) (c1 : OA) (d1 e1 : Nat) (f1 g1 : Int) (i1 : Heap) : Prop :=
((decide (f1 < (a1 : Int))) = true →
 ixW z0 a1 f1 1 fun j1 k1 =>
 iP j1 k1 fun l1 m1 => ∃ n1, cI i1 l1 m1 .i64 n1 ∧
 F178_j37 B R a0 b0 w0 x0 y0 z0 a1 b1 c1 d1 e1 f1 (IntKind.i64.wrap (g1 + n1)) i1) ∧
((decide (f1 < (a1 : Int))) = false →
 F178_j37 B R a0 b0 w0 x0 y0 z0 a1 b1 c1 d1 e1 f1 g1 i1)
def F178_j12 (B : World) (R : Po) (a0 : Lp) (b0 : Nat) (o1 : OA) (p1 q1 : Nat) (r1 : OA) (s1 t1 : Nat) (u1 : OA) (v1 w1 : Nat) (x1 y1 : Int) (z1 : Bool) (a2 : Heap) : Prop :=
(z1 = true →
((decide (y1 < (p1 : Int))) = true →
 ixW o1 p1 y1 1 fun b2 c2 =>
 iP b2 c2 fun d2 e2 => ∃ f2, cI a2 d2 e2 .i64 f2 ∧
 F178_j25 B R a0 b0 o1 p1 q1 r1 s1 t1 u1 v1 w1 y1 (IntKind.i64.wrap (x1 + f2)) a2) ∧
((decide (y1 < (p1 : Int))) = false →
 F178_j25 B R a0 b0 o1 p1 q1 r1 s1 t1 u1 v1 w1 y1 x1 a2)) ∧
(z1 = false →
 R (.returned (.slice u1 v1 w1)) a2)
def F178 (B : World) (R : Po) (g2 : OA) (i2 j2 : Nat) (k2 : OA) (l2 m2 : Nat) (h : Heap) : Prop :=
 ∃ a0 : Lp, ∃ n2, a0 n2 [.slice g2 i2 j2, .slice k2 l2 m2, .slice none 0 0, .int .i64 (0 : Int), .int .i64 (0 : Int)] h ∧
∀ (b0 : Nat) (o2 : Heap) (p2 : OA) (q2 r2 : Nat) (s2 : OA) (t2 u2 : Nat) (v2 : OA) (w2 x2 : Nat) (y2 z2 : Int), a0 b0 [.slice p2 q2 r2, .slice s2 t2 u2, .slice v2 w2 x2, .int .i64 y2, .int .i64 z2] o2 → ∀ _r : Nat → Value,
((decide (z2 < (q2 : Int))) = true →
(true = true →
 F178_j12 B R a0 b0 p2 q2 r2 s2 t2 u2 v2 w2 x2 y2 z2 true o2) ∧
(true = false →
 F178_j12 B R a0 b0 p2 q2 r2 s2 t2 u2 v2 w2 x2 y2 z2 (decide ((0 : Int) < y2)) o2)) ∧
((decide (z2 < (q2 : Int))) = false →
((decide (z2 < (t2 : Int))) = true →
 F178_j12 B R a0 b0 p2 q2 r2 s2 t2 u2 v2 w2 x2 y2 z2 true o2) ∧
((decide (z2 < (t2 : Int))) = false →
 F178_j12 B R a0 b0 p2 q2 r2 s2 t2 u2 v2 w2 x2 y2 z2 (decide ((0 : Int) < y2)) o2))
def F178_L : Nat → List (Nat × TypeDesc) := fun i => match i with
  | 4 => [(0, .slice 0), (1, .slice 0), (5, .slice 0), (6, .int .i64), (7, .int .i64)]
  | _ => []
theorem F178_ok {B : World} {R : Ending → Heap → Prop} (g2 : OA) (i2 j2 : Nat) (k2 : OA) (l2 m2 : Nat) {h : Heap} (H : F178 B R g2 i2 j2 k2 l2 m2 h) : Ec B 178 #[.slice g2 i2 j2, .slice k2 l2 m2] R h :=
 Ek Tryz.func178 (by kernel_rfl) (by kernel_rfl) (by kernel_rfl) F178_L [] (by kernel_rfl) H

/-- plumb/plumbref2.Cmp -/
def F179_j36 (B : World) (R : Po) (a0 : Lp) (b0 : Nat) (c0 : OA) (d0 e0 : Nat) (f0 : OA) (g0 i0 : Nat) (j0 : Int) (k0 : Bool) (l0 : Heap) : Prop :=
(k0 = true →
 R (.returned (.int .i64 (1 : Int))) l0) ∧
(k0 = false →
 ∃ m0, m0 < b0 ∧ a0 m0 [.slice c0 d0 e0, .slice f0 g0 i0, .int .i64 (IntKind.i64.wrap (j0 - (1 : Int)))] l0)
def F179_j20 (B : World) (R : Po) (a0 : Lp) (b0 : Nat) (n0 : OA) (o0 p0 : Nat) (q0 : OA) (r0 s0 : Nat) (t0 : Int) (u0 : Bool) (v0 : Heap) : Prop :=
(u0 = true →
 R (.returned (.int .i64 (-1 : Int))) v0) ∧
(u0 = false →
 ixW n0 o0 t0 1 fun w0 x0 =>
 iP w0 x0 fun y0 z0 => ∃ a1, cI v0 y0 z0 .i64 a1 ∧
 ixW q0 r0 t0 1 fun b1 c1 =>
 iP b1 c1 fun d1 e1 => ∃ f1, cI v0 d1 e1 .i64 f1 ∧
 F179_j36 B R a0 b0 n0 o0 p0 q0 r0 s0 t0 (decide (f1 < a1)) v0)
def F179 (B : World) (R : Po) (g1 : OA) (i1 j1 : Nat) (k1 : OA) (l1 m1 : Nat) (h : Heap) : Prop :=
((!decide ((i1 : Int) = (l1 : Int))) = true →
((decide ((i1 : Int) < (l1 : Int))) = true →
 R (.returned (.int .i64 (-1 : Int))) h) ∧
((decide ((i1 : Int) < (l1 : Int))) = false →
 R (.returned (.int .i64 (1 : Int))) h)) ∧
((!decide ((i1 : Int) = (l1 : Int))) = false →
 ∃ a0 : Lp, ∃ n1, a0 n1 [.slice g1 i1 j1, .slice k1 l1 m1, .int .i64 (IntKind.i64.wrap ((i1 : Int) - (1 : Int)))] h ∧
∀ (b0 : Nat) (o1 : Heap) (p1 : OA) (q1 r1 : Nat) (s1 : OA) (t1 u1 : Nat) (v1 : Int), a0 b0 [.slice p1 q1 r1, .slice s1 t1 u1, .int .i64 v1] o1 → ∀ _r : Nat → Value,
((decide ((0 : Int) ≤ v1)) = true →
 ixW p1 q1 v1 1 fun w1 x1 =>
 iP w1 x1 fun y1 z1 => ∃ a2, cI o1 y1 z1 .i64 a2 ∧
 ixW s1 t1 v1 1 fun b2 c2 =>
 iP b2 c2 fun d2 e2 => ∃ f2, cI o1 d2 e2 .i64 f2 ∧
 F179_j20 B R a0 b0 p1 q1 r1 s1 t1 u1 v1 (decide (a2 < f2)) o1) ∧
((decide ((0 : Int) ≤ v1)) = false →
 R (.returned (.int .i64 (0 : Int))) o1))
def F179_L : Nat → List (Nat × TypeDesc) := fun i => match i with
  | 6 => [(0, .slice 0), (1, .slice 0), (5, .int .i64)]
  | _ => []
theorem F179_ok {B : World} {R : Ending → Heap → Prop} (g1 : OA) (i1 j1 : Nat) (k1 : OA) (l1 m1 : Nat) {h : Heap} (H : F179 B R g1 i1 j1 k1 l1 m1 h) : Ec B 179 #[.slice g1 i1 j1, .slice k1 l1 m1] R h :=
 Ek Tryz.func179 (by kernel_rfl) (by kernel_rfl) (by kernel_rfl) F179_L [] (by kernel_rfl) H

/-- plumb/plumbref2.Sub -/
def F180_j29 (B : World) (R : Po) (a0 : Lp) (b0 : Nat) (c0 : OA) (d0 e0 : Nat) (f0 : OA) (g0 i0 : Nat) (j0 : OA) (k0 l0 : Nat) (m0 n0 o0 : Int) (p0 : Heap) : Prop :=
 alW p0 (.cells #[.int .i64 o0] 3) fun q0 r0 =>
 apW r0 j0 k0 l0 (some ⟨q0, 0, none⟩) 1 1 8 3 #[.int .i64 0] fun s0 t0 u0 v0 =>
∃ w0, w0 < b0 ∧ a0 w0 [.slice c0 d0 e0, .slice f0 g0 i0, .slice s0 t0 u0, .int .i64 m0, .int .i64 (IntKind.i64.wrap (n0 + (1 : Int)))] v0
def F180_j22 (B : World) (R : Po) (a0 : Lp) (b0 : Nat) (x0 : OA) (y0 z0 : Nat) (a1 : OA) (b1 c1 : Nat) (d1 : OA) (e1 f1 : Nat) (g1 i1 : Int) (j1 : Heap) : Prop :=
((decide (i1 < (0 : Int))) = true →
 F180_j29 B R a0 b0 x0 y0 z0 a1 b1 c1 d1 e1 f1 (1 : Int) g1 (IntKind.i64.wrap (i1 + (1073741824 : Int))) j1) ∧
((decide (i1 < (0 : Int))) = false →
 F180_j29 B R a0 b0 x0 y0 z0 a1 b1 c1 d1 e1 f1 (0 : Int) g1 i1 j1)
def F180 (B : World) (R : Po) (k1 : OA) (l1 m1 : Nat) (n1 : OA) (o1 p1 : Nat) (h : Heap) : Prop :=
 ∃ a0 : Lp, ∃ q1, a0 q1 [.slice k1 l1 m1, .slice n1 o1 p1, .slice none 0 0, .int .i64 (0 : Int), .int .i64 (0 : Int)] h ∧
∀ (b0 : Nat) (r1 : Heap) (s1 : OA) (t1 u1 : Nat) (v1 : OA) (w1 x1 : Nat) (y1 : OA) (z1 a2 : Nat) (b2 c2 : Int), a0 b0 [.slice s1 t1 u1, .slice v1 w1 x1, .slice y1 z1 a2, .int .i64 b2, .int .i64 c2] r1 → ∀ _r : Nat → Value,
((decide (c2 < (t1 : Int))) = true →
 ixW s1 t1 c2 1 fun d2 e2 =>
 iP d2 e2 fun f2 g2 => ∃ i2, cI r1 f2 g2 .i64 i2 ∧
((decide (c2 < (w1 : Int))) = true →
 ixW v1 w1 c2 1 fun j2 k2 =>
 iP j2 k2 fun l2 m2 => ∃ n2, cI r1 l2 m2 .i64 n2 ∧
 F180_j22 B R a0 b0 s1 t1 u1 v1 w1 x1 y1 z1 a2 c2 (IntKind.i64.wrap ((IntKind.i64.wrap (i2 - b2)) - n2)) r1) ∧
((decide (c2 < (w1 : Int))) = false →
 F180_j22 B R a0 b0 s1 t1 u1 v1 w1 x1 y1 z1 a2 c2 (IntKind.i64.wrap (i2 - b2)) r1)) ∧
((decide (c2 < (t1 : Int))) = false →
 Ec B 192 #[.slice y1 z1 a2] (retE (fun o2 p2 => ∃ q2 r2 s2, o2 = .slice q2 r2 s2 ∧
 R (.returned (.slice q2 r2 s2)) p2)
(pk R)) r1)
def F180_L : Nat → List (Nat × TypeDesc) := fun i => match i with
  | 4 => [(0, .slice 0), (1, .slice 0), (5, .slice 0), (6, .int .i64), (7, .int .i64)]
  | _ => []
theorem F180_ok {B : World} {R : Ending → Heap → Prop} (k1 : OA) (l1 m1 : Nat) (n1 : OA) (o1 p1 : Nat) {h : Heap} (H : F180 B R k1 l1 m1 n1 o1 p1 h) : Ec B 180 #[.slice k1 l1 m1, .slice n1 o1 p1] R h :=
 Ek Tryz.func180 (by kernel_rfl) (by kernel_rfl) (by kernel_rfl) F180_L [] (by kernel_rfl) H

/-- plumb/plumbref4.K64 -/
def F186 (B : World) (R : Po) (h : Heap) : Prop :=
 alW h (.cells #[.int .i64 0, .int .i64 0, .int .i64 0, .int .i64 0, .int .i64 0] 166) fun a0 b0 =>
 iP a0 0 fun c0 d0 => stC b0 c0 d0 (.int .i64 (53 : Int)) fun e0 =>
 stC e0 c0 (d0 + 1) (.int .i64 (-1074 : Int)) fun f0 =>
 stC f0 c0 (d0 + 1 + 1) (.int .i64 (1024 : Int)) fun g0 =>
 stC g0 c0 (d0 + 1 + 1 + 1) (.int .i64 (9218868437227405312 : Int)) fun i0 =>
 stC i0 c0 (d0 + 1 + 1 + 1 + 1) (.int .i64 (-9223372036854775808 : Int)) fun j0 =>
 iP a0 0 fun k0 l0 =>
∃ m0, cI j0 k0 l0 .i64 m0 ∧
∃ n0, cell? j0 ⟨k0, l0 + 1, none⟩ = some (.int .i64 n0) ∧
∃ o0, cell? j0 ⟨k0, l0 + 1 + 1, none⟩ = some (.int .i64 o0) ∧
∃ p0, cell? j0 ⟨k0, l0 + 1 + 1 + 1, none⟩ = some (.int .i64 p0) ∧
∃ q0, cell? j0 ⟨k0, l0 + 1 + 1 + 1 + 1, none⟩ = some (.int .i64 q0) ∧
 R (.returned (.agg #[.int .i64 m0, .int .i64 n0, .int .i64 o0, .int .i64 p0, .int .i64 q0])) j0
def F186_L : Nat → List (Nat × TypeDesc) := fun _ => []
theorem F186_ok {B : World} {R : Ending → Heap → Prop} {h : Heap} (H : F186 B R h) : Ec B 186 #[] R h :=
 Ek Tryz.func186 (by kernel_rfl) (by kernel_rfl) (by kernel_rfl) F186_L [] (by kernel_rfl) H

/-- (plumb/plumbref4.Kind).Add -/
def F187_j57 (B : World) (R : Po) (a0 : Int) (b0 : Heap) : Prop :=
 R (.returned (.int .i64 a0)) b0
def F187 (B : World) (R : Po) (c0 d0 e0 f0 g0 i0 j0 k0 : Int) (h : Heap) : Prop :=
 alW h (.cells #[.int .i64 c0, .int .i64 d0, .int .i64 e0, .int .i64 f0, .int .i64 g0] 166) fun l0 m0 =>
 iP l0 0 fun n0 o0 =>
∃ p0, cI m0 n0 o0 .i64 p0 ∧
∃ q0, cell? m0 ⟨n0, o0 + 1, none⟩ = some (.int .i64 q0) ∧
∃ r0, cell? m0 ⟨n0, o0 + 1 + 1, none⟩ = some (.int .i64 r0) ∧
∃ s0, cell? m0 ⟨n0, o0 + 1 + 1 + 1, none⟩ = some (.int .i64 s0) ∧
∃ t0, cell? m0 ⟨n0, o0 + 1 + 1 + 1 + 1, none⟩ = some (.int .i64 t0) ∧
 iP l0 0 fun u0 v0 =>
∃ w0, cI m0 u0 v0 .i64 w0 ∧
∃ x0, cell? m0 ⟨u0, v0 + 1, none⟩ = some (.int .i64 x0) ∧
∃ y0, cell? m0 ⟨u0, v0 + 1 + 1, none⟩ = some (.int .i64 y0) ∧
∃ z0, cell? m0 ⟨u0, v0 + 1 + 1 + 1, none⟩ = some (.int .i64 z0) ∧
∃ a1, cell? m0 ⟨u0, v0 + 1 + 1 + 1 + 1, none⟩ = some (.int .i64 a1) ∧
 iP l0 0 fun b1 c1 =>
∃ d1, cI m0 b1 c1 .i64 d1 ∧
∃ e1, cell? m0 ⟨b1, c1 + 1, none⟩ = some (.int .i64 e1) ∧
∃ f1, cell? m0 ⟨b1, c1 + 1 + 1, none⟩ = some (.int .i64 f1) ∧
∃ g1, cell? m0 ⟨b1, c1 + 1 + 1 + 1, none⟩ = some (.int .i64 g1) ∧
∃ i1, cell? m0 ⟨b1, c1 + 1 + 1 + 1 + 1, none⟩ = some (.int .i64 i1) ∧
 Ec B 210 #[.agg #[.int .i64 w0, .int .i64 x0, .int .i64 y0, .int .i64 z0, .int .i64 a1], .int .i64 i0] (retE (fun j1 k1 => ∃ l1 m1 n1 o1 p1 q1 r1 s1, j1 = .agg #[.bool l1, .bool m1, .bool n1, .bool o1, .slice p1 q1 r1, .int .i64 s1] ∧
 sameCells m0 k1 b1 c1 5 ∧ sameCells m0 k1 n0 o0 5 ∧ Ec B 210 #[.agg #[.int .i64 d1, .int .i64 e1, .int .i64 f1, .int .i64 g1, .int .i64 i1], .int .i64 j0] (retE (fun t1 u1 => ∃ v1 w1 x1 y1 z1 a2 b2 c2, t1 = .agg #[.bool v1, .bool w1, .bool x1, .bool y1, .slice z1 a2 b2, .int .i64 c2] ∧
 sameCells k1 u1 n0 o0 5 ∧ Ec B 209 #[.agg #[.int .i64 p0, .int .i64 q0, .int .i64 r0, .int .i64 s0, .int .i64 t0], .agg #[.bool l1, .bool m1, .bool n1, .bool o1, .slice p1 q1 r1, .int .i64 s1], .agg #[.bool v1, .bool w1, .bool x1, .bool y1, .slice z1 a2 b2, .int .i64 c2], .int .i64 k0] (retE (fun d2 e2 => ∃ f2, d2 = .int .i64 f2 ∧
 F187_j57 B R f2 e2)
(fun _ _ => False)) u1)
(fun _ _ => False)) k1)
(fun _ _ => False)) m0
def F187_L : Nat → List (Nat × TypeDesc) := fun _ => []
theorem F187_ok {B : World} {R : Ending → Heap → Prop} (c0 d0 e0 f0 g0 i0 j0 k0 : Int) {h : Heap} (H : F187 B R c0 d0 e0 f0 g0 i0 j0 k0 h) : Ec B 187 #[.agg #[.int .i64 c0, .int .i64 d0, .int .i64 e0, .int .i64 f0, .int .i64 g0], .int .i64 i0, .int .i64 j0, .int .i64 k0] R h :=
 Ek Tryz.func187 (by kernel_rfl) (by kernel_rfl) (by kernel_rfl) F187_L [] (by kernel_rfl) H

/-- (plumb/plumbref4.Kind).Sub -/
def F189_j106 (B : World) (R : Po) (a0 : Int) (b0 : Heap) : Prop :=
 R (.returned (.int .i64 a0)) b0
def F189 (B : World) (R : Po) (c0 d0 e0 f0 g0 i0 j0 k0 : Int) (h : Heap) : Prop :=
 alW h (.cells #[.int .i64 c0, .int .i64 d0, .int .i64 e0, .int .i64 f0, .int .i64 g0] 166) fun l0 m0 =>
 iP l0 0 fun n0 o0 =>
∃ p0, cI m0 n0 o0 .i64 p0 ∧
∃ q0, cell? m0 ⟨n0, o0 + 1, none⟩ = some (.int .i64 q0) ∧
∃ r0, cell? m0 ⟨n0, o0 + 1 + 1, none⟩ = some (.int .i64 r0) ∧
∃ s0, cell? m0 ⟨n0, o0 + 1 + 1 + 1, none⟩ = some (.int .i64 s0) ∧
∃ t0, cell? m0 ⟨n0, o0 + 1 + 1 + 1 + 1, none⟩ = some (.int .i64 t0) ∧
 Ec B 210 #[.agg #[.int .i64 p0, .int .i64 q0, .int .i64 r0, .int .i64 s0, .int .i64 t0], .int .i64 j0] (retE (fun u0 v0 => ∃ w0 x0 y0 z0 a1 b1 c1 d1, u0 = .agg #[.bool w0, .bool x0, .bool y0, .bool z0, .slice a1 b1 c1, .int .i64 d1] ∧
 alW v0 (.cells #[.bool false, .bool false, .bool false, .bool false, .slice none 0 0, .int .i64 0] 182) fun e1 f1 =>
 iP e1 0 fun g1 i1 => stC f1 g1 i1 (.bool w0) fun j1 =>
 stC j1 g1 (i1 + 1) (.bool x0) fun k1 =>
 stC k1 g1 (i1 + 1 + 1) (.bool y0) fun l1 =>
 stC l1 g1 (i1 + 1 + 1 + 1) (.bool z0) fun m1 =>
 stC m1 g1 (i1 + 1 + 1 + 1 + 1) (.slice a1 b1 c1) fun n1 =>
 stC n1 g1 (i1 + 1 + 1 + 1 + 1 + 1) (.int .i64 d1) fun o1 =>
 iP e1 0 fun p1 q1 =>
 iP p1 q1 fun r1 s1 => ∃ t1, cell? o1 ⟨r1, s1, none⟩ = some (.bool t1) ∧
 iP e1 0 fun u1 v1 =>
 iP u1 v1 fun w1 x1 => stC o1 w1 x1 (.bool (!t1)) fun y1 =>
 iP e1 0 fun z1 a2 =>
 isP (some ⟨z1, a2 + 3, none⟩) fun b2 c2 =>
∃ d2, cell? y1 ⟨b2, c2, none⟩ = some (.bool d2) ∧
∃ e2 f2 g2, cell? y1 ⟨b2, c2 + 1, none⟩ = some (.slice e2 f2 g2) ∧
∃ i2, cell? y1 ⟨b2, c2 + 1 + 1, none⟩ = some (.int .i64 i2) ∧
 Ec B 213 #[.agg #[.bool d2, .slice e2 f2 g2, .int .i64 i2]] (retE (fun j2 k2 => ∃ l2 m2 n2 o2 p2, j2 = .agg #[.bool l2, .slice m2 n2 o2, .int .i64 p2] ∧
 iP e1 0 fun q2 r2 =>
 isP (some ⟨q2, r2 + 3, none⟩) fun s2 t2 => stC k2 s2 t2 (.bool l2) fun u2 =>
 stC u2 s2 (t2 + 1) (.slice m2 n2 o2) fun v2 =>
 stC v2 s2 (t2 + 1 + 1) (.int .i64 p2) fun w2 =>
 iP l0 0 fun x2 y2 =>
∃ z2, cI w2 x2 y2 .i64 z2 ∧
∃ a3, cell? w2 ⟨x2, y2 + 1, none⟩ = some (.int .i64 a3) ∧
∃ b3, cell? w2 ⟨x2, y2 + 1 + 1, none⟩ = some (.int .i64 b3) ∧
∃ c3, cell? w2 ⟨x2, y2 + 1 + 1 + 1, none⟩ = some (.int .i64 c3) ∧
∃ d3, cell? w2 ⟨x2, y2 + 1 + 1 + 1 + 1, none⟩ = some (.int .i64 d3) ∧
 iP l0 0 fun e3 f3 =>
∃ g3, cI w2 e3 f3 .i64 g3 ∧
∃ i3, cell? w2 ⟨e3, f3 + 1, none⟩ = some (.int .i64 i3) ∧
∃ j3, cell? w2 ⟨e3, f3 + 1 + 1, none⟩ = some (.int .i64 j3) ∧
∃ k3, cell? w2 ⟨e3, f3 + 1 + 1 + 1, none⟩ = some (.int .i64 k3) ∧
∃ l3, cell? w2 ⟨e3, f3 + 1 + 1 + 1 + 1, none⟩ = some (.int .i64 l3) ∧
 iP e1 0 fun m3 n3 =>
∃ o3, cell? w2 ⟨m3, n3, none⟩ = some (.bool o3) ∧
∃ p3, cell? w2 ⟨m3, n3 + 1, none⟩ = some (.bool p3) ∧
∃ q3, cell? w2 ⟨m3, n3 + 1 + 1, none⟩ = some (.bool q3) ∧
∃ r3, cell? w2 ⟨m3, n3 + 1 + 1 + 1, none⟩ = some (.bool r3) ∧
∃ s3 t3 u3, cell? w2 ⟨m3, n3 + 1 + 1 + 1 + 1, none⟩ = some (.slice s3 t3 u3) ∧
∃ v3, cell? w2 ⟨m3, n3 + 1 + 1 + 1 + 1 + 1, none⟩ = some (.int .i64 v3) ∧
 Ec B 210 #[.agg #[.int .i64 g3, .int .i64 i3, .int .i64 j3, .int .i64 k3, .int .i64 l3], .int .i64 i0] (retE (fun w3 x3 => ∃ y3 z3 a4 b4 c4 d4 e4 f4, w3 = .agg #[.bool y3, .bool z3, .bool a4, .bool b4, .slice c4 d4 e4, .int .i64 f4] ∧
 sameCells w2 x3 m3 n3 6 ∧ sameCells w2 x3 x2 y2 5 ∧ Ec B 209 #[.agg #[.int .i64 z2, .int .i64 a3, .int .i64 b3, .int .i64 c3, .int .i64 d3], .agg #[.bool y3, .bool z3, .bool a4, .bool b4, .slice c4 d4 e4, .int .i64 f4], .agg #[.bool o3, .bool p3, .bool q3, .bool r3, .slice s3 t3 u3, .int .i64 v3], .int .i64 k0] (retE (fun g4 i4 => ∃ j4, g4 = .int .i64 j4 ∧
 F189_j106 B R j4 i4)
(fun _ _ => False)) x3)
(fun _ _ => False)) w2)
(pk R)) y1)
(pk R)) m0
def F189_L : Nat → List (Nat × TypeDesc) := fun _ => []
theorem F189_ok {B : World} {R : Ending → Heap → Prop} (c0 d0 e0 f0 g0 i0 j0 k0 : Int) {h : Heap} (H : F189 B R c0 d0 e0 f0 g0 i0 j0 k0 h) : Ec B 189 #[.agg #[.int .i64 c0, .int .i64 d0, .int .i64 e0, .int .i64 f0, .int .i64 g0], .int .i64 i0, .int .i64 j0, .int .i64 k0] R h :=
 Ek Tryz.func189 (by kernel_rfl) (by kernel_rfl) (by kernel_rfl) F189_L [] (by kernel_rfl) H

/-- plumb/plumbref2.Low -/
def F190 (B : World) (R : Po) (a0 : OA) (b0 c0 : Nat) (h : Heap) : Prop :=
 ∃ d0 : Lp, ∃ e0, d0 e0 [.slice a0 b0 c0, .int .i64 (0 : Int)] h ∧
∀ (f0 : Nat) (g0 : Heap) (i0 : OA) (j0 k0 : Nat) (l0 : Int), d0 f0 [.slice i0 j0 k0, .int .i64 l0] g0 → ∀ _r : Nat → Value,
((decide (l0 < (j0 : Int))) = true →
 ixW i0 j0 l0 1 fun m0 n0 =>
 iP m0 n0 fun o0 p0 => ∃ q0, cI g0 o0 p0 .i64 q0 ∧
((!decide (q0 = (0 : Int))) = true →
 ixW i0 j0 l0 1 fun r0 s0 =>
 iP r0 s0 fun t0 u0 => ∃ v0, cI g0 t0 u0 .i64 v0 ∧
∃ w0 : Lp, ∃ x0, w0 x0 [.int .i64 (IntKind.i64.wrap ((30 : Int) * l0)), .int .i64 v0] g0 ∧
∀ (y0 : Nat) (z0 : Heap) (a1 b1 : Int), w0 y0 [.int .i64 a1, .int .i64 b1] z0 → ∀ _r : Nat → Value,
(2 : Int) ≠ 0 ∧
((decide ((Int.tmod b1 (2 : Int)) = (0 : Int))) = true →
(2 : Int) ≠ 0 ∧
∃ c1, c1 < y0 ∧ w0 c1 [.int .i64 (IntKind.i64.wrap (a1 + (1 : Int))), .int .i64 (IntKind.i64.wrap (Int.tdiv b1 (2 : Int)))] z0) ∧
((decide ((Int.tmod b1 (2 : Int)) = (0 : Int))) = false →
 R (.returned (.int .i64 a1)) z0)) ∧
((!decide (q0 = (0 : Int))) = false →
 ∃ d1, d1 < f0 ∧ d0 d1 [.slice i0 j0 k0, .int .i64 (IntKind.i64.wrap (l0 + (1 : Int)))] g0)) ∧
((decide (l0 < (j0 : Int))) = false →
 R (.returned (.int .i64 (-1 : Int))) g0)
def F190_L : Nat → List (Nat × TypeDesc) := fun i => match i with
  | 2 => [(0, .slice 0), (3, .int .i64)]
  | 7 => [(4, .int .i64), (5, .int .i64)]
  | _ => []
theorem F190_ok {B : World} {R : Ending → Heap → Prop} (a0 : OA) (b0 c0 : Nat) {h : Heap} (H : F190 B R a0 b0 c0 h) : Ec B 190 #[.slice a0 b0 c0] R h :=
 Ek Tryz.func190 (by kernel_rfl) (by kernel_rfl) (by kernel_rfl) F190_L [] (by kernel_rfl) H

/-- plumb/plumbref2.Shr -/
def F191_j28 (B : World) (R : Po) (a0 : Lp) (b0 : Nat) (c0 : OA) (d0 e0 : Nat) (f0 : OA) (g0 i0 : Nat) (j0 k0 l0 : Int) (m0 : Heap) : Prop :=
 alW m0 (.cells #[.int .i64 l0] 3) fun n0 o0 =>
 apW o0 f0 g0 i0 (some ⟨n0, 0, none⟩) 1 1 8 3 #[.int .i64 0] fun p0 q0 r0 s0 =>
∃ t0, t0 < b0 ∧ a0 t0 [.slice c0 d0 e0, .slice p0 q0 r0, .int .i64 j0, .int .i64 (IntKind.i64.wrap (k0 + (1 : Int)))] s0
def F191_j21 (B : World) (R : Po) (a0 : Lp) (b0 : Nat) (u0 : OA) (v0 w0 : Nat) (x0 : OA) (y0 z0 : Nat) (a1 b1 c1 : Int) (d1 : Heap) : Prop :=
 F191_j28 B R a0 b0 u0 v0 w0 x0 y0 z0 a1 b1 c1 d1
def F191 (B : World) (R : Po) (e1 : OA) (f1 g1 : Nat) (i1 : Int) (h : Heap) : Prop :=
(30 : Int) ≠ 0 ∧
((decide ((f1 : Int) ≤ (IntKind.i64.wrap (Int.tdiv i1 (30 : Int))))) = true →
 R (.returned (.slice none 0 0)) h) ∧
((decide ((f1 : Int) ≤ (IntKind.i64.wrap (Int.tdiv i1 (30 : Int))))) = false →
(30 : Int) ≠ 0 ∧
0 ≤ (Int.tmod i1 (30 : Int)) ∧
(30 : Int) ≠ 0 ∧
∃ a0 : Lp, ∃ j1, a0 j1 [.slice e1 f1 g1, .slice none 0 0, .int .i64 (IntKind.i64.wrap ((1 : Int) * 2 ^ min (Int.toNat (Int.tmod i1 (30 : Int))) IntKind.i64.bits)), .int .i64 (IntKind.i64.wrap (Int.tdiv i1 (30 : Int)))] h ∧
∀ (b0 : Nat) (k1 : Heap) (l1 : OA) (m1 n1 : Nat) (o1 : OA) (p1 q1 : Nat) (r1 s1 : Int), a0 b0 [.slice l1 m1 n1, .slice o1 p1 q1, .int .i64 r1, .int .i64 s1] k1 → ∀ _r : Nat → Value,
((decide (s1 < (m1 : Int))) = true →
 ixW l1 m1 s1 1 fun t1 u1 =>
 iP t1 u1 fun v1 w1 => ∃ x1, cI k1 v1 w1 .i64 x1 ∧
 r1 ≠ 0 ∧
((decide ((IntKind.i64.wrap (s1 + (1 : Int))) < (m1 : Int))) = true →
 ixW l1 m1 (IntKind.i64.wrap (s1 + (1 : Int))) 1 fun y1 z1 =>
 iP y1 z1 fun a2 b2 => ∃ c2, cI k1 a2 b2 .i64 c2 ∧
 r1 ≠ 0 ∧
 r1 ≠ 0 ∧
 F191_j21 B R a0 b0 l1 m1 n1 o1 p1 q1 r1 s1 (IntKind.i64.wrap ((IntKind.i64.wrap (Int.tdiv x1 r1)) + (IntKind.i64.wrap ((Int.tmod c2 r1) * (IntKind.i64.wrap (Int.tdiv (1073741824 : Int) r1)))))) k1) ∧
((decide ((IntKind.i64.wrap (s1 + (1 : Int))) < (m1 : Int))) = false →
 F191_j28 B R a0 b0 l1 m1 n1 o1 p1 q1 r1 s1 (IntKind.i64.wrap (Int.tdiv x1 r1)) k1)) ∧
((decide (s1 < (m1 : Int))) = false →
 Ec B 192 #[.slice o1 p1 q1] (retE (fun d2 e2 => ∃ f2 g2 i2, d2 = .slice f2 g2 i2 ∧
 R (.returned (.slice f2 g2 i2)) e2)
(pk R)) k1))
def F191_L : Nat → List (Nat × TypeDesc) := fun i => match i with
  | 6 => [(0, .slice 0), (5, .slice 0), (6, .int .i64), (7, .int .i64)]
  | _ => []
theorem F191_ok {B : World} {R : Ending → Heap → Prop} (e1 : OA) (f1 g1 : Nat) (i1 : Int) {h : Heap} (H : F191 B R e1 f1 g1 i1 h) : Ec B 191 #[.slice e1 f1 g1, .int .i64 i1] R h :=
 Ek Tryz.func191 (by kernel_rfl) (by kernel_rfl) (by kernel_rfl) F191_L [] (by kernel_rfl) H

/-- plumb/plumbref2.trim -/
def F192_j13 (B : World) (R : Po) (a0 : Lp) (b0 : Nat) (c0 : OA) (d0 e0 : Nat) (f0 : Int) (g0 : Bool) (i0 : Heap) : Prop :=
(g0 = true →
 ∃ j0, j0 < b0 ∧ a0 j0 [.slice c0 d0 e0, .int .i64 (IntKind.i64.wrap (f0 - (1 : Int)))] i0) ∧
(g0 = false →
 slW d0 e0 none (some (.int .i64 f0)) none fun k0 l0 m0 =>
 R (.returned (.slice (slP c0 k0 m0 1) (l0 - k0) (m0 - k0))) i0)
def F192 (B : World) (R : Po) (n0 : OA) (o0 p0 : Nat) (h : Heap) : Prop :=
 ∃ a0 : Lp, ∃ q0, a0 q0 [.slice n0 o0 p0, .int .i64 (o0 : Int)] h ∧
∀ (b0 : Nat) (r0 : Heap) (s0 : OA) (t0 u0 : Nat) (v0 : Int), a0 b0 [.slice s0 t0 u0, .int .i64 v0] r0 → ∀ _r : Nat → Value,
((decide ((0 : Int) < v0)) = true →
 ixW s0 t0 (IntKind.i64.wrap (v0 - (1 : Int))) 1 fun w0 x0 =>
 iP w0 x0 fun y0 z0 => ∃ a1, cI r0 y0 z0 .i64 a1 ∧
 F192_j13 B R a0 b0 s0 t0 u0 v0 (decide (a1 = (0 : Int))) r0) ∧
((decide ((0 : Int) < v0)) = false →
 F192_j13 B R a0 b0 s0 t0 u0 v0 false r0)
def F192_L : Nat → List (Nat × TypeDesc) := fun i => match i with
  | 2 => [(0, .slice 0), (3, .int .i64)]
  | _ => []
theorem F192_ok {B : World} {R : Ending → Heap → Prop} (n0 : OA) (o0 p0 : Nat) {h : Heap} (H : F192 B R n0 o0 p0 h) : Ec B 192 #[.slice n0 o0 p0] R h :=
 Ek Tryz.func192 (by kernel_rfl) (by kernel_rfl) (by kernel_rfl) F192_L [] (by kernel_rfl) H

/-- (plumb/plumbref4.Kind).plus -/
def F209_j172 (B : World) (R : Po) (a0 : Int) (b0 c0 : OA) (d0 : Bool) (e0 : Heap) : Prop :=
(d0 = true →
 isP b0 fun f0 g0 =>
∃ i0, cI e0 f0 g0 .i64 i0 ∧
∃ j0, cell? e0 ⟨f0, g0 + 1, none⟩ = some (.int .i64 j0) ∧
∃ k0, cell? e0 ⟨f0, g0 + 1 + 1, none⟩ = some (.int .i64 k0) ∧
∃ l0, cell? e0 ⟨f0, g0 + 1 + 1 + 1, none⟩ = some (.int .i64 l0) ∧
∃ m0, cell? e0 ⟨f0, g0 + 1 + 1 + 1 + 1, none⟩ = some (.int .i64 m0) ∧
 isP c0 fun n0 o0 =>
 iP n0 o0 fun p0 q0 => ∃ r0, cell? e0 ⟨p0, q0, none⟩ = some (.bool r0) ∧
 Ec B 235 #[.agg #[.int .i64 i0, .int .i64 j0, .int .i64 k0, .int .i64 l0, .int .i64 m0], .bool r0, .int .i64 (0 : Int)] (retE (fun s0 t0 => ∃ u0, s0 = .int .i64 u0 ∧
 R (.returned (.int .i64 u0)) t0)
(pk R)) e0) ∧
(d0 = false →
 isP b0 fun v0 w0 =>
∃ x0, cI e0 v0 w0 .i64 x0 ∧
∃ y0, cell? e0 ⟨v0, w0 + 1, none⟩ = some (.int .i64 y0) ∧
∃ z0, cell? e0 ⟨v0, w0 + 1 + 1, none⟩ = some (.int .i64 z0) ∧
∃ a1, cell? e0 ⟨v0, w0 + 1 + 1 + 1, none⟩ = some (.int .i64 a1) ∧
∃ b1, cell? e0 ⟨v0, w0 + 1 + 1 + 1 + 1, none⟩ = some (.int .i64 b1) ∧
 Ec B 235 #[.agg #[.int .i64 x0, .int .i64 y0, .int .i64 z0, .int .i64 a1, .int .i64 b1], .bool (decide (a0 = (1 : Int))), .int .i64 (0 : Int)] (retE (fun c1 d1 => ∃ e1, c1 = .int .i64 e1 ∧
 R (.returned (.int .i64 e1)) d1)
(pk R)) e0)
def F209_j30 (B : World) (R : Po) (f1 : Int) (g1 i1 j1 : OA) (k1 : Bool) (l1 : Heap) : Prop :=
(k1 = true →
 isP g1 fun m1 n1 =>
∃ o1, cI l1 m1 n1 .i64 o1 ∧
∃ p1, cell? l1 ⟨m1, n1 + 1, none⟩ = some (.int .i64 p1) ∧
∃ q1, cell? l1 ⟨m1, n1 + 1 + 1, none⟩ = some (.int .i64 q1) ∧
∃ r1, cell? l1 ⟨m1, n1 + 1 + 1 + 1, none⟩ = some (.int .i64 r1) ∧
∃ s1, cell? l1 ⟨m1, n1 + 1 + 1 + 1 + 1, none⟩ = some (.int .i64 s1) ∧
 Ec B 234 #[.agg #[.int .i64 o1, .int .i64 p1, .int .i64 q1, .int .i64 r1, .int .i64 s1]] (retE (fun t1 u1 => ∃ v1, t1 = .int .i64 v1 ∧
 R (.returned (.int .i64 v1)) u1)
(pk R)) l1) ∧
(k1 = false →
 isP i1 fun w1 x1 =>
 isP (some ⟨w1, x1 + 2, none⟩) fun y1 z1 => ∃ a2, cell? l1 ⟨y1, z1, none⟩ = some (.bool a2) ∧
(a2 = true →
 isP g1 fun b2 c2 =>
∃ d2, cI l1 b2 c2 .i64 d2 ∧
∃ e2, cell? l1 ⟨b2, c2 + 1, none⟩ = some (.int .i64 e2) ∧
∃ f2, cell? l1 ⟨b2, c2 + 1 + 1, none⟩ = some (.int .i64 f2) ∧
∃ g2, cell? l1 ⟨b2, c2 + 1 + 1 + 1, none⟩ = some (.int .i64 g2) ∧
∃ i2, cell? l1 ⟨b2, c2 + 1 + 1 + 1 + 1, none⟩ = some (.int .i64 i2) ∧
 isP i1 fun j2 k2 =>
 iP j2 k2 fun l2 m2 => ∃ n2, cell? l1 ⟨l2, m2, none⟩ = some (.bool n2) ∧
 isP g1 fun o2 p2 =>
 isP (some ⟨o2, p2 + 3, none⟩) fun q2 r2 => ∃ s2, cI l1 q2 r2 .i64 s2 ∧
 Ec B 235 #[.agg #[.int .i64 d2, .int .i64 e2, .int .i64 f2, .int .i64 g2, .int .i64 i2], .bool n2, .int .i64 s2] (retE (fun t2 u2 => ∃ v2, t2 = .int .i64 v2 ∧
 R (.returned (.int .i64 v2)) u2)
(pk R)) l1) ∧
(a2 = false →
 isP j1 fun w2 x2 =>
 isP (some ⟨w2, x2 + 2, none⟩) fun y2 z2 => ∃ a3, cell? l1 ⟨y2, z2, none⟩ = some (.bool a3) ∧
(a3 = true →
 isP g1 fun b3 c3 =>
∃ d3, cI l1 b3 c3 .i64 d3 ∧
∃ e3, cell? l1 ⟨b3, c3 + 1, none⟩ = some (.int .i64 e3) ∧
∃ f3, cell? l1 ⟨b3, c3 + 1 + 1, none⟩ = some (.int .i64 f3) ∧
∃ g3, cell? l1 ⟨b3, c3 + 1 + 1 + 1, none⟩ = some (.int .i64 g3) ∧
∃ i3, cell? l1 ⟨b3, c3 + 1 + 1 + 1 + 1, none⟩ = some (.int .i64 i3) ∧
 isP j1 fun j3 k3 =>
 iP j3 k3 fun l3 m3 => ∃ n3, cell? l1 ⟨l3, m3, none⟩ = some (.bool n3) ∧
 isP g1 fun o3 p3 =>
 isP (some ⟨o3, p3 + 3, none⟩) fun q3 r3 => ∃ s3, cI l1 q3 r3 .i64 s3 ∧
 Ec B 235 #[.agg #[.int .i64 d3, .int .i64 e3, .int .i64 f3, .int .i64 g3, .int .i64 i3], .bool n3, .int .i64 s3] (retE (fun t3 u3 => ∃ v3, t3 = .int .i64 v3 ∧
 R (.returned (.int .i64 v3)) u3)
(pk R)) l1) ∧
(a3 = false →
 isP i1 fun w3 x3 =>
 isP (some ⟨w3, x3 + 3, none⟩) fun y3 z3 =>
∃ a4, cell? l1 ⟨y3, z3, none⟩ = some (.bool a4) ∧
∃ b4 c4 d4, cell? l1 ⟨y3, z3 + 1, none⟩ = some (.slice b4 c4 d4) ∧
∃ e4, cell? l1 ⟨y3, z3 + 1 + 1, none⟩ = some (.int .i64 e4) ∧
 isP j1 fun f4 g4 =>
 isP (some ⟨f4, g4 + 3, none⟩) fun i4 j4 =>
∃ k4, cell? l1 ⟨i4, j4, none⟩ = some (.bool k4) ∧
∃ l4 m4 n4, cell? l1 ⟨i4, j4 + 1, none⟩ = some (.slice l4 m4 n4) ∧
∃ o4, cell? l1 ⟨i4, j4 + 1 + 1, none⟩ = some (.int .i64 o4) ∧
 Ec B 133 #[.agg #[.bool a4, .slice b4 c4 d4, .int .i64 e4], .agg #[.bool k4, .slice l4 m4 n4, .int .i64 o4]] (retE (fun p4 q4 => ∃ r4 s4 t4 u4 v4, p4 = .agg #[.bool r4, .slice s4 t4 u4, .int .i64 v4] ∧
 alW q4 (.cells #[.bool false, .slice none 0 0, .int .i64 0] 29) fun w4 x4 =>
 iP w4 0 fun y4 z4 => stC x4 y4 z4 (.bool r4) fun a5 =>
 stC a5 y4 (z4 + 1) (.slice s4 t4 u4) fun b5 =>
 stC b5 y4 (z4 + 1 + 1) (.int .i64 v4) fun c5 =>
 iP w4 0 fun d5 e5 =>
 isP (some ⟨d5, e5 + 1, none⟩) fun f5 g5 => ∃ i5 j5 k5, cS c5 f5 g5 i5 j5 k5 ∧
((decide ((j5 : Int) = (0 : Int))) = true →
 isP i1 fun l5 m5 =>
∃ n5, cell? c5 ⟨l5, m5, none⟩ = some (.bool n5) ∧
∃ o5, cell? c5 ⟨l5, m5 + 1, none⟩ = some (.bool o5) ∧
∃ p5, cell? c5 ⟨l5, m5 + 1 + 1, none⟩ = some (.bool p5) ∧
∃ q5, cell? c5 ⟨l5, m5 + 1 + 1 + 1, none⟩ = some (.bool q5) ∧
∃ r5 s5 t5, cell? c5 ⟨l5, m5 + 1 + 1 + 1 + 1, none⟩ = some (.slice r5 s5 t5) ∧
∃ u5, cell? c5 ⟨l5, m5 + 1 + 1 + 1 + 1 + 1, none⟩ = some (.int .i64 u5) ∧
 Ec B 236 #[.agg #[.bool n5, .bool o5, .bool p5, .bool q5, .slice r5 s5 t5, .int .i64 u5]] (retE (fun v5 w5 => ∃ x5, v5 = .bool x5 ∧
(x5 = true →
 isP j1 fun y5 z5 =>
∃ a6, cell? w5 ⟨y5, z5, none⟩ = some (.bool a6) ∧
∃ b6, cell? w5 ⟨y5, z5 + 1, none⟩ = some (.bool b6) ∧
∃ c6, cell? w5 ⟨y5, z5 + 1 + 1, none⟩ = some (.bool c6) ∧
∃ d6, cell? w5 ⟨y5, z5 + 1 + 1 + 1, none⟩ = some (.bool d6) ∧
∃ e6 f6 g6, cell? w5 ⟨y5, z5 + 1 + 1 + 1 + 1, none⟩ = some (.slice e6 f6 g6) ∧
∃ i6, cell? w5 ⟨y5, z5 + 1 + 1 + 1 + 1 + 1, none⟩ = some (.int .i64 i6) ∧
 Ec B 236 #[.agg #[.bool a6, .bool b6, .bool c6, .bool d6, .slice e6 f6 g6, .int .i64 i6]] (retE (fun j6 k6 => ∃ l6, j6 = .bool l6 ∧
(l6 = true →
 isP i1 fun m6 n6 =>
 iP m6 n6 fun o6 p6 => ∃ q6, cell? k6 ⟨o6, p6, none⟩ = some (.bool q6) ∧
 isP j1 fun r6 s6 =>
 iP r6 s6 fun t6 u6 => ∃ v6, cell? k6 ⟨t6, u6, none⟩ = some (.bool v6) ∧
 F209_j172 B R f1 g1 i1 (q6 == v6) k6) ∧
(l6 = false →
 F209_j172 B R f1 g1 i1 false k6))
(pk R)) w5) ∧
(x5 = false →
(false = true →
 isP i1 fun w6 x6 =>
 iP w6 x6 fun y6 z6 => ∃ a7, cell? w5 ⟨y6, z6, none⟩ = some (.bool a7) ∧
 isP j1 fun b7 c7 =>
 iP b7 c7 fun d7 e7 => ∃ f7, cell? w5 ⟨d7, e7, none⟩ = some (.bool f7) ∧
 F209_j172 B R f1 g1 i1 (a7 == f7) w5) ∧
(false = false →
 F209_j172 B R f1 g1 i1 false w5)))
(pk R)) c5) ∧
((decide ((j5 : Int) = (0 : Int))) = false →
 isP g1 fun g7 i7 =>
∃ j7, cI c5 g7 i7 .i64 j7 ∧
∃ k7, cell? c5 ⟨g7, i7 + 1, none⟩ = some (.int .i64 k7) ∧
∃ l7, cell? c5 ⟨g7, i7 + 1 + 1, none⟩ = some (.int .i64 l7) ∧
∃ m7, cell? c5 ⟨g7, i7 + 1 + 1 + 1, none⟩ = some (.int .i64 m7) ∧
∃ n7, cell? c5 ⟨g7, i7 + 1 + 1 + 1 + 1, none⟩ = some (.int .i64 n7) ∧
 iP w4 0 fun o7 p7 =>
 iP o7 p7 fun q7 r7 => ∃ s7, cell? c5 ⟨q7, r7, none⟩ = some (.bool s7) ∧
 iP w4 0 fun t7 u7 =>
 isP (some ⟨t7, u7 + 1, none⟩) fun v7 w7 => ∃ x7 y7 z7, cS c5 v7 w7 x7 y7 z7 ∧
 iP w4 0 fun a8 b8 =>
 isP (some ⟨a8, b8 + 2, none⟩) fun c8 d8 => ∃ e8, cI c5 c8 d8 .i64 e8 ∧
 Ec B 237 #[.agg #[.int .i64 j7, .int .i64 k7, .int .i64 l7, .int .i64 m7, .int .i64 n7], .bool s7, .slice x7 y7 z7, .int .i64 e8, .bool false, .int .i64 f1] (retE (fun f8 g8 => ∃ i8 j8, f8 = .tuple #[.int .i64 i8, .bool j8] ∧
 R (.returned (.int .i64 i8)) g8)
(pk R)) c5))
(pk R)) l1)))
def F209 (B : World) (R : Po) (k8 l8 m8 n8 o8 : Int) (p8 q8 r8 s8 : Bool) (t8 : OA) (u8 v8 : Nat) (w8 : Int) (x8 y8 z8 a9 : Bool) (b9 : OA) (c9 d9 : Nat) (e9 f9 : Int) (h : Heap) : Prop :=
 alW h (.cells #[.int .i64 k8, .int .i64 l8, .int .i64 m8, .int .i64 n8, .int .i64 o8] 166) fun g9 i9 =>
 alW i9 (.cells #[.bool p8, .bool q8, .bool r8, .bool s8, .slice t8 u8 v8, .int .i64 w8] 182) fun j9 k9 =>
 alW k9 (.cells #[.bool x8, .bool y8, .bool z8, .bool a9, .slice b9 c9 d9, .int .i64 e9] 182) fun l9 m9 =>
 iP j9 0 fun n9 o9 =>
 isP (some ⟨n9, o9 + 1, none⟩) fun p9 q9 => ∃ r9, cell? m9 ⟨p9, q9, none⟩ = some (.bool r9) ∧
(r9 = true →
(true = true →
 F209_j30 B R f9 (some ⟨g9, 0, none⟩) (some ⟨j9, 0, none⟩) (some ⟨l9, 0, none⟩) true m9) ∧
(true = false →
 iP j9 0 fun s9 t9 =>
 isP (some ⟨s9, t9 + 2, none⟩) fun u9 v9 => ∃ w9, cell? m9 ⟨u9, v9, none⟩ = some (.bool w9) ∧
(w9 = true →
 iP l9 0 fun x9 y9 =>
 isP (some ⟨x9, y9 + 2, none⟩) fun z9 a10 => ∃ b10, cell? m9 ⟨z9, a10, none⟩ = some (.bool b10) ∧
(b10 = true →
 iP j9 0 fun c10 d10 =>
 iP c10 d10 fun e10 f10 => ∃ g10, cell? m9 ⟨e10, f10, none⟩ = some (.bool g10) ∧
 iP l9 0 fun i10 j10 =>
 iP i10 j10 fun k10 l10 => ∃ m10, cell? m9 ⟨k10, l10, none⟩ = some (.bool m10) ∧
 F209_j30 B R f9 (some ⟨g9, 0, none⟩) (some ⟨j9, 0, none⟩) (some ⟨l9, 0, none⟩) (!(g10 == m10)) m9) ∧
(b10 = false →
 F209_j30 B R f9 (some ⟨g9, 0, none⟩) (some ⟨j9, 0, none⟩) (some ⟨l9, 0, none⟩) false m9)) ∧
(w9 = false →
(false = true →
 iP j9 0 fun n10 o10 =>
 iP n10 o10 fun p10 q10 => ∃ r10, cell? m9 ⟨p10, q10, none⟩ = some (.bool r10) ∧
 iP l9 0 fun s10 t10 =>
 iP s10 t10 fun u10 v10 => ∃ w10, cell? m9 ⟨u10, v10, none⟩ = some (.bool w10) ∧
 F209_j30 B R f9 (some ⟨g9, 0, none⟩) (some ⟨j9, 0, none⟩) (some ⟨l9, 0, none⟩) (!(r10 == w10)) m9) ∧
(false = false →
 F209_j30 B R f9 (some ⟨g9, 0, none⟩) (some ⟨j9, 0, none⟩) (some ⟨l9, 0, none⟩) false m9)))) ∧
(r9 = false →
 iP l9 0 fun x10 y10 =>
 isP (some ⟨x10, y10 + 1, none⟩) fun z10 a11 => ∃ b11, cell? m9 ⟨z10, a11, none⟩ = some (.bool b11) ∧
(b11 = true →
 F209_j30 B R f9 (some ⟨g9, 0, none⟩) (some ⟨j9, 0, none⟩) (some ⟨l9, 0, none⟩) true m9) ∧
(b11 = false →
 iP j9 0 fun c11 d11 =>
 isP (some ⟨c11, d11 + 2, none⟩) fun e11 f11 => ∃ g11, cell? m9 ⟨e11, f11, none⟩ = some (.bool g11) ∧
(g11 = true →
 iP l9 0 fun i11 j11 =>
 isP (some ⟨i11, j11 + 2, none⟩) fun k11 l11 => ∃ m11, cell? m9 ⟨k11, l11, none⟩ = some (.bool m11) ∧
(m11 = true →
 iP j9 0 fun n11 o11 =>
 iP n11 o11 fun p11 q11 => ∃ r11, cell? m9 ⟨p11, q11, none⟩ = some (.bool r11) ∧
 iP l9 0 fun s11 t11 =>
 iP s11 t11 fun u11 v11 => ∃ w11, cell? m9 ⟨u11, v11, none⟩ = some (.bool w11) ∧
 F209_j30 B R f9 (some ⟨g9, 0, none⟩) (some ⟨j9, 0, none⟩) (some ⟨l9, 0, none⟩) (!(r11 == w11)) m9) ∧
(m11 = false →
 F209_j30 B R f9 (some ⟨g9, 0, none⟩) (some ⟨j9, 0, none⟩) (some ⟨l9, 0, none⟩) false m9)) ∧
(g11 = false →
(false = true →
 iP j9 0 fun x11 y11 =>
 iP x11 y11 fun z11 a12 => ∃ b12, cell? m9 ⟨z11, a12, none⟩ = some (.bool b12) ∧
 iP l9 0 fun c12 d12 =>
 iP c12 d12 fun e12 f12 => ∃ g12, cell? m9 ⟨e12, f12, none⟩ = some (.bool g12) ∧
 F209_j30 B R f9 (some ⟨g9, 0, none⟩) (some ⟨j9, 0, none⟩) (some ⟨l9, 0, none⟩) (!(b12 == g12)) m9) ∧
(false = false →
 F209_j30 B R f9 (some ⟨g9, 0, none⟩) (some ⟨j9, 0, none⟩) (some ⟨l9, 0, none⟩) false m9))))
def F209_L : Nat → List (Nat × TypeDesc) := fun _ => []
theorem F209_ok {B : World} {R : Ending → Heap → Prop} (k8 l8 m8 n8 o8 : Int) (p8 q8 r8 s8 : Bool) (t8 : OA) (u8 v8 : Nat) (w8 : Int) (x8 y8 z8 a9 : Bool) (b9 : OA) (c9 d9 : Nat) (e9 f9 : Int) {h : Heap} (H : F209 B R k8 l8 m8 n8 o8 p8 q8 r8 s8 t8 u8 v8 w8 x8 y8 z8 a9 b9 c9 d9 e9 f9 h) : Ec B 209 #[.agg #[.int .i64 k8, .int .i64 l8, .int .i64 m8, .int .i64 n8, .int .i64 o8], .agg #[.bool p8, .bool q8, .bool r8, .bool s8, .slice t8 u8 v8, .int .i64 w8], .agg #[.bool x8, .bool y8, .bool z8, .bool a9, .slice b9 c9 d9, .int .i64 e9], .int .i64 f9] R h :=
 Ek Tryz.func209 (by kernel_rfl) (by kernel_rfl) (by kernel_rfl) F209_L [] (by kernel_rfl) H

/-- (plumb/plumbref4.Kind).Look -/
def F210_j117 (B : World) (R : Po) (a0 b0 : OA) (c0 : Heap) : Prop :=
 isP b0 fun d0 e0 =>
∃ f0, cell? c0 ⟨d0, e0, none⟩ = some (.bool f0) ∧
∃ g0, cell? c0 ⟨d0, e0 + 1, none⟩ = some (.bool g0) ∧
∃ i0, cell? c0 ⟨d0, e0 + 1 + 1, none⟩ = some (.bool i0) ∧
∃ j0, cell? c0 ⟨d0, e0 + 1 + 1 + 1, none⟩ = some (.bool j0) ∧
∃ k0 l0 m0, cell? c0 ⟨d0, e0 + 1 + 1 + 1 + 1, none⟩ = some (.slice k0 l0 m0) ∧
∃ n0, cell? c0 ⟨d0, e0 + 1 + 1 + 1 + 1 + 1, none⟩ = some (.int .i64 n0) ∧
 isP a0 fun o0 p0 => stC c0 o0 p0 (.bool f0) fun q0 =>
 stC q0 o0 (p0 + 1) (.bool g0) fun r0 =>
 stC r0 o0 (p0 + 1 + 1) (.bool i0) fun s0 =>
 stC s0 o0 (p0 + 1 + 1 + 1) (.bool j0) fun t0 =>
 stC t0 o0 (p0 + 1 + 1 + 1 + 1) (.slice k0 l0 m0) fun u0 =>
 stC u0 o0 (p0 + 1 + 1 + 1 + 1 + 1) (.int .i64 n0) fun v0 =>
 isP a0 fun w0 x0 =>
∃ y0, cell? v0 ⟨w0, x0, none⟩ = some (.bool y0) ∧
∃ z0, cell? v0 ⟨w0, x0 + 1, none⟩ = some (.bool z0) ∧
∃ a1, cell? v0 ⟨w0, x0 + 1 + 1, none⟩ = some (.bool a1) ∧
∃ b1, cell? v0 ⟨w0, x0 + 1 + 1 + 1, none⟩ = some (.bool b1) ∧
∃ c1 d1 e1, cell? v0 ⟨w0, x0 + 1 + 1 + 1 + 1, none⟩ = some (.slice c1 d1 e1) ∧
∃ f1, cell? v0 ⟨w0, x0 + 1 + 1 + 1 + 1 + 1, none⟩ = some (.int .i64 f1) ∧
 R (.returned (.agg #[.bool y0, .bool z0, .bool a1, .bool b1, .slice c1 d1 e1, .int .i64 f1])) v0
def F210_j97 (B : World) (R : Po) (g1 : Int) (i1 j1 : OA) (k1 : Bool) (l1 : Heap) : Prop :=
(k1 = true →
 Ec B 239 #[.int .i64 g1] (retE (fun m1 n1 => ∃ o1 p1 q1 r1 s1, m1 = .agg #[.bool o1, .slice p1 q1 r1, .int .i64 s1] ∧
 isP j1 fun t1 u1 =>
 isP (some ⟨t1, u1 + 3, none⟩) fun v1 w1 => stC n1 v1 w1 (.bool o1) fun x1 =>
 stC x1 v1 (w1 + 1) (.slice p1 q1 r1) fun y1 =>
 stC y1 v1 (w1 + 1 + 1) (.int .i64 s1) fun z1 =>
 F210_j117 B R i1 j1 z1)
(pk R)) l1) ∧
(k1 = false →
 F210_j117 B R i1 j1 l1)
def F210_j85 (B : World) (R : Po) (a2 : Int) (b2 c2 : OA) (d2 : Int) (e2 : OA) (f2 : Heap) : Prop :=
((decide (d2 < (3 : Int))) = true →
 isP b2 fun g2 i2 =>
 iP g2 i2 fun j2 k2 => ∃ l2, cI f2 j2 k2 .i64 l2 ∧
 F210_j97 B R a2 c2 e2 (decide (l2 = (24 : Int))) f2) ∧
((decide (d2 < (3 : Int))) = false →
 F210_j97 B R a2 c2 e2 false f2)
def F210_j63 (B : World) (R : Po) (m2 : Int) (n2 o2 : OA) (p2 : Int) (q2 : OA) (r2 : Bool) (s2 : Heap) : Prop :=
(r2 = true →
 Ec B 114 #[.int .i64 m2] (retE (fun t2 u2 => ∃ v2 w2 x2 y2 z2, t2 = .agg #[.bool v2, .slice w2 x2 y2, .int .i64 z2] ∧
 isP q2 fun a3 b3 =>
 isP (some ⟨a3, b3 + 3, none⟩) fun c3 d3 => stC u2 c3 d3 (.bool v2) fun e3 =>
 stC e3 c3 (d3 + 1) (.slice w2 x2 y2) fun f3 =>
 stC f3 c3 (d3 + 1 + 1) (.int .i64 z2) fun g3 =>
 F210_j85 B R m2 n2 o2 p2 q2 g3)
(pk R)) s2) ∧
(r2 = false →
 F210_j85 B R m2 n2 o2 p2 q2 s2)
def F210_j41 (B : World) (R : Po) (i3 : Int) (j3 k3 : OA) (l3 : Int) (m3 : OA) (n3 : Heap) : Prop :=
 isP m3 fun o3 p3 =>
 isP (some ⟨o3, p3 + 1, none⟩) fun q3 r3 => stC n3 q3 r3 (.bool (decide (l3 = (4 : Int)))) fun s3 =>
 isP m3 fun t3 u3 =>
 isP (some ⟨t3, u3 + 2, none⟩) fun v3 w3 => stC s3 v3 w3 (.bool (decide (l3 = (3 : Int)))) fun x3 =>
((decide (l3 < (3 : Int))) = true →
 isP j3 fun y3 z3 =>
 iP y3 z3 fun a4 b4 => ∃ c4, cI x3 a4 b4 .i64 c4 ∧
 F210_j63 B R i3 j3 k3 l3 m3 (decide (c4 = (53 : Int))) x3) ∧
((decide (l3 < (3 : Int))) = false →
 F210_j63 B R i3 j3 k3 l3 m3 false x3)
def F210 (B : World) (R : Po) (d4 e4 f4 g4 i4 j4 : Int) (h : Heap) : Prop :=
 alW h (.cells #[.int .i64 d4, .int .i64 e4, .int .i64 f4, .int .i64 g4, .int .i64 i4] 166) fun k4 l4 =>
 alW l4 (.cells #[.bool false, .bool false, .bool false, .bool false, .slice none 0 0, .int .i64 0] 182) fun m4 n4 =>
 Ec B 84 #[.int .i64 j4] (retE (fun o4 p4 => ∃ q4, o4 = .int .i64 q4 ∧
 alW p4 (.cells #[.bool false, .bool false, .bool false, .bool false, .slice none 0 0, .int .i64 0] 182) fun r4 s4 =>
 iP r4 0 fun t4 u4 => stC s4 t4 u4 (.bool (decide (j4 < (0 : Int)))) fun v4 =>
 stC v4 t4 (u4 + 1) (.bool false) fun w4 =>
 stC w4 t4 (u4 + 1 + 1) (.bool false) fun x4 =>
 stC x4 t4 (u4 + 1 + 1 + 1) (.bool false) fun y4 =>
 stC y4 t4 (u4 + 1 + 1 + 1 + 1) (.slice none 0 0) fun z4 =>
 stC z4 t4 (u4 + 1 + 1 + 1 + 1 + 1) (.int .i64 0) fun a5 =>
 iP k4 0 fun b5 c5 =>
 iP b5 c5 fun d5 e5 => ∃ f5, cI a5 d5 e5 .i64 f5 ∧
((decide (f5 = (24 : Int))) = true →
 Ec B 238 #[.int .i64 j4] (retE (fun g5 i5 => ∃ j5, g5 = .int .i64 j5 ∧
 iP r4 0 fun k5 l5 =>
 iP k5 l5 fun m5 n5 => stC i5 m5 n5 (.bool (decide ((2147483648 : Int) ≤ j4))) fun o5 =>
 F210_j41 B R j4 (some ⟨k4, 0, none⟩) (some ⟨m4, 0, none⟩) j5 (some ⟨r4, 0, none⟩) o5)
(pk R)) a5) ∧
((decide (f5 = (24 : Int))) = false →
 F210_j41 B R j4 (some ⟨k4, 0, none⟩) (some ⟨m4, 0, none⟩) q4 (some ⟨r4, 0, none⟩) a5))
(pk R)) n4
def F210_L : Nat → List (Nat × TypeDesc) := fun _ => []
theorem F210_ok {B : World} {R : Ending → Heap → Prop} (d4 e4 f4 g4 i4 j4 : Int) {h : Heap} (H : F210 B R d4 e4 f4 g4 i4 j4 h) : Ec B 210 #[.agg #[.int .i64 d4, .int .i64 e4, .int .i64 f4, .int .i64 g4, .int .i64 i4], .int .i64 j4] R h :=
 Ek Tryz.func210 (by kernel_rfl) (by kernel_rfl) (by kernel_rfl) F210_L [] (by kernel_rfl) H

/-- plumb/plumbref3.Neg -/
def F213_j23 (B : World) (R : Po) (a0 b0 : OA) (c0 : Heap) : Prop :=
 isP a0 fun d0 e0 =>
∃ f0, cell? c0 ⟨d0, e0, none⟩ = some (.bool f0) ∧
∃ g0 i0 j0, cell? c0 ⟨d0, e0 + 1, none⟩ = some (.slice g0 i0 j0) ∧
∃ k0, cell? c0 ⟨d0, e0 + 1 + 1, none⟩ = some (.int .i64 k0) ∧
 isP b0 fun l0 m0 => stC c0 l0 m0 (.bool f0) fun n0 =>
 stC n0 l0 (m0 + 1) (.slice g0 i0 j0) fun o0 =>
 stC o0 l0 (m0 + 1 + 1) (.int .i64 k0) fun p0 =>
 isP b0 fun q0 r0 =>
∃ s0, cell? p0 ⟨q0, r0, none⟩ = some (.bool s0) ∧
∃ t0 u0 v0, cell? p0 ⟨q0, r0 + 1, none⟩ = some (.slice t0 u0 v0) ∧
∃ w0, cell? p0 ⟨q0, r0 + 1 + 1, none⟩ = some (.int .i64 w0) ∧
 R (.returned (.agg #[.bool s0, .slice t0 u0 v0, .int .i64 w0])) p0
def F213 (B : World) (R : Po) (x0 : Bool) (y0 : OA) (z0 a1 : Nat) (b1 : Int) (h : Heap) : Prop :=
 alW h (.cells #[.bool x0, .slice y0 z0 a1, .int .i64 b1] 29) fun c1 d1 =>
 alW d1 (.cells #[.bool false, .slice none 0 0, .int .i64 0] 29) fun e1 f1 =>
 iP c1 0 fun g1 i1 =>
 isP (some ⟨g1, i1 + 1, none⟩) fun j1 k1 => ∃ l1 m1 n1, cS f1 j1 k1 l1 m1 n1 ∧
((decide ((0 : Int) < (m1 : Int))) = true →
 iP c1 0 fun o1 p1 =>
 iP o1 p1 fun q1 r1 => ∃ s1, cell? f1 ⟨q1, r1, none⟩ = some (.bool s1) ∧
 iP c1 0 fun t1 u1 =>
 iP t1 u1 fun v1 w1 => stC f1 v1 w1 (.bool (!s1)) fun x1 =>
 F213_j23 B R (some ⟨c1, 0, none⟩) (some ⟨e1, 0, none⟩) x1) ∧
((decide ((0 : Int) < (m1 : Int))) = false →
 F213_j23 B R (some ⟨c1, 0, none⟩) (some ⟨e1, 0, none⟩) f1)
def F213_L : Nat → List (Nat × TypeDesc) := fun _ => []
theorem F213_ok {B : World} {R : Ending → Heap → Prop} (x0 : Bool) (y0 : OA) (z0 a1 : Nat) (b1 : Int) {h : Heap} (H : F213 B R x0 y0 z0 a1 b1 h) : Ec B 213 #[.agg #[.bool x0, .slice y0 z0 a1, .int .i64 b1]] R h :=
 Ek Tryz.func213 (by kernel_rfl) (by kernel_rfl) (by kernel_rfl) F213_L [] (by kernel_rfl) H

/-- (plumb/plumbref4.Kind).NaN -/
def F234 (B : World) (R : Po) (a0 b0 c0 d0 e0 : Int) (h : Heap) : Prop :=
 alW h (.cells #[.int .i64 a0, .int .i64 b0, .int .i64 c0, .int .i64 d0, .int .i64 e0] 166) fun f0 g0 =>
 iP f0 0 fun i0 j0 =>
 iP i0 j0 fun k0 l0 => ∃ m0, cI g0 k0 l0 .i64 m0 ∧
((decide (m0 = (53 : Int))) = true →
 R (.returned (.int .i64 (9221120237041090561 : Int))) g0) ∧
((decide (m0 = (53 : Int))) = false →
 R (.returned (.int .i64 (2143289345 : Int))) g0)
def F234_L : Nat → List (Nat × TypeDesc) := fun _ => []
theorem F234_ok {B : World} {R : Ending → Heap → Prop} (a0 b0 c0 d0 e0 : Int) {h : Heap} (H : F234 B R a0 b0 c0 d0 e0 h) : Ec B 234 #[.agg #[.int .i64 a0, .int .i64 b0, .int .i64 c0, .int .i64 d0, .int .i64 e0]] R h :=
 Ek Tryz.func234 (by kernel_rfl) (by kernel_rfl) (by kernel_rfl) F234_L [] (by kernel_rfl) H

/-- (plumb/plumbref4.Kind).signed -/
def F235 (B : World) (R : Po) (a0 b0 c0 d0 e0 : Int) (f0 : Bool) (g0 : Int) (h : Heap) : Prop :=
 alW h (.cells #[.int .i64 a0, .int .i64 b0, .int .i64 c0, .int .i64 d0, .int .i64 e0] 166) fun i0 j0 =>
(f0 = true →
 iP i0 0 fun k0 l0 =>
 isP (some ⟨k0, l0 + 4, none⟩) fun m0 n0 => ∃ o0, cI j0 m0 n0 .i64 o0 ∧
 R (.returned (.int .i64 (IntKind.i64.wrap (g0 + o0)))) j0) ∧
(f0 = false →
 R (.returned (.int .i64 g0)) j0)
def F235_L : Nat → List (Nat × TypeDesc) := fun _ => []
theorem F235_ok {B : World} {R : Ending → Heap → Prop} (a0 b0 c0 d0 e0 : Int) (f0 : Bool) (g0 : Int) {h : Heap} (H : F235 B R a0 b0 c0 d0 e0 f0 g0 h) : Ec B 235 #[.agg #[.int .i64 a0, .int .i64 b0, .int .i64 c0, .int .i64 d0, .int .i64 e0], .bool f0, .int .i64 g0] R h :=
 Ek Tryz.func235 (by kernel_rfl) (by kernel_rfl) (by kernel_rfl) F235_L [] (by kernel_rfl) H

/-- plumb/plumbref4.zero -/
def F236_j26 (B : World) (R : Po) (a0 : Bool) (b0 : Heap) : Prop :=
 R (.returned (.bool a0)) b0
def F236 (B : World) (R : Po) (c0 d0 e0 f0 : Bool) (g0 : OA) (i0 j0 : Nat) (k0 : Int) (h : Heap) : Prop :=
 alW h (.cells #[.bool c0, .bool d0, .bool e0, .bool f0, .slice g0 i0 j0, .int .i64 k0] 182) fun l0 m0 =>
 iP l0 0 fun n0 o0 =>
 isP (some ⟨n0, o0 + 1, none⟩) fun p0 q0 => ∃ r0, cell? m0 ⟨p0, q0, none⟩ = some (.bool r0) ∧
((!r0) = true →
 iP l0 0 fun s0 t0 =>
 isP (some ⟨s0, t0 + 2, none⟩) fun u0 v0 => ∃ w0, cell? m0 ⟨u0, v0, none⟩ = some (.bool w0) ∧
((!w0) = true →
 iP l0 0 fun x0 y0 =>
 isP (some ⟨x0, y0 + 3, none⟩) fun z0 a1 =>
 isP (some ⟨z0, a1 + 1, none⟩) fun b1 c1 => ∃ d1 e1 f1, cS m0 b1 c1 d1 e1 f1 ∧
 F236_j26 B R (decide ((e1 : Int) = (0 : Int))) m0) ∧
((!w0) = false →
 F236_j26 B R false m0)) ∧
((!r0) = false →
(false = true →
 iP l0 0 fun g1 i1 =>
 isP (some ⟨g1, i1 + 3, none⟩) fun j1 k1 =>
 isP (some ⟨j1, k1 + 1, none⟩) fun l1 m1 => ∃ n1 o1 p1, cS m0 l1 m1 n1 o1 p1 ∧
 F236_j26 B R (decide ((o1 : Int) = (0 : Int))) m0) ∧
(false = false →
 F236_j26 B R false m0))
def F236_L : Nat → List (Nat × TypeDesc) := fun _ => []
theorem F236_ok {B : World} {R : Ending → Heap → Prop} (c0 d0 e0 f0 : Bool) (g0 : OA) (i0 j0 : Nat) (k0 : Int) {h : Heap} (H : F236 B R c0 d0 e0 f0 g0 i0 j0 k0 h) : Ec B 236 #[.agg #[.bool c0, .bool d0, .bool e0, .bool f0, .slice g0 i0 j0, .int .i64 k0]] R h :=
 Ek Tryz.func236 (by kernel_rfl) (by kernel_rfl) (by kernel_rfl) F236_L [] (by kernel_rfl) H

/-- plumb/plumbref2.Bits -/
def F253 (B : World) (R : Po) (a0 : OA) (b0 c0 : Nat) (h : Heap) : Prop :=
((decide ((b0 : Int) = (0 : Int))) = true →
 R (.returned (.int .i64 (0 : Int))) h) ∧
((decide ((b0 : Int) = (0 : Int))) = false →
 ixW a0 b0 (IntKind.i64.wrap ((b0 : Int) - (1 : Int))) 1 fun d0 e0 =>
 iP d0 e0 fun f0 g0 => ∃ i0, cI h f0 g0 .i64 i0 ∧
∃ j0 : Lp, ∃ k0, j0 k0 [.int .i64 (IntKind.i64.wrap ((30 : Int) * (IntKind.i64.wrap ((b0 : Int) - (1 : Int))))), .int .i64 i0] h ∧
∀ (l0 : Nat) (m0 : Heap) (n0 o0 : Int), j0 l0 [.int .i64 n0, .int .i64 o0] m0 → ∀ _r : Nat → Value,
((decide ((0 : Int) < o0)) = true →
(2 : Int) ≠ 0 ∧
∃ p0, p0 < l0 ∧ j0 p0 [.int .i64 (IntKind.i64.wrap (n0 + (1 : Int))), .int .i64 (IntKind.i64.wrap (Int.tdiv o0 (2 : Int)))] m0) ∧
((decide ((0 : Int) < o0)) = false →
 R (.returned (.int .i64 n0)) m0))
def F253_L : Nat → List (Nat × TypeDesc) := fun i => match i with
  | 5 => [(3, .int .i64), (4, .int .i64)]
  | _ => []
theorem F253_ok {B : World} {R : Ending → Heap → Prop} (a0 : OA) (b0 c0 : Nat) {h : Heap} (H : F253 B R a0 b0 c0 h) : Ec B 253 #[.slice a0 b0 c0] R h :=
 Ek Tryz.func253 (by kernel_rfl) (by kernel_rfl) (by kernel_rfl) F253_L [] (by kernel_rfl) H

/-- plumb/plumbref2.Bit -/
def F254_j3 (B : World) (R : Po) (a0 : OA) (b0 c0 : Nat) (d0 : Int) (e0 : Bool) (f0 : Heap) : Prop :=
(e0 = true →
 R (.returned (.bool false)) f0) ∧
(e0 = false →
(30 : Int) ≠ 0 ∧
 ixW a0 b0 (IntKind.i64.wrap (Int.tdiv d0 (30 : Int))) 1 fun g0 i0 =>
 iP g0 i0 fun j0 k0 => ∃ l0, cI f0 j0 k0 .i64 l0 ∧
(30 : Int) ≠ 0 ∧
0 ≤ (Int.tmod d0 (30 : Int)) ∧
(2 : Int) ≠ 0 ∧
 R (.returned (.bool (decide ((Int.tmod (Int.fdiv l0 (2 ^ min (Int.toNat (Int.tmod d0 (30 : Int))) IntKind.i64.bits)) (2 : Int)) = (1 : Int))))) f0)
def F254 (B : World) (R : Po) (m0 : OA) (n0 o0 : Nat) (p0 : Int) (h : Heap) : Prop :=
((decide (p0 < (0 : Int))) = true →
 F254_j3 B R m0 n0 o0 p0 true h) ∧
((decide (p0 < (0 : Int))) = false →
(30 : Int) ≠ 0 ∧
 F254_j3 B R m0 n0 o0 p0 (decide ((n0 : Int) ≤ (IntKind.i64.wrap (Int.tdiv p0 (30 : Int))))) h)
def F254_L : Nat → List (Nat × TypeDesc) := fun _ => []
theorem F254_ok {B : World} {R : Ending → Heap → Prop} (m0 : OA) (n0 o0 : Nat) (p0 : Int) {h : Heap} (H : F254 B R m0 n0 o0 p0 h) : Ec B 254 #[.slice m0 n0 o0, .int .i64 p0] R h :=
 Ek Tryz.func254 (by kernel_rfl) (by kernel_rfl) (by kernel_rfl) F254_L [] (by kernel_rfl) H

/-- plumb/plumbref4.bitsOf -/
def F255 (B : World) (R : Po) (a0 : Int) (h : Heap) : Prop :=
 ∃ b0 : Lp, ∃ c0, b0 c0 [.int .i64 a0, .int .i64 (0 : Int)] h ∧
∀ (d0 : Nat) (e0 : Heap) (f0 g0 : Int), b0 d0 [.int .i64 f0, .int .i64 g0] e0 → ∀ _r : Nat → Value,
((decide ((0 : Int) < f0)) = true →
(2 : Int) ≠ 0 ∧
∃ i0, i0 < d0 ∧ b0 i0 [.int .i64 (IntKind.i64.wrap (Int.tdiv f0 (2 : Int))), .int .i64 (IntKind.i64.wrap (g0 + (1 : Int)))] e0) ∧
((decide ((0 : Int) < f0)) = false →
 R (.returned (.int .i64 g0)) e0)
def F255_L : Nat → List (Nat × TypeDesc) := fun i => match i with
  | 2 => [(0, .int .i64), (3, .int .i64)]
  | _ => []
theorem F255_ok {B : World} {R : Ending → Heap → Prop} (a0 : Int) {h : Heap} (H : F255 B R a0 h) : Ec B 255 #[.int .i64 a0] R h :=
 Ek Tryz.func255 (by kernel_rfl) (by kernel_rfl) (by kernel_rfl) F255_L [] (by kernel_rfl) H

/-- (plumb/plumbref4.Kind).joined -/
def F256 (B : World) (R : Po) (a0 b0 c0 d0 e0 f0 g0 : Int) (h : Heap) : Prop :=
 alW h (.cells #[.int .i64 a0, .int .i64 b0, .int .i64 c0, .int .i64 d0, .int .i64 e0] 166) fun i0 j0 =>
 iP i0 0 fun k0 l0 =>
 iP k0 l0 fun m0 n0 => ∃ o0, cI j0 m0 n0 .i64 o0 ∧
((decide (o0 = (53 : Int))) = true →
 Ec B 115 #[.bool false, .int .i64 f0, .int .i64 g0] (retE (fun p0 q0 => ∃ r0 s0, p0 = .tuple #[.int .i64 r0, .bool s0] ∧
 R (.returned (.int .i64 r0)) q0)
(pk R)) j0) ∧
((decide (o0 = (53 : Int))) = false →
 Ec B 273 #[.bool false, .int .i64 f0, .int .i64 g0] (retE (fun t0 u0 => ∃ v0 w0, t0 = .tuple #[.int .i64 v0, .bool w0] ∧
 R (.returned (.int .i64 v0)) u0)
(pk R)) j0)
def F256_L : Nat → List (Nat × TypeDesc) := fun _ => []
theorem F256_ok {B : World} {R : Ending → Heap → Prop} (a0 b0 c0 d0 e0 f0 g0 : Int) {h : Heap} (H : F256 B R a0 b0 c0 d0 e0 f0 g0 h) : Ec B 256 #[.agg #[.int .i64 a0, .int .i64 b0, .int .i64 c0, .int .i64 d0, .int .i64 e0], .int .i64 f0, .int .i64 g0] R h :=
 Ek Tryz.func256 (by kernel_rfl) (by kernel_rfl) (by kernel_rfl) F256_L [] (by kernel_rfl) H

/-- plumb/plumbref6.sum -/
def F132 (B : World) (R : Po) (a0 b0 : Int) (h : Heap) : Prop :=
 Ec B 155 #[.int .i64 a0, .int .i64 b0] (retE (fun c0 d0 => ∃ e0, c0 = .int .i64 e0 ∧
 R (.returned (.int .i64 e0)) d0)
(pk R)) h
def F132_L : Nat → List (Nat × TypeDesc) := fun _ => []
theorem F132_ok {B : World} {R : Ending → Heap → Prop} (a0 b0 : Int) {h : Heap} (H : F132 B R a0 b0 h) : Ec B 132 #[.int .i64 a0, .int .i64 b0] R h :=
 Ek Tryz.func132 (by kernel_rfl) (by kernel_rfl) (by kernel_rfl) F132_L [] (by kernel_rfl) H

/-- plumb/plumbref3.Add -/
def F133_j125 (B : World) (R : Po) (a0 : OA) (b0 : Heap) : Prop :=
 isP a0 fun c0 d0 =>
∃ e0, cell? b0 ⟨c0, d0, none⟩ = some (.bool e0) ∧
∃ f0 g0 i0, cell? b0 ⟨c0, d0 + 1, none⟩ = some (.slice f0 g0 i0) ∧
∃ j0, cell? b0 ⟨c0, d0 + 1 + 1, none⟩ = some (.int .i64 j0) ∧
 R (.returned (.agg #[.bool e0, .slice f0 g0 i0, .int .i64 j0])) b0
def F133_j160 (B : World) (R : Po) (k0 : OA) (l0 : Heap) : Prop :=
 isP k0 fun m0 n0 =>
∃ o0, cell? l0 ⟨m0, n0, none⟩ = some (.bool o0) ∧
∃ p0 q0 r0, cell? l0 ⟨m0, n0 + 1, none⟩ = some (.slice p0 q0 r0) ∧
∃ s0, cell? l0 ⟨m0, n0 + 1 + 1, none⟩ = some (.int .i64 s0) ∧
 R (.returned (.agg #[.bool o0, .slice p0 q0 r0, .int .i64 s0])) l0
def F133_j190 (B : World) (R : Po) (t0 : OA) (u0 : Heap) : Prop :=
 isP t0 fun v0 w0 =>
∃ x0, cell? u0 ⟨v0, w0, none⟩ = some (.bool x0) ∧
∃ y0 z0 a1, cell? u0 ⟨v0, w0 + 1, none⟩ = some (.slice y0 z0 a1) ∧
∃ b1, cell? u0 ⟨v0, w0 + 1 + 1, none⟩ = some (.int .i64 b1) ∧
 R (.returned (.agg #[.bool x0, .slice y0 z0 a1, .int .i64 b1])) u0
def F133 (B : World) (R : Po) (c1 : Bool) (d1 : OA) (e1 f1 : Nat) (g1 : Int) (i1 : Bool) (j1 : OA) (k1 l1 : Nat) (m1 : Int) (h : Heap) : Prop :=
 alW h (.cells #[.bool c1, .slice d1 e1 f1, .int .i64 g1] 29) fun n1 o1 =>
 alW o1 (.cells #[.bool i1, .slice j1 k1 l1, .int .i64 m1] 29) fun p1 q1 =>
 alW q1 (.cells #[.bool false, .slice none 0 0, .int .i64 0] 29) fun r1 s1 =>
 iP n1 0 fun t1 u1 =>
 isP (some ⟨t1, u1 + 1, none⟩) fun v1 w1 => ∃ x1 y1 z1, cS s1 v1 w1 x1 y1 z1 ∧
((decide ((y1 : Int) = (0 : Int))) = true →
 iP p1 0 fun a2 b2 =>
∃ c2, cell? s1 ⟨a2, b2, none⟩ = some (.bool c2) ∧
∃ d2 e2 f2, cell? s1 ⟨a2, b2 + 1, none⟩ = some (.slice d2 e2 f2) ∧
∃ g2, cell? s1 ⟨a2, b2 + 1 + 1, none⟩ = some (.int .i64 g2) ∧
 iP r1 0 fun i2 j2 => stC s1 i2 j2 (.bool c2) fun k2 =>
 stC k2 i2 (j2 + 1) (.slice d2 e2 f2) fun l2 =>
 stC l2 i2 (j2 + 1 + 1) (.int .i64 g2) fun m2 =>
 iP r1 0 fun n2 o2 =>
∃ p2, cell? m2 ⟨n2, o2, none⟩ = some (.bool p2) ∧
∃ q2 r2 s2, cell? m2 ⟨n2, o2 + 1, none⟩ = some (.slice q2 r2 s2) ∧
∃ t2, cell? m2 ⟨n2, o2 + 1 + 1, none⟩ = some (.int .i64 t2) ∧
 R (.returned (.agg #[.bool p2, .slice q2 r2 s2, .int .i64 t2])) m2) ∧
((decide ((y1 : Int) = (0 : Int))) = false →
 iP p1 0 fun u2 v2 =>
 isP (some ⟨u2, v2 + 1, none⟩) fun w2 x2 => ∃ y2 z2 a3, cS s1 w2 x2 y2 z2 a3 ∧
((decide ((z2 : Int) = (0 : Int))) = true →
 iP n1 0 fun b3 c3 =>
∃ d3, cell? s1 ⟨b3, c3, none⟩ = some (.bool d3) ∧
∃ e3 f3 g3, cell? s1 ⟨b3, c3 + 1, none⟩ = some (.slice e3 f3 g3) ∧
∃ i3, cell? s1 ⟨b3, c3 + 1 + 1, none⟩ = some (.int .i64 i3) ∧
 iP r1 0 fun j3 k3 => stC s1 j3 k3 (.bool d3) fun l3 =>
 stC l3 j3 (k3 + 1) (.slice e3 f3 g3) fun m3 =>
 stC m3 j3 (k3 + 1 + 1) (.int .i64 i3) fun n3 =>
 iP r1 0 fun o3 p3 =>
∃ q3, cell? n3 ⟨o3, p3, none⟩ = some (.bool q3) ∧
∃ r3 s3 t3, cell? n3 ⟨o3, p3 + 1, none⟩ = some (.slice r3 s3 t3) ∧
∃ u3, cell? n3 ⟨o3, p3 + 1 + 1, none⟩ = some (.int .i64 u3) ∧
 R (.returned (.agg #[.bool q3, .slice r3 s3 t3, .int .i64 u3])) n3) ∧
((decide ((z2 : Int) = (0 : Int))) = false →
 iP n1 0 fun v3 w3 =>
 isP (some ⟨v3, w3 + 2, none⟩) fun x3 y3 => ∃ z3, cI s1 x3 y3 .i64 z3 ∧
 iP p1 0 fun a4 b4 =>
 isP (some ⟨a4, b4 + 2, none⟩) fun c4 d4 => ∃ e4, cI s1 c4 d4 .i64 e4 ∧
 iP n1 0 fun f4 g4 =>
 isP (some ⟨f4, g4 + 1, none⟩) fun i4 j4 => ∃ k4 l4 m4, cS s1 i4 j4 k4 l4 m4 ∧
 iP n1 0 fun n4 o4 =>
 isP (some ⟨n4, o4 + 2, none⟩) fun p4 q4 => ∃ r4, cI s1 p4 q4 .i64 r4 ∧
 Ec B 177 #[.slice k4 l4 m4, .int .i64 (IntKind.i64.wrap (r4 - (if e4 < z3 then e4 else z3)))] (retE (fun s4 t4 => ∃ u4 v4 w4, s4 = .slice u4 v4 w4 ∧
 iP p1 0 fun x4 y4 =>
 isP (some ⟨x4, y4 + 1, none⟩) fun z4 a5 => ∃ b5 c5 d5, cS t4 z4 a5 b5 c5 d5 ∧
 iP p1 0 fun e5 f5 =>
 isP (some ⟨e5, f5 + 2, none⟩) fun g5 i5 => ∃ j5, cI t4 g5 i5 .i64 j5 ∧
 Ec B 177 #[.slice b5 c5 d5, .int .i64 (IntKind.i64.wrap (j5 - (if e4 < z3 then e4 else z3)))] (retE (fun k5 l5 => ∃ m5 n5 o5, k5 = .slice m5 n5 o5 ∧
 iP n1 0 fun p5 q5 =>
 iP p5 q5 fun r5 s5 => ∃ t5, cell? l5 ⟨r5, s5, none⟩ = some (.bool t5) ∧
 iP p1 0 fun u5 v5 =>
 iP u5 v5 fun w5 x5 => ∃ y5, cell? l5 ⟨w5, x5, none⟩ = some (.bool y5) ∧
((t5 == y5) = true →
 iP n1 0 fun z5 a6 =>
 iP z5 a6 fun b6 c6 => ∃ d6, cell? l5 ⟨b6, c6, none⟩ = some (.bool d6) ∧
 Ec B 178 #[.slice u4 v4 w4, .slice m5 n5 o5] (retE (fun e6 f6 => ∃ g6 i6 j6, e6 = .slice g6 i6 j6 ∧
 sameCells l5 f6 b6 c6 1 ∧ Ec B 158 #[.bool d6, .slice g6 i6 j6, .int .i64 (if e4 < z3 then e4 else z3)] (retE (fun k6 l6 => ∃ m6 n6 o6 p6 q6, k6 = .agg #[.bool m6, .slice n6 o6 p6, .int .i64 q6] ∧
 iP r1 0 fun r6 s6 => stC l6 r6 s6 (.bool m6) fun t6 =>
 stC t6 r6 (s6 + 1) (.slice n6 o6 p6) fun u6 =>
 stC u6 r6 (s6 + 1 + 1) (.int .i64 q6) fun v6 =>
 F133_j125 B R (some ⟨r1, 0, none⟩) v6)
(fun _ _ => False)) f6)
(fun _ _ => False)) l5) ∧
((t5 == y5) = false →
 Ec B 179 #[.slice u4 v4 w4, .slice m5 n5 o5] (retE (fun w6 x6 => ∃ y6, w6 = .int .i64 y6 ∧
((decide ((0 : Int) ≤ y6)) = true →
 iP n1 0 fun z6 a7 =>
 iP z6 a7 fun b7 c7 => ∃ d7, cell? x6 ⟨b7, c7, none⟩ = some (.bool d7) ∧
 Ec B 180 #[.slice u4 v4 w4, .slice m5 n5 o5] (retE (fun e7 f7 => ∃ g7 i7 j7, e7 = .slice g7 i7 j7 ∧
 sameCells x6 f7 b7 c7 1 ∧ Ec B 158 #[.bool d7, .slice g7 i7 j7, .int .i64 (if e4 < z3 then e4 else z3)] (retE (fun k7 l7 => ∃ m7 n7 o7 p7 q7, k7 = .agg #[.bool m7, .slice n7 o7 p7, .int .i64 q7] ∧
 iP r1 0 fun r7 s7 => stC l7 r7 s7 (.bool m7) fun t7 =>
 stC t7 r7 (s7 + 1) (.slice n7 o7 p7) fun u7 =>
 stC u7 r7 (s7 + 1 + 1) (.int .i64 q7) fun v7 =>
 F133_j160 B R (some ⟨r1, 0, none⟩) v7)
(fun _ _ => False)) f7)
(fun _ _ => False)) x6) ∧
((decide ((0 : Int) ≤ y6)) = false →
 iP p1 0 fun w7 x7 =>
 iP w7 x7 fun y7 z7 => ∃ a8, cell? x6 ⟨y7, z7, none⟩ = some (.bool a8) ∧
 Ec B 180 #[.slice m5 n5 o5, .slice u4 v4 w4] (retE (fun b8 c8 => ∃ d8 e8 f8, b8 = .slice d8 e8 f8 ∧
 sameCells x6 c8 y7 z7 1 ∧ Ec B 158 #[.bool a8, .slice d8 e8 f8, .int .i64 (if e4 < z3 then e4 else z3)] (retE (fun g8 i8 => ∃ j8 k8 l8 m8 n8, g8 = .agg #[.bool j8, .slice k8 l8 m8, .int .i64 n8] ∧
 iP r1 0 fun o8 p8 => stC i8 o8 p8 (.bool j8) fun q8 =>
 stC q8 o8 (p8 + 1) (.slice k8 l8 m8) fun r8 =>
 stC r8 o8 (p8 + 1 + 1) (.int .i64 n8) fun s8 =>
 F133_j190 B R (some ⟨r1, 0, none⟩) s8)
(fun _ _ => False)) c8)
(fun _ _ => False)) x6))
(pk R)) l5))
(pk R)) t4)
(pk R)) s1))
def F133_L : Nat → List (Nat × TypeDesc) := fun _ => []
theorem F133_ok {B : World} {R : Ending → Heap → Prop} (c1 : Bool) (d1 : OA) (e1 f1 : Nat) (g1 : Int) (i1 : Bool) (j1 : OA) (k1 l1 : Nat) (m1 : Int) {h : Heap} (H : F133 B R c1 d1 e1 f1 g1 i1 j1 k1 l1 m1 h) : Ec B 133 #[.agg #[.bool c1, .slice d1 e1 f1, .int .i64 g1], .agg #[.bool i1, .slice j1 k1 l1, .int .i64 m1]] R h :=
 Ek Tryz.func133 (by kernel_rfl) (by kernel_rfl) (by kernel_rfl) F133_L [] (by kernel_rfl) H

end Go.Proofs
