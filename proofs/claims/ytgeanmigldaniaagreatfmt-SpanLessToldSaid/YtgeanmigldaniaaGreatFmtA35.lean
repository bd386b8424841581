import Derived.Test.YtgeanmigldaniaaGreatFmtA03
/- Here stand lemmas: what further functions come to (written by program). -/
set_option linter.unusedVariables false
namespace Go.Proofs
open Go Go.Eng
/-- math/big.addMulVVWW_g -/
def F143_j8 (B : World) (R : Po) (a0 : Lp) (b0 : Nat) (c0 : OA) (d0 e0 : Nat) (f0 : OA) (g0 i0 : Nat) (j0 : OA) (k0 l0 : Nat) (m0 n0 o0 p0 q0 r0 s0 : Int) (t0 : Heap) : Prop :=
 Ec B 141 #[.int .u64 q0, .int .u64 n0, .int .u64 (0 : Int)] (retE (fun u0 v0 => ∃ w0 x0, u0 = .tuple #[.int .u64 w0, .int .u64 x0] ∧
 ixW c0 d0 o0 1 fun y0 z0 =>
 iP y0 z0 fun a1 b1 => stC v0 a1 b1 (.int .u64 w0) fun c1 =>
∃ d1, d1 < b0 ∧ a0 d1 [.slice c0 d0 e0, .slice f0 g0 i0, .slice j0 k0 l0, .int .u64 m0, .int .u64 (IntKind.u64.wrap (x0 + p0)), .int .i64 r0, .int .i64 (IntKind.i64.wrap (s0 + (1 : Int)))] c1)
(pk R)) t0
def F143_j2 (B : World) (R : Po) (e1 : OA) (f1 g1 : Nat) (i1 : OA) (j1 k1 : Nat) (l1 : OA) (m1 n1 : Nat) (o1 p1 : Int) (q1 : Bool) (r1 : Heap) : Prop :=
(q1 = true →
 R (.panicked [{ v := .iface 9 (.string ⟨#[97, 100, 100, 77, 117, 108, 86, 86, 87, 87, 32, 108, 101, 110]⟩), recovered := false }]) r1) ∧
(q1 = false →
 ∃ a0 : Lp, ∃ s1, a0 s1 [.slice e1 f1 g1, .slice i1 j1 k1, .slice l1 m1 n1, .int .u64 o1, .int .u64 p1, .int .i64 (f1 : Int), .int .i64 (0 : Int)] r1 ∧
∀ (b0 : Nat) (t1 : Heap) (u1 : OA) (v1 w1 : Nat) (x1 : OA) (y1 z1 : Nat) (a2 : OA) (b2 c2 : Nat) (d2 e2 f2 g2 : Int), a0 b0 [.slice u1 v1 w1, .slice x1 y1 z1, .slice a2 b2 c2, .int .u64 d2, .int .u64 e2, .int .i64 f2, .int .i64 g2] t1 → ∀ _r : Nat → Value,
((decide (g2 < f2)) = true →
 ixW a2 b2 g2 1 fun i2 j2 =>
 iP i2 j2 fun k2 l2 => ∃ m2, cI t1 k2 l2 .u64 m2 ∧
 ixW x1 y1 g2 1 fun n2 o2 =>
 iP n2 o2 fun p2 q2 => ∃ r2, cI t1 p2 q2 .u64 r2 ∧
 Ec B 186 #[.int .u64 m2, .int .u64 d2, .int .u64 r2] (retE (fun s2 t2 => ∃ u2 v2, s2 = .tuple #[.int .u64 u2, .int .u64 v2] ∧
 F143_j8 B R a0 b0 u1 v1 w1 x1 y1 z1 a2 b2 c2 d2 e2 g2 u2 v2 f2 g2 t2)
(fun _ _ => False)) t1) ∧
((decide (g2 < f2)) = false →
 R (.returned (.int .u64 e2)) t1))
def F143 (B : World) (R : Po) (w2 : OA) (x2 y2 : Nat) (z2 : OA) (a3 b3 : Nat) (c3 : OA) (d3 e3 : Nat) (f3 g3 : Int) (h : Heap) : Prop :=
((!decide ((a3 : Int) = (x2 : Int))) = true →
 F143_j2 B R w2 x2 y2 z2 a3 b3 c3 d3 e3 f3 g3 true h) ∧
((!decide ((a3 : Int) = (x2 : Int))) = false →
 F143_j2 B R w2 x2 y2 z2 a3 b3 c3 d3 e3 f3 g3 (!decide ((d3 : Int) = (x2 : Int))) h)
def F143_L : Nat → List (Nat × TypeDesc) := fun i => match i with
  | 5 => [(0, .slice 0), (1, .slice 0), (2, .slice 0), (3, .int .u64), (10, .int .u64), (31, .int .i64), (32, .int .i64)]
  | _ => []
def F143_J (B : World) (R : Po) : Nat → Option JT := fun i => match i with
  | 2 => some ⟨[(0, .slice 0), (1, .slice 0), (2, .slice 0), (3, .int .u64), (4, .int .u64), (27, .bool)], fun s v h => match s, v with
    | [], [.slice e1 f1 g1, .slice i1 j1 k1, .slice l1 m1 n1, .int _ o1, .int _ p1, .bool q1] => F143_j2 B R e1 f1 g1 i1 j1 k1 l1 m1 n1 o1 p1 q1 h
    | _, _ => False⟩
  | 8 => some ⟨[(0, .slice 0), (1, .slice 0), (2, .slice 0), (3, .int .u64), (10, .int .u64), (11, .int .i64), (12, .int .u64), (13, .int .u64), (31, .int .i64), (32, .int .i64)], fun s v h => match s, v with
    | [(a0, b0)], [.slice c0 d0 e0, .slice f0 g0 i0, .slice j0 k0 l0, .int _ m0, .int _ n0, .int _ o0, .int _ p0, .int _ q0, .int _ r0, .int _ s0] => F143_j8 B R a0 b0 c0 d0 e0 f0 g0 i0 j0 k0 l0 m0 n0 o0 p0 q0 r0 s0 h
    | _, _ => False⟩
  | _ => none
theorem F143_ok {B : World} {R : Ending → Heap → Prop} (w2 : OA) (x2 y2 : Nat) (z2 : OA) (a3 b3 : Nat) (c3 : OA) (d3 e3 : Nat) (f3 g3 : Int) {h : Heap} (H : F143 B R w2 x2 y2 z2 a3 b3 c3 d3 e3 f3 g3 h) : Ec B 80 #[.slice w2 x2 y2, .slice z2 a3 b3, .slice c3 d3 e3, .int .u64 f3, .int .u64 g3] R h :=
 Ej Tryz.func80 (by kernel_rfl) (by kernel_rfl) (by kernel_rfl) F143_L (F143_J B R) [] (by kernel_rfl) (by kernel_rfl) H

/-- math/big.basicMul -/
def F223_j6 (B : World) (R : Po) (a0 : Lp) (b0 : Nat) (c0 : OA) (d0 e0 : Nat) (f0 : OA) (g0 i0 : Nat) (j0 : OA) (k0 l0 : Nat) (m0 n0 : Int) (o0 : Heap) : Prop :=
 ∃ p0, p0 < b0 ∧ a0 p0 [.slice c0 d0 e0, .slice f0 g0 i0, .slice j0 k0 l0, .int .i64 m0, .int .i64 (IntKind.i64.wrap (n0 + (1 : Int)))] o0
def F223 (B : World) (R : Po) (q0 : OA) (r0 s0 : Nat) (t0 : OA) (u0 v0 : Nat) (w0 : OA) (x0 y0 : Nat) (h : Heap) : Prop :=
 slW r0 s0 (some (.int .i64 (0 : Int))) (some (.int .i64 (IntKind.i64.wrap ((u0 : Int) + (x0 : Int))))) none fun z0 a1 b1 =>
 clW h (slP q0 z0 b1 1) (a1 - z0) 1 #[.int .u64 0] fun c1 =>
∃ a0 : Lp, ∃ d1, a0 d1 [.slice q0 r0 s0, .slice t0 u0 v0, .slice w0 x0 y0, .int .i64 (x0 : Int), .int .i64 (0 : Int)] c1 ∧
∀ (b0 : Nat) (e1 : Heap) (f1 : OA) (g1 i1 : Nat) (j1 : OA) (k1 l1 : Nat) (m1 : OA) (n1 o1 : Nat) (p1 q1 : Int), a0 b0 [.slice f1 g1 i1, .slice j1 k1 l1, .slice m1 n1 o1, .int .i64 p1, .int .i64 q1] e1 → ∀ _r : Nat → Value,
((decide (q1 < p1)) = true →
 ixW m1 n1 q1 1 fun r1 s1 =>
 iP r1 s1 fun t1 u1 => ∃ v1, cI e1 t1 u1 .u64 v1 ∧
((!decide (v1 = (0 : Int))) = true →
 slW g1 i1 (some (.int .i64 q1)) (some (.int .i64 (IntKind.i64.wrap (q1 + (k1 : Int))))) none fun w1 x1 y1 =>
 slW g1 i1 (some (.int .i64 q1)) (some (.int .i64 (IntKind.i64.wrap (q1 + (k1 : Int))))) none fun z1 a2 b2 =>
 Ec B 185 #[.slice (slP f1 w1 y1 1) (x1 - w1) (y1 - w1), .slice (slP f1 z1 b2 1) (a2 - z1) (b2 - z1), .slice j1 k1 l1, .int .u64 v1, .int .u64 (0 : Int)] (retE (fun c2 d2 => ∃ e2, c2 = .int .u64 e2 ∧
 ixW f1 g1 (IntKind.i64.wrap ((k1 : Int) + q1)) 1 fun f2 g2 =>
 iP f2 g2 fun i2 j2 => stC d2 i2 j2 (.int .u64 e2) fun k2 =>
 F223_j6 B R a0 b0 f1 g1 i1 j1 k1 l1 m1 n1 o1 p1 q1 k2)
(fun _ _ => False)) e1) ∧
((!decide (v1 = (0 : Int))) = false →
 F223_j6 B R a0 b0 f1 g1 i1 j1 k1 l1 m1 n1 o1 p1 q1 e1)) ∧
((decide (q1 < p1)) = false →
 R (.returned (.tuple #[])) e1)
def F223_L : Nat → List (Nat × TypeDesc) := fun i => match i with
  | 2 => [(0, .slice 0), (1, .slice 0), (15, .slice 0), (16, .int .i64), (17, .int .i64)]
  | _ => []
def F223_J (B : World) (R : Po) : Nat → Option JT := fun i => match i with
  | 6 => some ⟨[(0, .slice 0), (1, .slice 0), (15, .slice 0), (16, .int .i64), (17, .int .i64)], fun s v h => match s, v with
    | [(a0, b0)], [.slice c0 d0 e0, .slice f0 g0 i0, .slice j0 k0 l0, .int _ m0, .int _ n0] => F223_j6 B R a0 b0 c0 d0 e0 f0 g0 i0 j0 k0 l0 m0 n0 h
    | _, _ => False⟩
  | _ => none
theorem F223_ok {B : World} {R : Ending → Heap → Prop} (q0 : OA) (r0 s0 : Nat) (t0 : OA) (u0 v0 : Nat) (w0 : OA) (x0 y0 : Nat) {h : Heap} (H : F223 B R q0 r0 s0 t0 u0 v0 w0 x0 y0 h) : Ec B 167 #[.slice q0 r0 s0, .slice t0 u0 v0, .slice w0 x0 y0] R h :=
 Ej Tryz.func167 (by kernel_rfl) (by kernel_rfl) (by kernel_rfl) F223_L (F223_J B R) [] (by kernel_rfl) (by kernel_rfl) H
end Go.Proofs
namespace Go.Proofs.Wide
open Go Go.Eng
/-- (math/big.nat).mul -/
def F208_j55 (B : World) (R : Po) (a0 : OA) (b0 c0 : Nat) (d0 e0 : OA) (f0 g0 : Nat) (i0 : OA) (j0 k0 : Nat) (l0 m0 : Int) (n0 : Heap) : Prop :=
 Ec B 131 #[.slice a0 b0 c0, .int .i64 (IntKind.i64.wrap (l0 + m0))] (retE (fun o0 p0 => ∃ q0 r0 s0, o0 = .slice q0 r0 s0 ∧
 iP 5 0 fun t0 u0 => ∃ v0, cI p0 t0 u0 .i64 v0 ∧
((decide (m0 < v0)) = true →
 Ec B 167 #[.slice q0 r0 s0, .slice e0 f0 g0, .slice i0 j0 k0] (retE (fun w0 x0 => w0 = .tuple #[] ∧
 Ec B 134 #[.slice q0 r0 s0] (retE (fun y0 z0 => ∃ a1 b1 c1, y0 = .slice a1 b1 c1 ∧
 R (.returned (.slice a1 b1 c1)) z0)
(pk R)) x0)
(pk R)) p0) ∧
((decide (m0 < v0)) = false →
 pEq p0 d0 none fun d1 =>
(d1 = true →
 Ec B 168 #[] (retE (fun e1 f1 => ∃ g1, e1 = .pointer g1 ∧
 False)
(pk R)) p0) ∧
(d1 = false →
 False)))
(pk R)) n0
def F208_j46 (B : World) (R : Po) (i1 : OA) (j1 k1 : Nat) (l1 m1 : OA) (n1 o1 : Nat) (p1 : OA) (q1 r1 : Nat) (s1 t1 : Int) (u1 : Bool) (v1 : Heap) : Prop :=
(u1 = true →
 F208_j55 B R none 0 0 l1 m1 n1 o1 p1 q1 r1 s1 t1 v1) ∧
(u1 = false →
 F208_j55 B R i1 j1 k1 l1 m1 n1 o1 p1 q1 r1 s1 t1 v1)
def F208_j19 (B : World) (R : Po) (w1 : OA) (x1 y1 : Nat) (z1 a2 : OA) (b2 c2 : Nat) (d2 : OA) (e2 f2 : Nat) (g2 i2 : Int) (j2 : Bool) (k2 : Heap) : Prop :=
(j2 = true →
 slW x1 y1 none (some (.int .i64 (0 : Int))) none fun l2 m2 n2 =>
 R (.returned (.slice (slP w1 l2 n2 1) (m2 - l2) (n2 - l2))) k2) ∧
(j2 = false →
((decide (i2 = (1 : Int))) = true →
 ixW d2 e2 (0 : Int) 1 fun o2 p2 =>
 iP o2 p2 fun q2 r2 => ∃ s2, cI k2 q2 r2 .u64 s2 ∧
 Ec B 172 #[.slice w1 x1 y1, .slice a2 b2 c2, .int .u64 s2, .int .u64 (0 : Int)] (retE (fun t2 u2 => ∃ v2 w2 x2, t2 = .slice v2 w2 x2 ∧
 R (.returned (.slice v2 w2 x2)) u2)
(pk R)) k2) ∧
((decide (i2 = (1 : Int))) = false →
 Ec B 137 #[.slice w1 x1 y1, .slice a2 b2 c2] (retE (fun y2 z2 => ∃ a3, y2 = .bool a3 ∧
(a3 = true →
 F208_j46 B R w1 x1 y1 z1 a2 b2 c2 d2 e2 f2 g2 i2 true z2) ∧
(a3 = false →
 Ec B 137 #[.slice w1 x1 y1, .slice d2 e2 f2] (retE (fun b3 c3 => ∃ d3, b3 = .bool d3 ∧
 F208_j46 B R w1 x1 y1 z1 a2 b2 c2 d2 e2 f2 g2 i2 d3 c3)
(pk R)) z2))
(pk R)) k2))
def F208_j10 (B : World) (R : Po) (e3 : OA) (f3 g3 : Nat) (i3 j3 : OA) (k3 l3 : Nat) (m3 : OA) (n3 o3 : Nat) (p3 q3 : Int) (r3 : Bool) (s3 : Heap) : Prop :=
 F208_j19 B R e3 f3 g3 i3 j3 k3 l3 m3 n3 o3 p3 q3 r3 s3
def F208 (B : World) (R : Po) (t3 : OA) (u3 v3 : Nat) (w3 x3 : OA) (y3 z3 : Nat) (a4 : OA) (b4 c4 : Nat) (h : Heap) : Prop :=
((decide ((y3 : Int) < (b4 : Int))) = true →
 Ec B 145 #[.slice t3 u3 v3, .pointer w3, .slice a4 b4 c4, .slice x3 y3 z3] (retE (fun d4 e4 => ∃ f4 g4 i4, d4 = .slice f4 g4 i4 ∧
 R (.returned (.slice f4 g4 i4)) e4)
(pk R)) h) ∧
((decide ((y3 : Int) < (b4 : Int))) = false →
((decide ((y3 : Int) = (0 : Int))) = true →
 F208_j10 B R t3 u3 v3 w3 x3 y3 z3 a4 b4 c4 (y3 : Int) (b4 : Int) true h) ∧
((decide ((y3 : Int) = (0 : Int))) = false →
 F208_j10 B R t3 u3 v3 w3 x3 y3 z3 a4 b4 c4 (y3 : Int) (b4 : Int) (decide ((b4 : Int) = (0 : Int))) h))
def F208_L : Nat → List (Nat × TypeDesc) := fun _ => []
theorem F208_ok {B : World} {R : Ending → Heap → Prop} (t3 : OA) (u3 v3 : Nat) (w3 x3 : OA) (y3 z3 : Nat) (a4 : OA) (b4 c4 : Nat) {h : Heap} (H : F208 B R t3 u3 v3 w3 x3 y3 z3 a4 b4 c4 h) : Ec B 145 #[.slice t3 u3 v3, .pointer w3, .slice x3 y3 z3, .slice a4 b4 c4] R h :=
 Ek Tryz.func145 (by kernel_rfl) (by kernel_rfl) (by kernel_rfl) F208_L [17, 18, 19, 20, 21, 22, 23, 24, 25, 26, 27, 28] (by kernel_rfl) H
end Go.Proofs.Wide
namespace Go.Proofs
open Go Go.Eng
/-- plumb/plumblaw8.SpanLess -/
def F1005_j298 (B : World) (R : Po) (a0 : Bool) (b0 : Heap) : Prop :=
 R (.returned (.bool a0)) b0
def F1005_j274 (B : World) (R : Po) (c0 d0 : OA) (e0 : Bool) (f0 : Heap) : Prop :=
(e0 = true →
 isP d0 fun g0 i0 =>
∃ j0, cI f0 g0 i0 .i64 j0 ∧
∃ k0, cell? f0 ⟨g0, i0 + 1, none⟩ = some (.int .i64 k0) ∧
 isP c0 fun l0 m0 =>
∃ n0, cI f0 l0 m0 .i64 n0 ∧
∃ o0, cell? f0 ⟨l0, m0 + 1, none⟩ = some (.int .i64 o0) ∧
 Ec B 13 #[.agg #[.int .i64 n0, .int .i64 o0]] (retE (fun p0 q0 => ∃ r0 s0, p0 = .agg #[.int .i64 r0, .int .i64 s0] ∧
 sameCells f0 q0 g0 i0 2 ∧ Ec B 12 #[.agg #[.int .i64 j0, .int .i64 k0], .agg #[.int .i64 r0, .int .i64 s0]] (retE (fun t0 u0 => ∃ v0, t0 = .bool v0 ∧
 F1005_j298 B R v0 u0)
(fun _ _ => False)) q0)
(fun _ _ => False)) f0) ∧
(e0 = false →
 F1005_j298 B R false f0)
def F1005_j255 (B : World) (R : Po) (w0 x0 y0 : OA) (z0 : Bool) (a1 : Heap) : Prop :=
(z0 = true →
 isP y0 fun b1 c1 =>
∃ d1, cI a1 b1 c1 .i64 d1 ∧
∃ e1, cell? a1 ⟨b1, c1 + 1, none⟩ = some (.int .i64 e1) ∧
 isP x0 fun f1 g1 =>
∃ i1, cI a1 f1 g1 .i64 i1 ∧
∃ j1, cell? a1 ⟨f1, g1 + 1, none⟩ = some (.int .i64 j1) ∧
 Ec B 12 #[.agg #[.int .i64 d1, .int .i64 e1], .agg #[.int .i64 i1, .int .i64 j1]] (retE (fun k1 l1 => ∃ m1, k1 = .bool m1 ∧
 F1005_j274 B R w0 y0 m1 l1)
(fun _ _ => False)) a1) ∧
(z0 = false →
 F1005_j274 B R w0 y0 false a1)
def F1005_j4 (B : World) (R : Po) (n1 o1 p1 q1 : OA) (r1 : Bool) (s1 : Heap) : Prop :=
(r1 = true →
 Ec B 7 #[] (retE (fun t1 u1 => ∃ v1, t1 = .bool v1 ∧
 R (.returned (.bool v1)) u1)
(pk R)) s1) ∧
(r1 = false →
 isP o1 fun w1 x1 =>
∃ y1, cell? s1 ⟨w1, x1, none⟩ = some (.bool y1) ∧
∃ z1 a2 b2, cell? s1 ⟨w1, x1 + 1, none⟩ = some (.slice z1 a2 b2) ∧
∃ c2, cell? s1 ⟨w1, x1 + 1 + 1, none⟩ = some (.int .i64 c2) ∧
 Ec B 8 #[.agg #[.bool y1, .slice z1 a2 b2, .int .i64 c2]] (retE (fun d2 e2 => ∃ f2 g2 i2, d2 = .tuple #[.agg #[.int .i64 f2, .int .i64 g2], .int .i64 i2] ∧
 alW e2 (.cells #[.int .i64 0, .int .i64 0] 23) fun j2 k2 =>
 iP j2 0 fun l2 m2 => stC k2 l2 m2 (.int .i64 f2) fun n2 =>
 stC n2 l2 (m2 + 1) (.int .i64 g2) fun o2 =>
 isP q1 fun p2 q2 =>
∃ r2, cell? o2 ⟨p2, q2, none⟩ = some (.bool r2) ∧
∃ s2 t2 u2, cell? o2 ⟨p2, q2 + 1, none⟩ = some (.slice s2 t2 u2) ∧
∃ v2, cell? o2 ⟨p2, q2 + 1 + 1, none⟩ = some (.int .i64 v2) ∧
 Ec B 8 #[.agg #[.bool r2, .slice s2 t2 u2, .int .i64 v2]] (retE (fun w2 x2 => ∃ y2 z2 a3, w2 = .tuple #[.agg #[.int .i64 y2, .int .i64 z2], .int .i64 a3] ∧
 alW x2 (.cells #[.int .i64 0, .int .i64 0] 23) fun b3 c3 =>
 iP b3 0 fun d3 e3 => stC c3 d3 e3 (.int .i64 y2) fun f3 =>
 stC f3 d3 (e3 + 1) (.int .i64 z2) fun g3 =>
 isP n1 fun i3 j3 =>
∃ k3, cI g3 i3 j3 .i64 k3 ∧
∃ l3, cell? g3 ⟨i3, j3 + 1, none⟩ = some (.int .i64 l3) ∧
 isP p1 fun m3 n3 =>
∃ o3, cI g3 m3 n3 .i64 o3 ∧
∃ p3, cell? g3 ⟨m3, n3 + 1, none⟩ = some (.int .i64 p3) ∧
 Ec B 9 #[.agg #[.int .i64 k3, .int .i64 l3], .agg #[.int .i64 o3, .int .i64 p3]] (retE (fun q3 r3 => ∃ s3 t3 u3, q3 = .tuple #[.agg #[.int .i64 s3, .int .i64 t3], .int .i64 u3] ∧
 alW r3 (.cells #[.int .i64 0, .int .i64 0] 23) fun v3 w3 =>
 iP v3 0 fun x3 y3 => stC w3 x3 y3 (.int .i64 s3) fun z3 =>
 stC z3 x3 (y3 + 1) (.int .i64 t3) fun a4 =>
 iP j2 0 fun b4 c4 =>
∃ d4, cI a4 b4 c4 .i64 d4 ∧
∃ e4, cell? a4 ⟨b4, c4 + 1, none⟩ = some (.int .i64 e4) ∧
 iP b3 0 fun f4 g4 =>
∃ i4, cI a4 f4 g4 .i64 i4 ∧
∃ j4, cell? a4 ⟨f4, g4 + 1, none⟩ = some (.int .i64 j4) ∧
 Ec B 9 #[.agg #[.int .i64 d4, .int .i64 e4], .agg #[.int .i64 i4, .int .i64 j4]] (retE (fun k4 l4 => ∃ m4 n4 o4, k4 = .tuple #[.agg #[.int .i64 m4, .int .i64 n4], .int .i64 o4] ∧
 alW l4 (.cells #[.int .i64 0, .int .i64 0] 23) fun p4 q4 =>
 iP p4 0 fun r4 s4 => stC q4 r4 s4 (.int .i64 m4) fun t4 =>
 stC t4 r4 (s4 + 1) (.int .i64 n4) fun u4 =>
 isP n1 fun v4 w4 =>
∃ x4, cI u4 v4 w4 .i64 x4 ∧
∃ y4, cell? u4 ⟨v4, w4 + 1, none⟩ = some (.int .i64 y4) ∧
 isP p1 fun z4 a5 =>
∃ b5, cI u4 z4 a5 .i64 b5 ∧
∃ c5, cell? u4 ⟨z4, a5 + 1, none⟩ = some (.int .i64 c5) ∧
 Ec B 10 #[.agg #[.int .i64 x4, .int .i64 y4], .agg #[.int .i64 b5, .int .i64 c5]] (retE (fun d5 e5 => ∃ f5 g5 i5, d5 = .tuple #[.agg #[.int .i64 f5, .int .i64 g5], .int .i64 i5] ∧
 alW e5 (.cells #[.int .i64 0, .int .i64 0] 23) fun j5 k5 =>
 iP j5 0 fun l5 m5 => stC k5 l5 m5 (.int .i64 f5) fun n5 =>
 stC n5 l5 (m5 + 1) (.int .i64 g5) fun o5 =>
 iP j2 0 fun p5 q5 =>
∃ r5, cI o5 p5 q5 .i64 r5 ∧
∃ s5, cell? o5 ⟨p5, q5 + 1, none⟩ = some (.int .i64 s5) ∧
 iP b3 0 fun t5 u5 =>
∃ v5, cI o5 t5 u5 .i64 v5 ∧
∃ w5, cell? o5 ⟨t5, u5 + 1, none⟩ = some (.int .i64 w5) ∧
 Ec B 10 #[.agg #[.int .i64 r5, .int .i64 s5], .agg #[.int .i64 v5, .int .i64 w5]] (retE (fun x5 y5 => ∃ z5 a6 b6, x5 = .tuple #[.agg #[.int .i64 z5, .int .i64 a6], .int .i64 b6] ∧
 alW y5 (.cells #[.int .i64 0, .int .i64 0] 23) fun c6 d6 =>
 iP c6 0 fun e6 f6 => stC d6 e6 f6 (.int .i64 z5) fun g6 =>
 stC g6 e6 (f6 + 1) (.int .i64 a6) fun i6 =>
 isP n1 fun j6 k6 =>
∃ l6, cI i6 j6 k6 .i64 l6 ∧
∃ m6, cell? i6 ⟨j6, k6 + 1, none⟩ = some (.int .i64 m6) ∧
 Ec B 11 #[.agg #[.int .i64 l6, .int .i64 m6]] (retE (fun n6 o6 => ∃ p6 q6 r6, n6 = .tuple #[.agg #[.int .i64 p6, .int .i64 q6], .int .i64 r6] ∧
 alW o6 (.cells #[.int .i64 0, .int .i64 0] 23) fun s6 t6 =>
 iP s6 0 fun u6 v6 => stC t6 u6 v6 (.int .i64 p6) fun w6 =>
 stC w6 u6 (v6 + 1) (.int .i64 q6) fun x6 =>
 iP j2 0 fun y6 z6 =>
∃ a7, cI x6 y6 z6 .i64 a7 ∧
∃ b7, cell? x6 ⟨y6, z6 + 1, none⟩ = some (.int .i64 b7) ∧
 Ec B 11 #[.agg #[.int .i64 a7, .int .i64 b7]] (retE (fun c7 d7 => ∃ e7 f7 g7, c7 = .tuple #[.agg #[.int .i64 e7, .int .i64 f7], .int .i64 g7] ∧
 alW d7 (.cells #[.int .i64 0, .int .i64 0] 23) fun i7 j7 =>
 iP i7 0 fun k7 l7 => stC j7 k7 l7 (.int .i64 e7) fun m7 =>
 stC m7 k7 (l7 + 1) (.int .i64 f7) fun n7 =>
 iP p4 0 fun o7 p7 =>
∃ q7, cI n7 o7 p7 .i64 q7 ∧
∃ r7, cell? n7 ⟨o7, p7 + 1, none⟩ = some (.int .i64 r7) ∧
 iP v3 0 fun s7 t7 =>
∃ u7, cI n7 s7 t7 .i64 u7 ∧
∃ v7, cell? n7 ⟨s7, t7 + 1, none⟩ = some (.int .i64 v7) ∧
 Ec B 12 #[.agg #[.int .i64 q7, .int .i64 r7], .agg #[.int .i64 u7, .int .i64 v7]] (retE (fun w7 x7 => ∃ y7, w7 = .bool y7 ∧
(y7 = true →
 iP c6 0 fun z7 a8 =>
∃ b8, cI x7 z7 a8 .i64 b8 ∧
∃ c8, cell? x7 ⟨z7, a8 + 1, none⟩ = some (.int .i64 c8) ∧
 iP j5 0 fun d8 e8 =>
∃ f8, cI x7 d8 e8 .i64 f8 ∧
∃ g8, cell? x7 ⟨d8, e8 + 1, none⟩ = some (.int .i64 g8) ∧
 Ec B 12 #[.agg #[.int .i64 b8, .int .i64 c8], .agg #[.int .i64 f8, .int .i64 g8]] (retE (fun i8 j8 => ∃ k8, i8 = .bool k8 ∧
 F1005_j255 B R n1 (some ⟨s6, 0, none⟩) (some ⟨i7, 0, none⟩) k8 j8)
(fun _ _ => False)) x7) ∧
(y7 = false →
 F1005_j255 B R n1 (some ⟨s6, 0, none⟩) (some ⟨i7, 0, none⟩) false x7))
(fun _ _ => False)) n7)
(pk R)) x6)
(pk R)) i6)
(pk R)) o5)
(pk R)) u4)
(pk R)) a4)
(pk R)) g3)
(pk R)) o2)
(pk R)) s1)
def F1005_j56 (B : World) (R : Po) (l8 m8 n8 o8 : OA) (p8 q8 : Bool) (r8 : Heap) : Prop :=
(q8 = true →
 F1005_j4 B R l8 m8 n8 o8 true r8) ∧
(q8 = false →
 F1005_j4 B R l8 m8 n8 o8 (!p8) r8)
def F1005 (B : World) (R : Po) (s8 t8 u8 v8 : Int) (h : Heap) : Prop :=
 Ec B 6 #[.int .i64 s8, .int .i64 u8, .int .i64 v8] (retE (fun w8 x8 => ∃ y8 z8 a9 b9 c9 d9 e9 f9, w8 = .tuple #[.agg #[.int .i64 y8, .int .i64 z8], .agg #[.bool a9, .slice b9 c9 d9, .int .i64 e9], .bool f9] ∧
 alW x8 (.cells #[.int .i64 0, .int .i64 0] 23) fun g9 i9 =>
 alW i9 (.cells #[.bool false, .slice none 0 0, .int .i64 0] 26) fun j9 k9 =>
 iP g9 0 fun l9 m9 => stC k9 l9 m9 (.int .i64 y8) fun n9 =>
 stC n9 l9 (m9 + 1) (.int .i64 z8) fun o9 =>
 iP j9 0 fun p9 q9 => stC o9 p9 q9 (.bool a9) fun r9 =>
 stC r9 p9 (q9 + 1) (.slice b9 c9 d9) fun s9 =>
 stC s9 p9 (q9 + 1 + 1) (.int .i64 e9) fun t9 =>
0 ≤ (3 : Int) ∧
0 ≤ (3 : Int) ∧
 Ec B 6 #[.int .i64 t8, .int .i64 (Int.fdiv v8 (2 ^ min (Int.toNat (3 : Int)) IntKind.i64.bits)), .int .i64 (Int.fdiv u8 (2 ^ min (Int.toNat (3 : Int)) IntKind.i64.bits))] (retE (fun u9 v9 => ∃ w9 x9 y9 z9 a10 b10 c10 d10, u9 = .tuple #[.agg #[.int .i64 w9, .int .i64 x9], .agg #[.bool y9, .slice z9 a10 b10, .int .i64 c10], .bool d10] ∧
 alW v9 (.cells #[.int .i64 0, .int .i64 0] 23) fun e10 f10 =>
 alW f10 (.cells #[.bool false, .slice none 0 0, .int .i64 0] 26) fun g10 i10 =>
 iP e10 0 fun j10 k10 => stC i10 j10 k10 (.int .i64 w9) fun l10 =>
 stC l10 j10 (k10 + 1) (.int .i64 x9) fun m10 =>
 iP g10 0 fun n10 o10 => stC m10 n10 o10 (.bool y9) fun p10 =>
 stC p10 n10 (o10 + 1) (.slice z9 a10 b10) fun q10 =>
 stC q10 n10 (o10 + 1 + 1) (.int .i64 c10) fun r10 =>
 Ec B 7 #[] (retE (fun s10 t10 => ∃ u10, s10 = .bool u10 ∧
((!u10) = true →
 F1005_j56 B R (some ⟨g9, 0, none⟩) (some ⟨j9, 0, none⟩) (some ⟨e10, 0, none⟩) (some ⟨g10, 0, none⟩) d10 true t10) ∧
((!u10) = false →
 F1005_j56 B R (some ⟨g9, 0, none⟩) (some ⟨j9, 0, none⟩) (some ⟨e10, 0, none⟩) (some ⟨g10, 0, none⟩) d10 (!f9) t10))
(pk R)) r10)
(pk R)) t9)
(pk R)) h
def F1005_L : Nat → List (Nat × TypeDesc) := fun _ => []
def F1005_J (B : World) (R : Po) : Nat → Option JT := fun i => match i with
  | 4 => some ⟨[(9, .pointer 0), (10, .pointer 0), (12, .pointer 0), (13, .pointer 0), (58, .bool)], fun s v h => match s, v with
    | [], [.pointer n1, .pointer o1, .pointer p1, .pointer q1, .bool r1] => F1005_j4 B R n1 o1 p1 q1 r1 h
    | _, _ => False⟩
  | _ => none
theorem F1005_ok {B : World} {R : Ending → Heap → Prop} (s8 t8 u8 v8 : Int) {h : Heap} (H : F1005 B R s8 t8 u8 v8 h) : Ec B 3 #[.int .i64 s8, .int .i64 t8, .int .i64 u8, .int .i64 v8] R h :=
 Ej Tryz.func3 (by kernel_rfl) (by kernel_rfl) (by kernel_rfl) F1005_L (F1005_J B R) [] (by kernel_rfl) (by kernel_rfl) H

/-- plumb/plumblaw8.around -/
def F1017 (B : World) (R : Po) (a0 b0 c0 : Int) (h : Heap) : Prop :=
 alW h (.cells #[.int .i64 0, .int .i64 0] 23) fun d0 e0 =>
 alW e0 (.cells #[.bool false, .slice none 0 0, .int .i64 0] 26) fun f0 g0 =>
 Ec B 25 #[.int .i64 a0] (retE (fun i0 j0 => ∃ k0 l0 m0 n0 o0 p0, i0 = .tuple #[.agg #[.bool k0, .slice l0 m0 n0, .int .i64 o0], .int .i64 p0] ∧
 alW j0 (.cells #[.bool false, .slice none 0 0, .int .i64 0] 26) fun q0 r0 =>
 iP q0 0 fun s0 t0 => stC r0 s0 t0 (.bool k0) fun u0 =>
 stC u0 s0 (t0 + 1) (.slice l0 m0 n0) fun v0 =>
 stC v0 s0 (t0 + 1 + 1) (.int .i64 o0) fun w0 =>
∃ x0 : Lp, ∃ y0, x0 y0 [.int .i64 b0, .int .i64 c0, .pointer (some ⟨d0, 0, none⟩), .pointer (some ⟨f0, 0, none⟩), .pointer (some ⟨q0, 0, none⟩), .int .i64 p0, .int .i64 a0, .int .i64 a0, .int .i64 (0 : Int)] w0 ∧
∀ (z0 : Nat) (a1 : Heap) (b1 c1 : Int) (d1 e1 f1 : OA) (g1 i1 j1 k1 : Int), x0 z0 [.int .i64 b1, .int .i64 c1, .pointer d1, .pointer e1, .pointer f1, .int .i64 g1, .int .i64 i1, .int .i64 j1, .int .i64 k1] a1 → ∀ _r : Nat → Value,
((decide (k1 < (bitsI .and .i64 b1 (7 : Int)))) = true →
 Ec B 26 #[.int .i64 i1] (retE (fun l1 m1 => ∃ n1, l1 = .int .i64 n1 ∧
∃ o1, o1 < z0 ∧ x0 o1 [.int .i64 b1, .int .i64 c1, .pointer d1, .pointer e1, .pointer f1, .int .i64 g1, .int .i64 n1, .int .i64 j1, .int .i64 (IntKind.i64.wrap (k1 + (1 : Int)))] m1)
(pk R)) a1) ∧
((decide (k1 < (bitsI .and .i64 b1 (7 : Int)))) = false →
 ∃ p1 : Lp, ∃ q1, p1 q1 [.int .i64 c1, .pointer d1, .pointer e1, .pointer f1, .int .i64 g1, .int .i64 i1, .int .i64 j1, .int .i64 (0 : Int)] a1 ∧
∀ (r1 : Nat) (s1 : Heap) (t1 : Int) (u1 v1 w1 : OA) (x1 y1 z1 a2 : Int), p1 r1 [.int .i64 t1, .pointer u1, .pointer v1, .pointer w1, .int .i64 x1, .int .i64 y1, .int .i64 z1, .int .i64 a2] s1 → ∀ _r : Nat → Value,
((decide (a2 < (bitsI .and .i64 t1 (7 : Int)))) = true →
 Ec B 27 #[.int .i64 z1] (retE (fun b2 c2 => ∃ d2, b2 = .int .i64 d2 ∧
∃ e2, e2 < r1 ∧ p1 e2 [.int .i64 t1, .pointer u1, .pointer v1, .pointer w1, .int .i64 x1, .int .i64 y1, .int .i64 d2, .int .i64 (IntKind.i64.wrap (a2 + (1 : Int)))] c2)
(pk R)) s1) ∧
((decide (a2 < (bitsI .and .i64 t1 (7 : Int)))) = false →
 isP w1 fun f2 g2 =>
∃ i2, cell? s1 ⟨f2, g2, none⟩ = some (.bool i2) ∧
∃ j2 k2 l2, cell? s1 ⟨f2, g2 + 1, none⟩ = some (.slice j2 k2 l2) ∧
∃ m2, cell? s1 ⟨f2, g2 + 1 + 1, none⟩ = some (.int .i64 m2) ∧
 isP u1 fun n2 o2 => stC s1 n2 o2 (.int .i64 y1) fun p2 =>
 stC p2 n2 (o2 + 1) (.int .i64 z1) fun q2 =>
 sameCells s1 q2 f2 g2 3 ∧ isP v1 fun r2 s2 => stC q2 r2 s2 (.bool i2) fun t2 =>
 stC t2 r2 (s2 + 1) (.slice j2 k2 l2) fun u2 =>
 stC u2 r2 (s2 + 1 + 1) (.int .i64 m2) fun v2 =>
 isP u1 fun w2 x2 =>
∃ y2, cI v2 w2 x2 .i64 y2 ∧
∃ z2, cell? v2 ⟨w2, x2 + 1, none⟩ = some (.int .i64 z2) ∧
 isP v1 fun a3 b3 =>
∃ c3, cell? v2 ⟨a3, b3, none⟩ = some (.bool c3) ∧
∃ d3 e3 f3, cell? v2 ⟨a3, b3 + 1, none⟩ = some (.slice d3 e3 f3) ∧
∃ g3, cell? v2 ⟨a3, b3 + 1 + 1, none⟩ = some (.int .i64 g3) ∧
 R (.returned (.tuple #[.agg #[.int .i64 y2, .int .i64 z2], .agg #[.bool c3, .slice d3 e3 f3, .int .i64 g3], .bool (decide (x1 = (0 : Int)))])) v2)))
(pk R)) g0
def F1017_L : Nat → List (Nat × TypeDesc) := fun i => match i with
  | 5 => [(1, .int .i64), (2, .int .i64), (6, .pointer 0), (7, .pointer 0), (9, .pointer 0), (10, .int .i64), (11, .int .i64), (12, .int .i64), (13, .int .i64)]
  | 9 => [(2, .int .i64), (6, .pointer 0), (7, .pointer 0), (9, .pointer 0), (10, .int .i64), (11, .int .i64), (12, .int .i64), (14, .int .i64)]
  | _ => []
theorem F1017_ok {B : World} {R : Ending → Heap → Prop} (a0 b0 c0 : Int) {h : Heap} (H : F1017 B R a0 b0 c0 h) : Ec B 6 #[.int .i64 a0, .int .i64 b0, .int .i64 c0] R h :=
 Ek Tryz.func6 (by kernel_rfl) (by kernel_rfl) (by kernel_rfl) F1017_L [] (by kernel_rfl) H

/-- plumb/span.Around -/
def F1018 (B : World) (R : Po) (a0 : Bool) (b0 : OA) (c0 d0 : Nat) (e0 : Int) (h : Heap) : Prop :=
 alW h (.cells #[.bool a0, .slice b0 c0 d0, .int .i64 e0] 26) fun f0 g0 =>
 alW g0 (.cells #[.int .i64 0, .int .i64 0] 23) fun i0 j0 =>
 iP f0 0 fun k0 l0 =>
∃ m0, cell? j0 ⟨k0, l0, none⟩ = some (.bool m0) ∧
∃ n0 o0 p0, cell? j0 ⟨k0, l0 + 1, none⟩ = some (.slice n0 o0 p0) ∧
∃ q0, cell? j0 ⟨k0, l0 + 1 + 1, none⟩ = some (.int .i64 q0) ∧
 Ec B 28 #[.agg #[.bool m0, .slice n0 o0 p0, .int .i64 q0], .int .i64 (1 : Int)] (retE (fun r0 s0 => ∃ t0 u0 v0, r0 = .tuple #[.int .i64 t0, .bool u0, .int .i64 v0] ∧
((!decide (v0 = (0 : Int))) = true →
 iP 0 0 fun w0 x0 =>
∃ y0, cI s0 w0 x0 .i64 y0 ∧
∃ z0, cell? s0 ⟨w0, x0 + 1, none⟩ = some (.int .i64 z0) ∧
 iP i0 0 fun a1 b1 => stC s0 a1 b1 (.int .i64 y0) fun c1 =>
 stC c1 a1 (b1 + 1) (.int .i64 z0) fun d1 =>
 iP i0 0 fun e1 f1 =>
∃ g1, cI d1 e1 f1 .i64 g1 ∧
∃ i1, cell? d1 ⟨e1, f1 + 1, none⟩ = some (.int .i64 i1) ∧
 R (.returned (.tuple #[.agg #[.int .i64 g1, .int .i64 i1], .int .i64 v0])) d1) ∧
((!decide (v0 = (0 : Int))) = false →
 iP f0 0 fun j1 k1 =>
∃ l1, cell? s0 ⟨j1, k1, none⟩ = some (.bool l1) ∧
∃ m1 n1 o1, cell? s0 ⟨j1, k1 + 1, none⟩ = some (.slice m1 n1 o1) ∧
∃ p1, cell? s0 ⟨j1, k1 + 1 + 1, none⟩ = some (.int .i64 p1) ∧
 Ec B 28 #[.agg #[.bool l1, .slice m1 n1 o1, .int .i64 p1], .int .i64 (2 : Int)] (retE (fun q1 r1 => ∃ s1 t1 u1, q1 = .tuple #[.int .i64 s1, .bool t1, .int .i64 u1] ∧
 Ec B 29 #[.int .i64 t0, .int .i64 s1] (retE (fun v1 w1 => ∃ x1 y1 z1, v1 = .tuple #[.agg #[.int .i64 x1, .int .i64 y1], .int .i64 z1] ∧
 iP i0 0 fun a2 b2 => stC w1 a2 b2 (.int .i64 x1) fun c2 =>
 stC c2 a2 (b2 + 1) (.int .i64 y1) fun d2 =>
 iP i0 0 fun e2 f2 =>
∃ g2, cI d2 e2 f2 .i64 g2 ∧
∃ i2, cell? d2 ⟨e2, f2 + 1, none⟩ = some (.int .i64 i2) ∧
 R (.returned (.tuple #[.agg #[.int .i64 g2, .int .i64 i2], .int .i64 z1])) d2)
(pk R)) r1)
(pk R)) s0))
(pk R)) j0
def F1018_L : Nat → List (Nat × TypeDesc) := fun _ => []
theorem F1018_ok {B : World} {R : Ending → Heap → Prop} (a0 : Bool) (b0 : OA) (c0 d0 : Nat) (e0 : Int) {h : Heap} (H : F1018 B R a0 b0 c0 d0 e0 h) : Ec B 8 #[.agg #[.bool a0, .slice b0 c0 d0, .int .i64 e0]] R h :=
 Ek Tryz.func8 (by kernel_rfl) (by kernel_rfl) (by kernel_rfl) F1018_L [] (by kernel_rfl) H

/-- plumb/span.Mul -/
def F1020 (B : World) (R : Po) (a0 b0 c0 d0 : Int) (h : Heap) : Prop :=
 alW h (.cells #[.int .i64 a0, .int .i64 b0] 23) fun e0 f0 =>
 alW f0 (.cells #[.int .i64 c0, .int .i64 d0] 23) fun g0 i0 =>
 alW i0 (.cells #[.int .i64 0, .int .i64 0] 23) fun j0 k0 =>
 iP e0 0 fun l0 m0 =>
∃ n0, cI k0 l0 m0 .i64 n0 ∧
∃ o0, cell? k0 ⟨l0, m0 + 1, none⟩ = some (.int .i64 o0) ∧
 iP g0 0 fun p0 q0 =>
∃ r0, cI k0 p0 q0 .i64 r0 ∧
∃ s0, cell? k0 ⟨p0, q0 + 1, none⟩ = some (.int .i64 s0) ∧
 alW k0 (.cells #[.int .i64 n0, .int .i64 o0, .int .i64 r0, .int .i64 s0] 23) fun t0 u0 =>
 Ec B 30 #[.slice (some ⟨t0, 0, none⟩) 2 2] (retE (fun v0 w0 => ∃ x0, v0 = .int .i64 x0 ∧
((!decide (x0 = (0 : Int))) = true →
 iP 0 0 fun y0 z0 =>
∃ a1, cI w0 y0 z0 .i64 a1 ∧
∃ b1, cell? w0 ⟨y0, z0 + 1, none⟩ = some (.int .i64 b1) ∧
 iP j0 0 fun c1 d1 => stC w0 c1 d1 (.int .i64 a1) fun e1 =>
 stC e1 c1 (d1 + 1) (.int .i64 b1) fun f1 =>
 iP j0 0 fun g1 i1 =>
∃ j1, cI f1 g1 i1 .i64 j1 ∧
∃ k1, cell? f1 ⟨g1, i1 + 1, none⟩ = some (.int .i64 k1) ∧
 R (.returned (.tuple #[.agg #[.int .i64 j1, .int .i64 k1], .int .i64 x0])) f1) ∧
((!decide (x0 = (0 : Int))) = false →
 iP e0 0 fun l1 m1 =>
 iP l1 m1 fun n1 o1 => ∃ p1, cI w0 n1 o1 .i64 p1 ∧
 iP g0 0 fun q1 r1 =>
 iP q1 r1 fun s1 t1 => ∃ u1, cI w0 s1 t1 .i64 u1 ∧
 iP e0 0 fun v1 w1 =>
 iP v1 w1 fun x1 y1 => ∃ z1, cI w0 x1 y1 .i64 z1 ∧
 iP g0 0 fun a2 b2 =>
 isP (some ⟨a2, b2 + 1, none⟩) fun c2 d2 => ∃ e2, cI w0 c2 d2 .i64 e2 ∧
 iP e0 0 fun f2 g2 =>
 isP (some ⟨f2, g2 + 1, none⟩) fun i2 j2 => ∃ k2, cI w0 i2 j2 .i64 k2 ∧
 iP g0 0 fun l2 m2 =>
 iP l2 m2 fun n2 o2 => ∃ p2, cI w0 n2 o2 .i64 p2 ∧
 iP e0 0 fun q2 r2 =>
 isP (some ⟨q2, r2 + 1, none⟩) fun s2 t2 => ∃ u2, cI w0 s2 t2 .i64 u2 ∧
 iP g0 0 fun v2 w2 =>
 isP (some ⟨v2, w2 + 1, none⟩) fun x2 y2 => ∃ z2, cI w0 x2 y2 .i64 z2 ∧
 alW w0 (.cells #[.int .i64 0, .int .i64 0, .int .i64 0, .int .i64 0, .int .i64 0, .int .i64 0, .int .i64 0, .int .i64 0] 56) fun a3 b3 =>
 iP a3 0 fun c3 d3 => stC b3 c3 d3 (.int .i64 p1) fun e3 =>
 stC e3 c3 (d3 + 1) (.int .i64 u1) fun f3 =>
 stC f3 c3 (d3 + 1 + 1) (.int .i64 z1) fun g3 =>
 stC g3 c3 (d3 + 1 + 1 + 1) (.int .i64 e2) fun i3 =>
 stC i3 c3 (d3 + 1 + 1 + 1 + 1) (.int .i64 k2) fun j3 =>
 stC j3 c3 (d3 + 1 + 1 + 1 + 1 + 1) (.int .i64 p2) fun k3 =>
 stC k3 c3 (d3 + 1 + 1 + 1 + 1 + 1 + 1) (.int .i64 u2) fun l3 =>
 stC l3 c3 (d3 + 1 + 1 + 1 + 1 + 1 + 1 + 1) (.int .i64 z2) fun m3 =>
 Ec B 32 #[.int .i64 (1 : Int)] (retE (fun n3 o3 => ∃ p3, n3 = .float .f64 p3 ∧
 Ec B 32 #[.int .i64 (-1 : Int)] (retE (fun q3 r3 => ∃ s3, q3 = .float .f64 s3 ∧
 iP a3 0 fun t3 u3 =>
∃ v3, cI r3 t3 u3 .i64 v3 ∧
∃ w3, cell? r3 ⟨t3, u3 + 1, none⟩ = some (.int .i64 w3) ∧
∃ x3, cell? r3 ⟨t3, u3 + 1 + 1, none⟩ = some (.int .i64 x3) ∧
∃ y3, cell? r3 ⟨t3, u3 + 1 + 1 + 1, none⟩ = some (.int .i64 y3) ∧
∃ z3, cell? r3 ⟨t3, u3 + 1 + 1 + 1 + 1, none⟩ = some (.int .i64 z3) ∧
∃ a4, cell? r3 ⟨t3, u3 + 1 + 1 + 1 + 1 + 1, none⟩ = some (.int .i64 a4) ∧
∃ b4, cell? r3 ⟨t3, u3 + 1 + 1 + 1 + 1 + 1 + 1, none⟩ = some (.int .i64 b4) ∧
∃ c4, cell? r3 ⟨t3, u3 + 1 + 1 + 1 + 1 + 1 + 1 + 1, none⟩ = some (.int .i64 c4) ∧
∃ d4 : Lp, ∃ e4, d4 e4 [.pointer (some ⟨j0, 0, none⟩), .float .f64 p3, .float .f64 s3, .agg #[.int .i64 v3, .int .i64 w3, .int .i64 x3, .int .i64 y3, .int .i64 z3, .int .i64 a4, .int .i64 b4, .int .i64 c4], .int .i64 (0 : Int)] r3 ∧
∀ (f4 : Nat) (g4 : Heap) (i4 : OA) (j4 k4 : Nat) (l4 m4 n4 o4 p4 q4 r4 s4 t4 : Int), d4 f4 [.pointer i4, .float .f64 j4, .float .f64 k4, .agg #[.int .i64 l4, .int .i64 m4, .int .i64 n4, .int .i64 o4, .int .i64 p4, .int .i64 q4, .int .i64 r4, .int .i64 s4], .int .i64 t4] g4 → ∀ _r : Nat → Value,
((decide (t4 < (4 : Int))) = true →
 0 ≤ t4 ∧ t4 < (4 : Int) ∧ ∃ u4 v4, (some (.agg (Array.extract #[.int .i64 l4, .int .i64 m4, .int .i64 n4, .int .i64 o4, .int .i64 p4, .int .i64 q4, .int .i64 r4, .int .i64 s4] (Int.toNat t4 * 2) (Int.toNat t4 * 2 + 2))) : Option Value) = some (.agg #[.int .i64 u4, .int .i64 v4]) ∧
 alW g4 (.cells #[.int .i64 0, .int .i64 0] 55) fun w4 x4 =>
 iP w4 0 fun y4 z4 => stC x4 y4 z4 (.int .i64 u4) fun a5 =>
 stC a5 y4 (z4 + 1) (.int .i64 v4) fun b5 =>
 ixW (some ⟨w4, 0, none⟩) 2 (0 : Int) 1 fun c5 d5 =>
 iP c5 d5 fun e5 f5 => ∃ g5, cI b5 e5 f5 .i64 g5 ∧
 ixW (some ⟨w4, 0, none⟩) 2 (1 : Int) 1 fun i5 j5 =>
 iP i5 j5 fun k5 l5 => ∃ m5, cI b5 k5 l5 .i64 m5 ∧
 Ec B 33 #[.int .i64 g5, .int .i64 m5, .int .i64 (1 : Int)] (retE (fun n5 o5 => ∃ p5, n5 = .float .f64 p5 ∧
∃ q5, FloatKind.f64.format.order j4 p5 = some q5 ∧
 ixW (some ⟨w4, 0, none⟩) 2 (0 : Int) 1 fun r5 s5 =>
 iP r5 s5 fun t5 u5 => ∃ v5, cI o5 t5 u5 .i64 v5 ∧
 ixW (some ⟨w4, 0, none⟩) 2 (1 : Int) 1 fun w5 x5 =>
 iP w5 x5 fun y5 z5 => ∃ a6, cI o5 y5 z5 .i64 a6 ∧
 Ec B 33 #[.int .i64 v5, .int .i64 a6, .int .i64 (2 : Int)] (retE (fun b6 c6 => ∃ d6, b6 = .float .f64 d6 ∧
∃ e6, FloatKind.f64.format.order k4 d6 = some e6 ∧
∃ f6, f6 < f4 ∧ d4 f6 [.pointer i4, .float .f64 (minF .f64 j4 p5 q5), .float .f64 (maxF .f64 k4 d6 e6), .agg #[.int .i64 l4, .int .i64 m4, .int .i64 n4, .int .i64 o4, .int .i64 p4, .int .i64 q4, .int .i64 r4, .int .i64 s4], .int .i64 (IntKind.i64.wrap (t4 + (1 : Int)))] c6)
(pk R)) o5)
(pk R)) b5) ∧
((decide (t4 < (4 : Int))) = false →
 Ec B 34 #[.float .f64 j4] (retE (fun g6 i6 => ∃ j6, g6 = .int .i64 j6 ∧
 Ec B 34 #[.float .f64 k4] (retE (fun k6 l6 => ∃ m6, k6 = .int .i64 m6 ∧
 Ec B 29 #[.int .i64 j6, .int .i64 m6] (retE (fun n6 o6 => ∃ p6 q6 r6, n6 = .tuple #[.agg #[.int .i64 p6, .int .i64 q6], .int .i64 r6] ∧
 isP i4 fun s6 t6 => stC o6 s6 t6 (.int .i64 p6) fun u6 =>
 stC u6 s6 (t6 + 1) (.int .i64 q6) fun v6 =>
 isP i4 fun w6 x6 =>
∃ y6, cI v6 w6 x6 .i64 y6 ∧
∃ z6, cell? v6 ⟨w6, x6 + 1, none⟩ = some (.int .i64 z6) ∧
 R (.returned (.tuple #[.agg #[.int .i64 y6, .int .i64 z6], .int .i64 r6])) v6)
(pk R)) l6)
(pk R)) i6)
(pk R)) g4))
(pk R)) o3)
(pk R)) m3))
(pk R)) u0
def F1020_L : Nat → List (Nat × TypeDesc) := fun i => match i with
  | 7 => [(4, .pointer 0), (8, .float .f64), (9, .float .f64), (43, .array 8 0), (44, .int .i64)]
  | _ => []
theorem F1020_ok {B : World} {R : Ending → Heap → Prop} (a0 b0 c0 d0 : Int) {h : Heap} (H : F1020 B R a0 b0 c0 d0 h) : Ec B 10 #[.agg #[.int .i64 a0, .int .i64 b0], .agg #[.int .i64 c0, .int .i64 d0]] R h :=
 Ek Tryz.func10 (by kernel_rfl) (by kernel_rfl) (by kernel_rfl) F1020_L [] (by kernel_rfl) H

/-- plumb/span.Square -/
def F1021_j8 (B : World) (R : Po) (a0 : OA) (b0 c0 : Nat) (d0 : Heap) : Prop :=
 Ec B 34 #[.float .f64 b0] (retE (fun e0 f0 => ∃ g0, e0 = .int .i64 g0 ∧
 Ec B 34 #[.float .f64 c0] (retE (fun i0 j0 => ∃ k0, i0 = .int .i64 k0 ∧
 Ec B 29 #[.int .i64 g0, .int .i64 k0] (retE (fun l0 m0 => ∃ n0 o0 p0, l0 = .tuple #[.agg #[.int .i64 n0, .int .i64 o0], .int .i64 p0] ∧
 isP a0 fun q0 r0 => stC m0 q0 r0 (.int .i64 n0) fun s0 =>
 stC s0 q0 (r0 + 1) (.int .i64 o0) fun t0 =>
 isP a0 fun u0 v0 =>
∃ w0, cI t0 u0 v0 .i64 w0 ∧
∃ x0, cell? t0 ⟨u0, v0 + 1, none⟩ = some (.int .i64 x0) ∧
 R (.returned (.tuple #[.agg #[.int .i64 w0, .int .i64 x0], .int .i64 p0])) t0)
(pk R)) j0)
(pk R)) f0)
(pk R)) d0
def F1021_j7 (B : World) (R : Po) (y0 : OA) (z0 a1 : Nat) (b1 : Bool) (c1 : Heap) : Prop :=
(b1 = true →
 F1021_j8 B R y0 0 a1 c1) ∧
(b1 = false →
 F1021_j8 B R y0 z0 a1 c1)
def F1021_j6 (B : World) (R : Po) (d1 e1 : OA) (f1 g1 : Nat) (i1 : Heap) : Prop :=
 isP d1 fun j1 k1 =>
 iP j1 k1 fun l1 m1 => ∃ n1, cI i1 l1 m1 .i64 n1 ∧
 Ec B 35 #[.int .i64 n1] (retE (fun o1 p1 => ∃ q1, o1 = .float .f64 q1 ∧
((FloatKind.f64.format.order q1 0 == some .lt || FloatKind.f64.format.order q1 0 == some .eq) = true →
 isP d1 fun r1 s1 =>
 isP (some ⟨r1, s1 + 1, none⟩) fun t1 u1 => ∃ v1, cI p1 t1 u1 .i64 v1 ∧
 Ec B 35 #[.int .i64 v1] (retE (fun w1 x1 => ∃ y1, w1 = .float .f64 y1 ∧
 F1021_j7 B R e1 f1 g1 (FloatKind.f64.format.order y1 0 == some .gt || FloatKind.f64.format.order y1 0 == some .eq) x1)
(pk R)) p1) ∧
((FloatKind.f64.format.order q1 0 == some .lt || FloatKind.f64.format.order q1 0 == some .eq) = false →
 F1021_j7 B R e1 f1 g1 false p1))
(pk R)) i1
def F1021_j5 (B : World) (R : Po) (z1 a2 : OA) (b2 : Nat) (c2 : Heap) : Prop :=
 isP z1 fun d2 e2 =>
 iP d2 e2 fun f2 g2 => ∃ i2, cI c2 f2 g2 .i64 i2 ∧
 isP z1 fun j2 k2 =>
 iP j2 k2 fun l2 m2 => ∃ n2, cI c2 l2 m2 .i64 n2 ∧
 isP z1 fun o2 p2 =>
 isP (some ⟨o2, p2 + 1, none⟩) fun q2 r2 => ∃ s2, cI c2 q2 r2 .i64 s2 ∧
 isP z1 fun t2 u2 =>
 isP (some ⟨t2, u2 + 1, none⟩) fun v2 w2 => ∃ x2, cI c2 v2 w2 .i64 x2 ∧
 Ec B 33 #[.int .i64 i2, .int .i64 n2, .int .i64 (2 : Int)] (retE (fun y2 z2 => ∃ a3, y2 = .float .f64 a3 ∧
 sameCells c2 z2 v2 w2 1 ∧ sameCells c2 z2 q2 r2 1 ∧ Ec B 33 #[.int .i64 s2, .int .i64 x2, .int .i64 (2 : Int)] (retE (fun b3 c3 => ∃ d3, b3 = .float .f64 d3 ∧
∃ e3, FloatKind.f64.format.order a3 d3 = some e3 ∧
 F1021_j6 B R z1 a2 b2 (maxF .f64 a3 d3 e3) c3)
(fun _ _ => False)) z2)
(fun _ _ => False)) c2
def F1021 (B : World) (R : Po) (f3 g3 : Int) (h : Heap) : Prop :=
 alW h (.cells #[.int .i64 f3, .int .i64 g3] 23) fun i3 j3 =>
 alW j3 (.cells #[.int .i64 0, .int .i64 0] 23) fun k3 l3 =>
 iP i3 0 fun m3 n3 =>
∃ o3, cI l3 m3 n3 .i64 o3 ∧
∃ p3, cell? l3 ⟨m3, n3 + 1, none⟩ = some (.int .i64 p3) ∧
 alW l3 (.cells #[.int .i64 o3, .int .i64 p3] 23) fun q3 r3 =>
 Ec B 30 #[.slice (some ⟨q3, 0, none⟩) 1 1] (retE (fun s3 t3 => ∃ u3, s3 = .int .i64 u3 ∧
((!decide (u3 = (0 : Int))) = true →
 iP 0 0 fun v3 w3 =>
∃ x3, cI t3 v3 w3 .i64 x3 ∧
∃ y3, cell? t3 ⟨v3, w3 + 1, none⟩ = some (.int .i64 y3) ∧
 iP k3 0 fun z3 a4 => stC t3 z3 a4 (.int .i64 x3) fun b4 =>
 stC b4 z3 (a4 + 1) (.int .i64 y3) fun c4 =>
 iP k3 0 fun d4 e4 =>
∃ f4, cI c4 d4 e4 .i64 f4 ∧
∃ g4, cell? c4 ⟨d4, e4 + 1, none⟩ = some (.int .i64 g4) ∧
 R (.returned (.tuple #[.agg #[.int .i64 f4, .int .i64 g4], .int .i64 u3])) c4) ∧
((!decide (u3 = (0 : Int))) = false →
 iP i3 0 fun i4 j4 =>
 iP i4 j4 fun k4 l4 => ∃ m4, cI t3 k4 l4 .i64 m4 ∧
 iP i3 0 fun n4 o4 =>
 iP n4 o4 fun p4 q4 => ∃ r4, cI t3 p4 q4 .i64 r4 ∧
 iP i3 0 fun s4 t4 =>
 isP (some ⟨s4, t4 + 1, none⟩) fun u4 v4 => ∃ w4, cI t3 u4 v4 .i64 w4 ∧
 iP i3 0 fun x4 y4 =>
 isP (some ⟨x4, y4 + 1, none⟩) fun z4 a5 => ∃ b5, cI t3 z4 a5 .i64 b5 ∧
 Ec B 33 #[.int .i64 m4, .int .i64 r4, .int .i64 (1 : Int)] (retE (fun c5 d5 => ∃ e5, c5 = .float .f64 e5 ∧
 sameCells t3 d5 z4 a5 1 ∧ sameCells t3 d5 u4 v4 1 ∧ Ec B 33 #[.int .i64 w4, .int .i64 b5, .int .i64 (1 : Int)] (retE (fun f5 g5 => ∃ i5, f5 = .float .f64 i5 ∧
∃ j5, FloatKind.f64.format.order e5 i5 = some j5 ∧
 F1021_j5 B R (some ⟨i3, 0, none⟩) (some ⟨k3, 0, none⟩) (minF .f64 e5 i5 j5) g5)
(fun _ _ => False)) d5)
(fun _ _ => False)) t3))
(pk R)) r3
def F1021_L : Nat → List (Nat × TypeDesc) := fun _ => []
def F1021_J (B : World) (R : Po) : Nat → Option JT := fun i => match i with
  | 5 => some ⟨[(1, .pointer 0), (2, .pointer 0), (5, .float .f64)], fun s v h => match s, v with
    | [], [.pointer z1, .pointer a2, .float _ b2] => F1021_j5 B R z1 a2 b2 h
    | _, _ => False⟩
  | 6 => some ⟨[(1, .pointer 0), (2, .pointer 0), (5, .float .f64), (6, .float .f64)], fun s v h => match s, v with
    | [], [.pointer d1, .pointer e1, .float _ f1, .float _ g1] => F1021_j6 B R d1 e1 f1 g1 h
    | _, _ => False⟩
  | 7 => some ⟨[(2, .pointer 0), (5, .float .f64), (6, .float .f64), (45, .bool)], fun s v h => match s, v with
    | [], [.pointer y0, .float _ z0, .float _ a1, .bool b1] => F1021_j7 B R y0 z0 a1 b1 h
    | _, _ => False⟩
  | 8 => some ⟨[(2, .pointer 0), (5, .float .f64), (6, .float .f64)], fun s v h => match s, v with
    | [], [.pointer a0, .float _ b0, .float _ c0] => F1021_j8 B R a0 b0 c0 h
    | _, _ => False⟩
  | _ => none
theorem F1021_ok {B : World} {R : Ending → Heap → Prop} (f3 g3 : Int) {h : Heap} (H : F1021 B R f3 g3 h) : Ec B 11 #[.agg #[.int .i64 f3, .int .i64 g3]] R h :=
 Ej Tryz.func11 (by kernel_rfl) (by kernel_rfl) (by kernel_rfl) F1021_L (F1021_J B R) [] (by kernel_rfl) (by kernel_rfl) H

/-- plumb/plumblaw8.within -/
def F1022_j88 (B : World) (R : Po) (a0 : Bool) (b0 : Heap) : Prop :=
 R (.returned (.bool a0)) b0
def F1022_j75 (B : World) (R : Po) (c0 d0 : OA) (e0 : Bool) (f0 : Heap) : Prop :=
(e0 = true →
 isP d0 fun g0 i0 =>
∃ j0, cI f0 g0 i0 .i64 j0 ∧
∃ k0, cell? f0 ⟨g0, i0 + 1, none⟩ = some (.int .i64 k0) ∧
 isP c0 fun l0 m0 =>
∃ n0, cI f0 l0 m0 .i64 n0 ∧
∃ o0, cell? f0 ⟨l0, m0 + 1, none⟩ = some (.int .i64 o0) ∧
 F1022_j88 B R (decide (j0 = n0) && decide (k0 = o0)) f0) ∧
(e0 = false →
 F1022_j88 B R false f0)
def F1022_j60 (B : World) (R : Po) (p0 q0 r0 s0 : OA) (t0 : Bool) (u0 : Heap) : Prop :=
(t0 = true →
 isP r0 fun v0 w0 =>
∃ x0, cI u0 v0 w0 .i64 x0 ∧
∃ y0, cell? u0 ⟨v0, w0 + 1, none⟩ = some (.int .i64 y0) ∧
 isP p0 fun z0 a1 =>
∃ b1, cI u0 z0 a1 .i64 b1 ∧
∃ c1, cell? u0 ⟨z0, a1 + 1, none⟩ = some (.int .i64 c1) ∧
 F1022_j75 B R q0 s0 (decide (x0 = b1) && decide (y0 = c1)) u0) ∧
(t0 = false →
 F1022_j75 B R q0 s0 false u0)
def F1022_j52 (B : World) (R : Po) (d1 e1 f1 g1 : OA) (i1 : Int) (j1 : Bool) (k1 : Heap) : Prop :=
(j1 = true →
 F1022_j60 B R d1 e1 f1 g1 (decide (i1 = (0 : Int))) k1) ∧
(j1 = false →
 F1022_j60 B R d1 e1 f1 g1 false k1)
def F1022 (B : World) (R : Po) (l1 m1 n1 o1 : Int) (h : Heap) : Prop :=
 alW h (.cells #[.int .i64 l1, .int .i64 m1] 23) fun p1 q1 =>
 alW q1 (.cells #[.int .i64 n1, .int .i64 o1] 23) fun r1 s1 =>
 iP p1 0 fun t1 u1 =>
∃ v1, cI s1 t1 u1 .i64 v1 ∧
∃ w1, cell? s1 ⟨t1, u1 + 1, none⟩ = some (.int .i64 w1) ∧
 iP r1 0 fun x1 y1 =>
∃ z1, cI s1 x1 y1 .i64 z1 ∧
∃ a2, cell? s1 ⟨x1, y1 + 1, none⟩ = some (.int .i64 a2) ∧
 Ec B 36 #[.agg #[.int .i64 v1, .int .i64 w1], .agg #[.int .i64 z1, .int .i64 a2]] (retE (fun b2 c2 => ∃ d2 e2 f2 g2, b2 = .tuple #[.agg #[.int .i64 d2, .int .i64 e2], .bool f2, .int .i64 g2] ∧
 alW c2 (.cells #[.int .i64 0, .int .i64 0] 23) fun i2 j2 =>
 iP i2 0 fun k2 l2 => stC j2 k2 l2 (.int .i64 d2) fun m2 =>
 stC m2 k2 (l2 + 1) (.int .i64 e2) fun n2 =>
 iP p1 0 fun o2 p2 =>
∃ q2, cI n2 o2 p2 .i64 q2 ∧
∃ r2, cell? n2 ⟨o2, p2 + 1, none⟩ = some (.int .i64 r2) ∧
 iP r1 0 fun s2 t2 =>
∃ u2, cI n2 s2 t2 .i64 u2 ∧
∃ v2, cell? n2 ⟨s2, t2 + 1, none⟩ = some (.int .i64 v2) ∧
 Ec B 20 #[.agg #[.int .i64 q2, .int .i64 r2], .agg #[.int .i64 u2, .int .i64 v2]] (retE (fun w2 x2 => ∃ y2 z2 a3, w2 = .tuple #[.agg #[.int .i64 y2, .int .i64 z2], .int .i64 a3] ∧
 alW x2 (.cells #[.int .i64 0, .int .i64 0] 23) fun b3 c3 =>
 iP b3 0 fun d3 e3 => stC c3 d3 e3 (.int .i64 y2) fun f3 =>
 stC f3 d3 (e3 + 1) (.int .i64 z2) fun g3 =>
(f2 = true →
 F1022_j52 B R (some ⟨p1, 0, none⟩) (some ⟨r1, 0, none⟩) (some ⟨i2, 0, none⟩) (some ⟨b3, 0, none⟩) a3 (decide (g2 = (0 : Int))) g3) ∧
(f2 = false →
 F1022_j52 B R (some ⟨p1, 0, none⟩) (some ⟨r1, 0, none⟩) (some ⟨i2, 0, none⟩) (some ⟨b3, 0, none⟩) a3 false g3))
(pk R)) n2)
(pk R)) s1
def F1022_L : Nat → List (Nat × TypeDesc) := fun _ => []
theorem F1022_ok {B : World} {R : Ending → Heap → Prop} (l1 m1 n1 o1 : Int) {h : Heap} (H : F1022 B R l1 m1 n1 o1 h) : Ec B 12 #[.agg #[.int .i64 l1, .int .i64 m1], .agg #[.int .i64 n1, .int .i64 o1]] R h :=
 Ek Tryz.func12 (by kernel_rfl) (by kernel_rfl) (by kernel_rfl) F1022_L [] (by kernel_rfl) H

/-- plumb/plumblaw8.square -/
def F1023 (B : World) (R : Po) (a0 b0 : Int) (h : Heap) : Prop :=
 alW h (.cells #[.int .i64 a0, .int .i64 b0] 23) fun c0 d0 =>
 alW d0 (.cells #[.int .i64 0, .int .i64 0] 23) fun e0 f0 =>
 iP c0 0 fun g0 i0 =>
∃ j0, cI f0 g0 i0 .i64 j0 ∧
∃ k0, cell? f0 ⟨g0, i0 + 1, none⟩ = some (.int .i64 k0) ∧
 iP c0 0 fun l0 m0 =>
∃ n0, cI f0 l0 m0 .i64 n0 ∧
∃ o0, cell? f0 ⟨l0, m0 + 1, none⟩ = some (.int .i64 o0) ∧
 Ec B 10 #[.agg #[.int .i64 j0, .int .i64 k0], .agg #[.int .i64 n0, .int .i64 o0]] (retE (fun p0 q0 => ∃ r0 s0 t0, p0 = .tuple #[.agg #[.int .i64 r0, .int .i64 s0], .int .i64 t0] ∧
 alW q0 (.cells #[.int .i64 0, .int .i64 0] 23) fun u0 v0 =>
 iP u0 0 fun w0 x0 => stC v0 w0 x0 (.int .i64 r0) fun y0 =>
 stC y0 w0 (x0 + 1) (.int .i64 s0) fun z0 =>
 iP u0 0 fun a1 b1 =>
∃ c1, cI z0 a1 b1 .i64 c1 ∧
∃ d1, cell? z0 ⟨a1, b1 + 1, none⟩ = some (.int .i64 d1) ∧
 iP e0 0 fun e1 f1 => stC z0 e1 f1 (.int .i64 c1) fun g1 =>
 stC g1 e1 (f1 + 1) (.int .i64 d1) fun i1 =>
 iP e0 0 fun j1 k1 =>
∃ l1, cI i1 j1 k1 .i64 l1 ∧
∃ m1, cell? i1 ⟨j1, k1 + 1, none⟩ = some (.int .i64 m1) ∧
 R (.returned (.agg #[.int .i64 l1, .int .i64 m1])) i1)
(pk R)) f0
def F1023_L : Nat → List (Nat × TypeDesc) := fun _ => []
theorem F1023_ok {B : World} {R : Ending → Heap → Prop} (a0 b0 : Int) {h : Heap} (H : F1023 B R a0 b0 h) : Ec B 13 #[.agg #[.int .i64 a0, .int .i64 b0]] R h :=
 Ek Tryz.func13 (by kernel_rfl) (by kernel_rfl) (by kernel_rfl) F1023_L [] (by kernel_rfl) H

/-- plumb/span.times -/
def F1046_j2 (B : World) (R : Po) (a0 b0 c0 : Int) (d0 : Bool) (e0 : Heap) : Prop :=
(d0 = true →
 R (.returned (.float .f64 0)) e0) ∧
(d0 = false →
 Ec B 62 #[.int .i64 a0, .int .i64 b0, .int .i64 c0] (retE (fun f0 g0 => ∃ i0 j0, f0 = .tuple #[.int .i64 i0, .int .i64 j0] ∧
 Ec B 35 #[.int .i64 i0] (retE (fun k0 l0 => ∃ m0, k0 = .float .f64 m0 ∧
 R (.returned (.float .f64 m0)) l0)
(pk R)) g0)
(pk R)) e0)
def F1046 (B : World) (R : Po) (n0 o0 p0 : Int) (h : Heap) : Prop :=
 Ec B 56 #[.int .i64 n0] (retE (fun q0 r0 => ∃ s0, q0 = .int .i64 s0 ∧
((decide (s0 = (0 : Int))) = true →
 F1046_j2 B R n0 o0 p0 true r0) ∧
((decide (s0 = (0 : Int))) = false →
 Ec B 56 #[.int .i64 o0] (retE (fun t0 u0 => ∃ v0, t0 = .int .i64 v0 ∧
 F1046_j2 B R n0 o0 p0 (decide (v0 = (0 : Int))) u0)
(pk R)) r0))
(pk R)) h
def F1046_L : Nat → List (Nat × TypeDesc) := fun _ => []
def F1046_J (B : World) (R : Po) : Nat → Option JT := fun i => match i with
  | 2 => some ⟨[(0, .int .i64), (1, .int .i64), (2, .int .i64), (16, .bool)], fun s v h => match s, v with
    | [], [.int _ a0, .int _ b0, .int _ c0, .bool d0] => F1046_j2 B R a0 b0 c0 d0 h
    | _, _ => False⟩
  | _ => none
theorem F1046_ok {B : World} {R : Ending → Heap → Prop} (n0 o0 p0 : Int) {h : Heap} (H : F1046 B R n0 o0 p0 h) : Ec B 33 #[.int .i64 n0, .int .i64 o0, .int .i64 p0] R h :=
 Ej Tryz.func33 (by kernel_rfl) (by kernel_rfl) (by kernel_rfl) F1046_L (F1046_J B R) [] (by kernel_rfl) (by kernel_rfl) H
end Go.Proofs
