import Derived.Test.YtpnfpefcjeafbaaGreatFmtA09
import Derived.Test.YtpnfpefcjeafbaaGreatFmtA42
import Derived.Test.YtpnfpefcjeafbaaGreatFmtA39
/- Here stand lemmas and contracts, in the order in which they are used. -/
set_option linter.unusedVariables false
namespace Go.Proofs
open Go Go.Eng
/-- plumb/sums.Sum -/
def F1360 (B : World) (R : Po) (a0 : OA) (b0 c0 : Nat) (d0 : Int) (h : Heap) : Prop :=
 alW h (.cells #[.slice a0 b0 c0] 22) fun e0 f0 =>
 Ec B 28 #[.int .i64 d0, .slice (some ⟨e0, 0, none⟩) 1 1] (retE (fun g0 i0 => ∃ j0, g0 = .int .i64 j0 ∧
((!decide (j0 = (0 : Int))) = true →
 R (.returned (.tuple #[.int .i64 (0 : Int), .int .i64 j0])) i0) ∧
((!decide (j0 = (0 : Int))) = false →
 Ec B 30 #[.slice a0 b0 c0, .func (.func 31) #[] #[]] (retE (fun k0 l0 => ∃ m0 n0 o0, k0 = .slice m0 n0 o0 ∧
 Ec B 29 #[.slice m0 n0 o0, .func (.func 32) #[] #[], .func (.func 25) #[] #[], .int .i64 d0] (retE (fun p0 q0 => ∃ r0 s0, p0 = .tuple #[.int .i64 r0, .int .i64 s0] ∧
 R (.returned (.tuple #[.int .i64 r0, .int .i64 s0])) q0)
(pk R)) l0)
(pk R)) i0))
(pk R)) f0
def F1360_L : Nat → List (Nat × TypeDesc) := fun _ => []
theorem F1360_ok {B : World} {R : Ending → Heap → Prop} (a0 : OA) (b0 c0 : Nat) (d0 : Int) {h : Heap} (H : F1360 B R a0 b0 c0 d0 h) : Ec B 7 #[.slice a0 b0 c0, .int .i64 d0] R h :=
 Ek Tryz.func7 (by kernel_rfl) (by kernel_rfl) (by kernel_rfl) F1360_L [] (by kernel_rfl) H

/-- plumb/sums.Dot -/
def F1363 (B : World) (R : Po) (a0 : OA) (b0 c0 : Nat) (d0 : OA) (e0 f0 : Nat) (g0 : Int) (h : Heap) : Prop :=
 alW h (.cells #[.slice a0 b0 c0, .slice d0 e0 f0] 22) fun i0 j0 =>
 Ec B 28 #[.int .i64 g0, .slice (some ⟨i0, 0, none⟩) 2 2] (retE (fun k0 l0 => ∃ m0, k0 = .int .i64 m0 ∧
((!decide (m0 = (0 : Int))) = true →
 R (.returned (.tuple #[.int .i64 (0 : Int), .int .i64 m0])) l0) ∧
((!decide (m0 = (0 : Int))) = false →
 Ec B 30 #[.slice a0 b0 c0, .func (.func 31) #[] #[]] (retE (fun n0 o0 => ∃ p0 q0 r0, n0 = .slice p0 q0 r0 ∧
 Ec B 30 #[.slice d0 e0 f0, .func (.func 31) #[] #[]] (retE (fun s0 t0 => ∃ u0 v0 w0, s0 = .slice u0 v0 w0 ∧
 Ec B 42 #[.slice p0 q0 r0, .slice u0 v0 w0, .func (.func 32) #[] #[], .func (.func 25) #[] #[], .int .i64 g0] (retE (fun x0 y0 => ∃ z0 a1, x0 = .tuple #[.int .i64 z0, .int .i64 a1] ∧
 R (.returned (.tuple #[.int .i64 z0, .int .i64 a1])) y0)
(pk R)) t0)
(pk R)) o0)
(pk R)) l0))
(pk R)) j0
def F1363_L : Nat → List (Nat × TypeDesc) := fun _ => []
theorem F1363_ok {B : World} {R : Ending → Heap → Prop} (a0 : OA) (b0 c0 : Nat) (d0 : OA) (e0 f0 : Nat) (g0 : Int) {h : Heap} (H : F1363 B R a0 b0 c0 d0 e0 f0 g0 h) : Ec B 18 #[.slice a0 b0 c0, .slice d0 e0 f0, .int .i64 g0] R h :=
 Ek Tryz.func18 (by kernel_rfl) (by kernel_rfl) (by kernel_rfl) F1363_L [] (by kernel_rfl) H

/-- plumb/sums.look -/
def F1364_j2 (B : World) (R : Po) (a0 : OA) (b0 c0 : Nat) (d0 : Bool) (e0 : Heap) : Prop :=
(d0 = true →
 R (.returned (.int .i64 (1 : Int))) e0) ∧
(d0 = false →
 ∃ f0 : Lp, ∃ g0, f0 g0 [.slice a0 b0 c0, .slice a0 b0 c0, .int .i64 (b0 : Int), .int .i64 (0 : Int)] e0 ∧
∀ (i0 : Nat) (j0 : Heap) (k0 : OA) (l0 m0 : Nat) (n0 : OA) (o0 p0 : Nat) (q0 r0 : Int), f0 i0 [.slice k0 l0 m0, .slice n0 o0 p0, .int .i64 q0, .int .i64 r0] j0 → ∀ _r : Nat → Value,
((decide (r0 < q0)) = true →
 ixW n0 o0 r0 1 fun s0 t0 =>
 iP s0 t0 fun u0 v0 => ∃ w0 x0 y0, cS j0 u0 v0 w0 x0 y0 ∧
 ixW k0 l0 (0 : Int) 1 fun z0 a1 =>
 iP z0 a1 fun b1 c1 => ∃ d1 e1 f1, cS j0 b1 c1 d1 e1 f1 ∧
((!decide ((x0 : Int) = (e1 : Int))) = true →
 R (.returned (.int .i64 (1 : Int))) j0) ∧
((!decide ((x0 : Int) = (e1 : Int))) = false →
 ∃ g1, g1 < i0 ∧ f0 g1 [.slice k0 l0 m0, .slice n0 o0 p0, .int .i64 q0, .int .i64 (IntKind.i64.wrap (r0 + (1 : Int)))] j0)) ∧
((decide (r0 < q0)) = false →
 ixW k0 l0 (0 : Int) 1 fun i1 j1 =>
 iP i1 j1 fun k1 l1 => ∃ m1 n1 o1, cS j0 k1 l1 m1 n1 o1 ∧
((decide ((4096 : Int) < (n1 : Int))) = true →
 R (.returned (.int .i64 (2 : Int))) j0) ∧
((decide ((4096 : Int) < (n1 : Int))) = false →
 R (.returned (.int .i64 (0 : Int))) j0)))
def F1364 (B : World) (R : Po) (p1 : Int) (q1 : OA) (r1 s1 : Nat) (h : Heap) : Prop :=
((decide (p1 < (0 : Int))) = true →
 F1364_j2 B R q1 r1 s1 true h) ∧
((decide (p1 < (0 : Int))) = false →
 F1364_j2 B R q1 r1 s1 (decide ((3 : Int) < p1)) h)
def F1364_L : Nat → List (Nat × TypeDesc) := fun i => match i with
  | 4 => [(1, .slice 0), (13, .slice 0), (14, .int .i64), (15, .int .i64)]
  | _ => []
def F1364_J (B : World) (R : Po) : Nat → Option JT := fun i => match i with
  | 2 => some ⟨[(1, .slice 0), (12, .bool)], fun s v h => match s, v with
    | [], [.slice a0 b0 c0, .bool d0] => F1364_j2 B R a0 b0 c0 d0 h
    | _, _ => False⟩
  | _ => none
theorem F1364_ok {B : World} {R : Ending → Heap → Prop} (p1 : Int) (q1 : OA) (r1 s1 : Nat) {h : Heap} (H : F1364 B R p1 q1 r1 s1 h) : Ec B 28 #[.int .i64 p1, .slice q1 r1 s1] R h :=
 Ej Tryz.func28 (by kernel_rfl) (by kernel_rfl) (by kernel_rfl) F1364_L (F1364_J B R) [] (by kernel_rfl) (by kernel_rfl) H

/-- plumb/sums.summed -/
def F1365 (B : World) (R : Po) (a0 : OA) (b0 c0 : Nat) (d0 e0 : Value) (f0 : Int) (h : Heap) : Prop :=
 alW h (.cells #[.bool false, .bool false, .bool false] 57) fun g0 i0 =>
 alW i0 (.cells #[.bool false, .slice none 0 0] 63) fun j0 k0 =>
∃ l0 : Lp, ∃ m0, l0 m0 [.slice a0 b0 c0, d0, e0, .int .i64 f0, .pointer (some ⟨g0, 0, none⟩), .pointer (some ⟨j0, 0, none⟩), .int .i64 (b0 : Int), .int .i64 (0 : Int)] k0 ∧
∀ (n0 : Nat) (o0 : Heap) (p0 : OA) (q0 r0 : Nat) (s0 t0 : Value) (u0 : Int) (v0 w0 : OA) (x0 y0 : Int), l0 n0 [.slice p0 q0 r0, s0, t0, .int .i64 u0, .pointer v0, .pointer w0, .int .i64 x0, .int .i64 y0] o0 → ∀ _r : Nat → Value,
((decide (y0 < x0)) = true →
 ixW p0 q0 y0 1 fun z0 a1 =>
 iP z0 a1 fun b1 c1 => ∃ d1, cell? o0 ⟨b1, c1, none⟩ = some (.float .f64 d1) ∧
 Ec B 38 #[.pointer v0, .float .f64 d1] (retE (fun e1 f1 => e1 = .tuple #[] ∧
 ixW p0 q0 y0 1 fun g1 i1 =>
 iP g1 i1 fun j1 k1 => ∃ l1, cell? f1 ⟨j1, k1, none⟩ = some (.float .f64 l1) ∧
 Ec B 39 #[.pointer w0, .float .f64 l1, .float .f64 4607182418800017408] (retE (fun m1 n1 => m1 = .tuple #[] ∧
∃ o1, o1 < n0 ∧ l0 o1 [.slice p0 q0 r0, s0, t0, .int .i64 u0, .pointer v0, .pointer w0, .int .i64 x0, .int .i64 (IntKind.i64.wrap (y0 + (1 : Int)))] n1)
(pk R)) f1)
(pk R)) o0) ∧
((decide (y0 < x0)) = false →
 Ec B 63 #[.pointer v0] (retE (fun p1 q1 => ∃ r1 s1, p1 = .tuple #[.float .f64 r1, .bool s1] ∧
(s1 = true →
 Ev B t0 #[.float .f64 r1] (retE (fun t1 u1 => ∃ v1, t1 = .int .i64 v1 ∧
 R (.returned (.tuple #[.int .i64 v1, .int .i64 (0 : Int)])) u1)
(pk R)) q1) ∧
(s1 = false →
 Ec B 41 #[.pointer w0] (retE (fun w1 x1 => ∃ y1 z1 a2 b2 c2, w1 = .agg #[.bool y1, .slice z1 a2 b2, .int .i64 c2] ∧
 Ev B s0 #[.agg #[.bool y1, .slice z1 a2 b2, .int .i64 c2], .int .i64 u0] (retE (fun d2 e2 => ∃ f2 g2 i2, d2 = .tuple #[.int .i64 f2, .bool g2, .int .i64 i2] ∧
 R (.returned (.tuple #[.int .i64 f2, .int .i64 i2])) e2)
(pk R)) x1)
(pk R)) q1))
(pk R)) o0)
def F1365_L : Nat → List (Nat × TypeDesc) := fun i => match i with
  | 4 => [(0, .slice 0), (1, .invalid), (2, .invalid), (3, .int .i64), (10, .pointer 0), (11, .pointer 0), (19, .int .i64), (20, .int .i64)]
  | _ => []
theorem F1365_ok {B : World} {R : Ending → Heap → Prop} (a0 : OA) (b0 c0 : Nat) (d0 e0 : Value) (f0 : Int) {h : Heap} (H : F1365 B R a0 b0 c0 d0 e0 f0 h) : Ec B 29 #[.slice a0 b0 c0, d0, e0, .int .i64 f0] R h :=
 Ek Tryz.func29 (by kernel_rfl) (by kernel_rfl) (by kernel_rfl) F1365_L [] (by kernel_rfl) H

/-- plumb/sums.values[float64] -/
def F1366 (B : World) (R : Po) (a0 : OA) (b0 c0 : Nat) (d0 : Value) (h : Heap) : Prop :=
  0 ≤ (b0 : Int) ∧ (b0 : Int) ≤ (b0 : Int) ∧ 8 * (b0 : Int) ≤ 281474976710656 ∧ (b0 : Int) < 9223372036854775808 ∧
 alW h (.cells (mkCells #[.float .f64 0] (Int.toNat (b0 : Int) * 1)) 43) fun e0 f0 =>
∃ g0 : Lp, ∃ i0, g0 i0 [.slice a0 b0 c0, d0, .slice (some ⟨e0, 0, none⟩) (Int.toNat (b0 : Int)) (Int.toNat (b0 : Int)), .int .i64 (b0 : Int), .int .i64 (0 : Int)] f0 ∧
∀ (j0 : Nat) (k0 : Heap) (l0 : OA) (m0 n0 : Nat) (o0 : Value) (p0 : OA) (q0 r0 : Nat) (s0 t0 : Int), g0 j0 [.slice l0 m0 n0, o0, .slice p0 q0 r0, .int .i64 s0, .int .i64 t0] k0 → ∀ _r : Nat → Value,
((decide (t0 < s0)) = true →
 ixW l0 m0 t0 1 fun u0 v0 =>
 iP u0 v0 fun w0 x0 => ∃ y0, cI k0 w0 x0 .i64 y0 ∧
 Ev B o0 #[.int .i64 y0] (retE (fun z0 a1 => ∃ b1, z0 = .float .f64 b1 ∧
 ixW p0 q0 t0 1 fun c1 d1 =>
 iP c1 d1 fun e1 f1 => stC a1 e1 f1 (.float .f64 b1) fun g1 =>
∃ i1, i1 < j0 ∧ g0 i1 [.slice l0 m0 n0, o0, .slice p0 q0 r0, .int .i64 s0, .int .i64 (IntKind.i64.wrap (t0 + (1 : Int)))] g1)
(pk R)) k0) ∧
((decide (t0 < s0)) = false →
 R (.returned (.slice p0 q0 r0)) k0)
def F1366_L : Nat → List (Nat × TypeDesc) := fun i => match i with
  | 3 => [(0, .slice 0), (1, .invalid), (5, .slice 0), (11, .int .i64), (12, .int .i64)]
  | _ => []
theorem F1366_ok {B : World} {R : Ending → Heap → Prop} (a0 : OA) (b0 c0 : Nat) (d0 : Value) {h : Heap} (H : F1366 B R a0 b0 c0 d0 h) : Ec B 30 #[.slice a0 b0 c0, d0] R h :=
 Ek Tryz.func30 (by kernel_rfl) (by kernel_rfl) (by kernel_rfl) F1366_L [] (by kernel_rfl) H

/-- plumb/sums.Sum32 -/
def F1367 (B : World) (R : Po) (a0 : OA) (b0 c0 : Nat) (d0 : Int) (h : Heap) : Prop :=
 alW h (.cells #[.slice a0 b0 c0] 22) fun e0 f0 =>
 Ec B 28 #[.int .i64 d0, .slice (some ⟨e0, 0, none⟩) 1 1] (retE (fun g0 i0 => ∃ j0, g0 = .int .i64 j0 ∧
((!decide (j0 = (0 : Int))) = true →
 R (.returned (.tuple #[.int .i64 (0 : Int), .int .i64 j0])) i0) ∧
((!decide (j0 = (0 : Int))) = false →
 Ec B 30 #[.slice a0 b0 c0, .func (.func 46) #[] #[]] (retE (fun k0 l0 => ∃ m0 n0 o0, k0 = .slice m0 n0 o0 ∧
 Ec B 29 #[.slice m0 n0 o0, .func (.func 22) #[] #[], .func (.func 47) #[] #[], .int .i64 d0] (retE (fun p0 q0 => ∃ r0 s0, p0 = .tuple #[.int .i64 r0, .int .i64 s0] ∧
 R (.returned (.tuple #[.int .i64 r0, .int .i64 s0])) q0)
(pk R)) l0)
(pk R)) i0))
(pk R)) f0
def F1367_L : Nat → List (Nat × TypeDesc) := fun _ => []
theorem F1367_ok {B : World} {R : Ending → Heap → Prop} (a0 : OA) (b0 c0 : Nat) (d0 : Int) {h : Heap} (H : F1367 B R a0 b0 c0 d0 h) : Ec B 21 #[.slice a0 b0 c0, .int .i64 d0] R h :=
 Ek Tryz.func21 (by kernel_rfl) (by kernel_rfl) (by kernel_rfl) F1367_L [] (by kernel_rfl) H

/-- plumb/sums.Left -/
def F1368 (B : World) (R : Po) (a0 : OA) (b0 c0 : Nat) (h : Heap) : Prop :=
 Ec B 30 #[.slice a0 b0 c0, .func (.func 31) #[] #[]] (retE (fun d0 e0 => ∃ f0 g0 i0, d0 = .slice f0 g0 i0 ∧
 Ec B 33 #[.slice f0 g0 i0] (retE (fun j0 k0 => ∃ l0, j0 = .float .f64 l0 ∧
 Ec B 25 #[.float .f64 l0] (retE (fun m0 n0 => ∃ o0, m0 = .int .i64 o0 ∧
 R (.returned (.int .i64 o0)) n0)
(pk R)) k0)
(pk R)) e0)
(pk R)) h
def F1368_L : Nat → List (Nat × TypeDesc) := fun _ => []
theorem F1368_ok {B : World} {R : Ending → Heap → Prop} (a0 : OA) (b0 c0 : Nat) {h : Heap} (H : F1368 B R a0 b0 c0 h) : Ec B 9 #[.slice a0 b0 c0] R h :=
 Ek Tryz.func9 (by kernel_rfl) (by kernel_rfl) (by kernel_rfl) F1368_L [] (by kernel_rfl) H

/-- plumb/sums.dotted -/
def F1369_j9 (B : World) (R : Po) (a0 : Lp) (b0 : Nat) (c0 : OA) (d0 e0 : Nat) (f0 : OA) (g0 i0 : Nat) (j0 k0 : Value) (l0 : Int) (m0 n0 : OA) (o0 p0 : Int) (q0 : Heap) : Prop :=
 ∃ r0, r0 < b0 ∧ a0 r0 [.slice c0 d0 e0, .slice f0 g0 i0, j0, k0, .int .i64 l0, .pointer m0, .pointer n0, .int .i64 o0, .int .i64 (IntKind.i64.wrap (p0 + (1 : Int)))] q0
def F1369_j7 (B : World) (R : Po) (a0 : Lp) (b0 : Nat) (s0 : OA) (t0 u0 : Nat) (v0 : OA) (w0 x0 : Nat) (y0 z0 : Value) (a1 : Int) (b1 c1 : OA) (d1 e1 f1 : Int) (g1 : Bool) (i1 : Heap) : Prop :=
(g1 = true →
 ixW s0 t0 d1 1 fun j1 k1 =>
 iP j1 k1 fun l1 m1 => ∃ n1, cell? i1 ⟨l1, m1, none⟩ = some (.float .f64 n1) ∧
 ixW v0 w0 d1 1 fun o1 p1 =>
 iP o1 p1 fun q1 r1 => ∃ s1, cell? i1 ⟨q1, r1, none⟩ = some (.float .f64 s1) ∧
 flW .f64 (FloatKind.f64.format.mul n1 s1) n1 s1 fun t1 =>
 Ec B 38 #[.pointer b1, .float .f64 t1] (retE (fun u1 v1 => u1 = .tuple #[] ∧
 F1369_j9 B R a0 b0 s0 t0 u0 v0 w0 x0 y0 z0 a1 b1 c1 e1 f1 v1)
(fun _ _ => False)) i1) ∧
(g1 = false →
 ixW s0 t0 d1 1 fun w1 x1 =>
 iP w1 x1 fun y1 z1 => ∃ a2, cell? i1 ⟨y1, z1, none⟩ = some (.float .f64 a2) ∧
 ixW v0 w0 d1 1 fun b2 c2 =>
 iP b2 c2 fun d2 e2 => ∃ f2, cell? i1 ⟨d2, e2, none⟩ = some (.float .f64 f2) ∧
 Ec B 39 #[.pointer c1, .float .f64 a2, .float .f64 f2] (retE (fun g2 i2 => g2 = .tuple #[] ∧
 F1369_j9 B R a0 b0 s0 t0 u0 v0 w0 x0 y0 z0 a1 b1 c1 e1 f1 i2)
(fun _ _ => False)) i1)
def F1369_j46 (B : World) (R : Po) (a0 : Lp) (b0 : Nat) (j2 : OA) (k2 l2 : Nat) (m2 : OA) (n2 o2 : Nat) (p2 q2 : Value) (r2 : Int) (s2 t2 : OA) (u2 v2 w2 : Int) (x2 : Bool) (y2 : Heap) : Prop :=
(x2 = true →
 F1369_j7 B R a0 b0 j2 k2 l2 m2 n2 o2 p2 q2 r2 s2 t2 u2 v2 w2 true y2) ∧
(x2 = false →
 ixW m2 n2 u2 1 fun z2 a3 =>
 iP z2 a3 fun b3 c3 => ∃ d3, cell? y2 ⟨b3, c3, none⟩ = some (.float .f64 d3) ∧
 ixW m2 n2 u2 1 fun e3 f3 =>
 iP e3 f3 fun g3 i3 => ∃ j3, cell? y2 ⟨g3, i3, none⟩ = some (.float .f64 j3) ∧
 F1369_j7 B R a0 b0 j2 k2 l2 m2 n2 o2 p2 q2 r2 s2 t2 u2 v2 w2 (FloatKind.f64.format.order d3 j3 != some .eq) y2)
def F1369_j33 (B : World) (R : Po) (a0 : Lp) (b0 : Nat) (k3 : OA) (l3 m3 : Nat) (n3 : OA) (o3 p3 : Nat) (q3 r3 : Value) (s3 : Int) (t3 u3 : OA) (v3 w3 x3 : Int) (y3 : Bool) (z3 : Heap) : Prop :=
(y3 = true →
 F1369_j46 B R a0 b0 k3 l3 m3 n3 o3 p3 q3 r3 s3 t3 u3 v3 w3 x3 true z3) ∧
(y3 = false →
 ixW k3 l3 v3 1 fun a4 b4 =>
 iP a4 b4 fun c4 d4 => ∃ e4, cell? z3 ⟨c4, d4, none⟩ = some (.float .f64 e4) ∧
 ixW k3 l3 v3 1 fun f4 g4 =>
 iP f4 g4 fun i4 j4 => ∃ k4, cell? z3 ⟨i4, j4, none⟩ = some (.float .f64 k4) ∧
 F1369_j46 B R a0 b0 k3 l3 m3 n3 o3 p3 q3 r3 s3 t3 u3 v3 w3 x3 (FloatKind.f64.format.order e4 k4 != some .eq) z3)
def F1369 (B : World) (R : Po) (l4 : OA) (m4 n4 : Nat) (o4 : OA) (p4 q4 : Nat) (r4 s4 : Value) (t4 : Int) (h : Heap) : Prop :=
 alW h (.cells #[.bool false, .bool false, .bool false] 57) fun u4 v4 =>
 alW v4 (.cells #[.bool false, .slice none 0 0] 63) fun w4 x4 =>
∃ a0 : Lp, ∃ y4, a0 y4 [.slice l4 m4 n4, .slice o4 p4 q4, r4, s4, .int .i64 t4, .pointer (some ⟨u4, 0, none⟩), .pointer (some ⟨w4, 0, none⟩), .int .i64 (m4 : Int), .int .i64 (0 : Int)] x4 ∧
∀ (b0 : Nat) (z4 : Heap) (a5 : OA) (b5 c5 : Nat) (d5 : OA) (e5 f5 : Nat) (g5 i5 : Value) (j5 : Int) (k5 l5 : OA) (m5 n5 : Int), a0 b0 [.slice a5 b5 c5, .slice d5 e5 f5, g5, i5, .int .i64 j5, .pointer k5, .pointer l5, .int .i64 m5, .int .i64 n5] z4 → ∀ _r : Nat → Value,
((decide (n5 < m5)) = true →
 ixW a5 b5 n5 1 fun o5 p5 =>
 iP o5 p5 fun q5 r5 => ∃ s5, cell? z4 ⟨q5, r5, none⟩ = some (.float .f64 s5) ∧
 Ec B 65 #[.float .f64 s5, .int .i64 (0 : Int)] (retE (fun t5 u5 => ∃ v5, t5 = .bool v5 ∧
(v5 = true →
 F1369_j33 B R a0 b0 a5 b5 c5 d5 e5 f5 g5 i5 j5 k5 l5 n5 m5 n5 true u5) ∧
(v5 = false →
 ixW d5 e5 n5 1 fun w5 x5 =>
 iP w5 x5 fun y5 z5 => ∃ a6, cell? u5 ⟨y5, z5, none⟩ = some (.float .f64 a6) ∧
 Ec B 65 #[.float .f64 a6, .int .i64 (0 : Int)] (retE (fun b6 c6 => ∃ d6, b6 = .bool d6 ∧
 F1369_j33 B R a0 b0 a5 b5 c5 d5 e5 f5 g5 i5 j5 k5 l5 n5 m5 n5 d6 c6)
(fun _ _ => False)) u5))
(fun _ _ => False)) z4) ∧
((decide (n5 < m5)) = false →
 Ec B 63 #[.pointer k5] (retE (fun e6 f6 => ∃ g6 i6, e6 = .tuple #[.float .f64 g6, .bool i6] ∧
(i6 = true →
 Ev B i5 #[.float .f64 g6] (retE (fun j6 k6 => ∃ l6, j6 = .int .i64 l6 ∧
 R (.returned (.tuple #[.int .i64 l6, .int .i64 (0 : Int)])) k6)
(pk R)) f6) ∧
(i6 = false →
 Ec B 41 #[.pointer l5] (retE (fun m6 n6 => ∃ o6 p6 q6 r6 s6, m6 = .agg #[.bool o6, .slice p6 q6 r6, .int .i64 s6] ∧
 Ev B g5 #[.agg #[.bool o6, .slice p6 q6 r6, .int .i64 s6], .int .i64 j5] (retE (fun t6 u6 => ∃ v6 w6 x6, t6 = .tuple #[.int .i64 v6, .bool w6, .int .i64 x6] ∧
 R (.returned (.tuple #[.int .i64 v6, .int .i64 x6])) u6)
(pk R)) n6)
(pk R)) f6))
(pk R)) z4)
def F1369_L : Nat → List (Nat × TypeDesc) := fun i => match i with
  | 4 => [(0, .slice 0), (1, .slice 0), (2, .invalid), (3, .invalid), (4, .int .i64), (12, .pointer 0), (13, .pointer 0), (21, .int .i64), (22, .int .i64)]
  | _ => []
def F1369_J (B : World) (R : Po) : Nat → Option JT := fun i => match i with
  | 7 => some ⟨[(0, .slice 0), (1, .slice 0), (2, .invalid), (3, .invalid), (4, .int .i64), (12, .pointer 0), (13, .pointer 0), (14, .int .i64), (21, .int .i64), (22, .int .i64), (58, .bool)], fun s v h => match s, v with
    | [(a0, b0)], [.slice s0 t0 u0, .slice v0 w0 x0, y0, z0, .int _ a1, .pointer b1, .pointer c1, .int _ d1, .int _ e1, .int _ f1, .bool g1] => F1369_j7 B R a0 b0 s0 t0 u0 v0 w0 x0 y0 z0 a1 b1 c1 d1 e1 f1 g1 h
    | _, _ => False⟩
  | 9 => some ⟨[(0, .slice 0), (1, .slice 0), (2, .invalid), (3, .invalid), (4, .int .i64), (12, .pointer 0), (13, .pointer 0), (21, .int .i64), (22, .int .i64)], fun s v h => match s, v with
    | [(a0, b0)], [.slice c0 d0 e0, .slice f0 g0 i0, j0, k0, .int _ l0, .pointer m0, .pointer n0, .int _ o0, .int _ p0] => F1369_j9 B R a0 b0 c0 d0 e0 f0 g0 i0 j0 k0 l0 m0 n0 o0 p0 h
    | _, _ => False⟩
  | _ => none
theorem F1369_ok {B : World} {R : Ending → Heap → Prop} (l4 : OA) (m4 n4 : Nat) (o4 : OA) (p4 q4 : Nat) (r4 s4 : Value) (t4 : Int) {h : Heap} (H : F1369 B R l4 m4 n4 o4 p4 q4 r4 s4 t4 h) : Ec B 42 #[.slice l4 m4 n4, .slice o4 p4 q4, r4, s4, .int .i64 t4] R h :=
 Ej Tryz.func42 (by kernel_rfl) (by kernel_rfl) (by kernel_rfl) F1369_L (F1369_J B R) [] (by kernel_rfl) (by kernel_rfl) H

/-- (*plumb/sums.met).see -/
def F1370_j56 (B : World) (R : Po) (a0 : OA) (b0 : Bool) (c0 : Heap) : Prop :=
 isP a0 fun d0 e0 =>
 iP d0 e0 fun f0 g0 =>
 isP (some ⟨f0, g0 + 2, none⟩) fun i0 j0 => stC c0 i0 j0 (.bool b0) fun k0 =>
 R (.returned (.tuple #[])) k0
def F1370_j2 (B : World) (R : Po) (l0 : OA) (m0 : Nat) (n0 : Heap) : Prop :=
 isP l0 fun o0 p0 =>
 iP o0 p0 fun q0 r0 =>
 isP (some ⟨q0, r0 + 2, none⟩) fun s0 t0 => ∃ u0, cell? n0 ⟨s0, t0, none⟩ = some (.bool u0) ∧
(u0 = true →
 F1370_j56 B R l0 true n0) ∧
(u0 = false →
 F1370_j56 B R l0 (FloatKind.f64.format.order m0 m0 != some .eq) n0)
def F1370_j33 (B : World) (R : Po) (v0 : OA) (w0 : Nat) (x0 : OA) (y0 : Bool) (z0 : Heap) : Prop :=
 isP x0 fun a1 b1 =>
 iP a1 b1 fun c1 d1 =>
 isP (some ⟨c1, d1 + 1, none⟩) fun e1 f1 => stC z0 e1 f1 (.bool y0) fun g1 =>
 F1370_j2 B R v0 w0 g1
def F1370_j1 (B : World) (R : Po) (i1 : OA) (j1 : Nat) (k1 : Heap) : Prop :=
 isP i1 fun l1 m1 =>
 iP l1 m1 fun n1 o1 =>
 isP (some ⟨n1, o1 + 1, none⟩) fun p1 q1 => ∃ r1, cell? k1 ⟨p1, q1, none⟩ = some (.bool r1) ∧
(r1 = true →
 F1370_j33 B R i1 j1 i1 true k1) ∧
(r1 = false →
 F1370_j33 B R i1 j1 i1 (FloatKind.f64.format.order j1 18442240474082181119 == some .lt) k1)
def F1370_j10 (B : World) (R : Po) (s1 : OA) (t1 : Nat) (u1 : OA) (v1 : Bool) (w1 : Heap) : Prop :=
 isP u1 fun x1 y1 =>
 iP x1 y1 fun z1 a2 =>
 iP z1 a2 fun b2 c2 => stC w1 b2 c2 (.bool v1) fun d2 =>
 F1370_j1 B R s1 t1 d2
def F1370 (B : World) (R : Po) (e2 : OA) (f2 : Nat) (h : Heap) : Prop :=
 isP e2 fun g2 i2 =>
 iP g2 i2 fun j2 k2 =>
 iP j2 k2 fun l2 m2 => ∃ n2, cell? h ⟨l2, m2, none⟩ = some (.bool n2) ∧
(n2 = true →
 F1370_j10 B R e2 f2 e2 true h) ∧
(n2 = false →
 F1370_j10 B R e2 f2 e2 (FloatKind.f64.format.order f2 9218868437227405311 == some .gt) h)
def F1370_L : Nat → List (Nat × TypeDesc) := fun _ => []
def F1370_J (B : World) (R : Po) : Nat → Option JT := fun i => match i with
  | 1 => some ⟨[(0, .pointer 0), (1, .float .f64)], fun s v h => match s, v with
    | [], [.pointer i1, .float _ j1] => F1370_j1 B R i1 j1 h
    | _, _ => False⟩
  | 2 => some ⟨[(0, .pointer 0), (1, .float .f64)], fun s v h => match s, v with
    | [], [.pointer l0, .float _ m0] => F1370_j2 B R l0 m0 h
    | _, _ => False⟩
  | _ => none
theorem F1370_ok {B : World} {R : Ending → Heap → Prop} (e2 : OA) (f2 : Nat) {h : Heap} (H : F1370 B R e2 f2 h) : Ec B 38 #[.pointer e2, .float .f64 f2] R h :=
 Ej Tryz.func38 (by kernel_rfl) (by kernel_rfl) (by kernel_rfl) F1370_L (F1370_J B R) [] (by kernel_rfl) (by kernel_rfl) H

/-- (*plumb/sums.met).special -/
def F1372_j2 (B : World) (R : Po) (a0 : OA) (b0 : Bool) (c0 : Heap) : Prop :=
(b0 = true →
 Ec B 97 #[] (retE (fun d0 e0 => ∃ f0, d0 = .float .f64 f0 ∧
 R (.returned (.tuple #[.float .f64 f0, .bool true])) e0)
(pk R)) c0) ∧
(b0 = false →
 isP a0 fun g0 i0 =>
 iP g0 i0 fun j0 k0 =>
 iP j0 k0 fun l0 m0 => ∃ n0, cell? c0 ⟨l0, m0, none⟩ = some (.bool n0) ∧
(n0 = true →
 Ec B 98 #[.int .i64 (1 : Int)] (retE (fun o0 p0 => ∃ q0, o0 = .float .f64 q0 ∧
 R (.returned (.tuple #[.float .f64 q0, .bool true])) p0)
(pk R)) c0) ∧
(n0 = false →
 isP a0 fun r0 s0 =>
 iP r0 s0 fun t0 u0 =>
 isP (some ⟨t0, u0 + 1, none⟩) fun v0 w0 => ∃ x0, cell? c0 ⟨v0, w0, none⟩ = some (.bool x0) ∧
(x0 = true →
 Ec B 98 #[.int .i64 (-1 : Int)] (retE (fun y0 z0 => ∃ a1, y0 = .float .f64 a1 ∧
 R (.returned (.tuple #[.float .f64 a1, .bool true])) z0)
(pk R)) c0) ∧
(x0 = false →
 R (.returned (.tuple #[.float .f64 0, .bool false])) c0)))
def F1372_j9 (B : World) (R : Po) (b1 : OA) (c1 : Bool) (d1 : Heap) : Prop :=
 F1372_j2 B R b1 c1 d1
def F1372 (B : World) (R : Po) (e1 : OA) (h : Heap) : Prop :=
 isP e1 fun f1 g1 =>
 iP f1 g1 fun i1 j1 =>
 isP (some ⟨i1, j1 + 2, none⟩) fun k1 l1 => ∃ m1, cell? h ⟨k1, l1, none⟩ = some (.bool m1) ∧
(m1 = true →
 F1372_j9 B R e1 true h) ∧
(m1 = false →
 isP e1 fun n1 o1 =>
 iP n1 o1 fun p1 q1 =>
 iP p1 q1 fun r1 s1 => ∃ t1, cell? h ⟨r1, s1, none⟩ = some (.bool t1) ∧
(t1 = true →
 isP e1 fun u1 v1 =>
 iP u1 v1 fun w1 x1 =>
 isP (some ⟨w1, x1 + 1, none⟩) fun y1 z1 => ∃ a2, cell? h ⟨y1, z1, none⟩ = some (.bool a2) ∧
 F1372_j9 B R e1 a2 h) ∧
(t1 = false →
 F1372_j9 B R e1 false h))
def F1372_L : Nat → List (Nat × TypeDesc) := fun _ => []
def F1372_J (B : World) (R : Po) : Nat → Option JT := fun i => match i with
  | 2 => some ⟨[(0, .pointer 0), (4, .bool)], fun s v h => match s, v with
    | [], [.pointer a0, .bool b0] => F1372_j2 B R a0 b0 h
    | _, _ => False⟩
  | _ => none
theorem F1372_ok {B : World} {R : Ending → Heap → Prop} (e1 : OA) {h : Heap} (H : F1372 B R e1 h) : Ec B 63 #[.pointer e1] R h :=
 Ej Tryz.func63 (by kernel_rfl) (by kernel_rfl) (by kernel_rfl) F1372_L (F1372_J B R) [] (by kernel_rfl) (by kernel_rfl) H

/-- plumb/sums.wide -/
def F1374 (B : World) (R : Po) (a0 : Int) (h : Heap) : Prop :=
 Ec B 45 #[.int .i64 a0] (retE (fun b0 c0 => ∃ d0, b0 = .float .f32 d0 ∧
 cvW .f32 d0 .f64 fun e0 =>
 R (.returned (.float .f64 e0)) c0)
(pk R)) h
def F1374_L : Nat → List (Nat × TypeDesc) := fun _ => []
theorem F1374_ok {B : World} {R : Ending → Heap → Prop} (a0 : Int) {h : Heap} (H : F1374 B R a0 h) : Ec B 46 #[.int .i64 a0] R h :=
 Ek Tryz.func46 (by kernel_rfl) (by kernel_rfl) (by kernel_rfl) F1374_L [] (by kernel_rfl) H

/-- plumb/sums.left[float64] -/
def F1377 (B : World) (R : Po) (a0 : OA) (b0 c0 : Nat) (h : Heap) : Prop :=
 ∃ d0 : Lp, ∃ e0, d0 e0 [.slice a0 b0 c0, .float .f64 0, .int .i64 (b0 : Int), .int .i64 (0 : Int)] h ∧
∀ (f0 : Nat) (g0 : Heap) (i0 : OA) (j0 k0 l0 : Nat) (m0 n0 : Int), d0 f0 [.slice i0 j0 k0, .float .f64 l0, .int .i64 m0, .int .i64 n0] g0 → ∀ _r : Nat → Value,
((decide (n0 < m0)) = true →
 ixW i0 j0 n0 1 fun o0 p0 =>
 iP o0 p0 fun q0 r0 => ∃ s0, cell? g0 ⟨q0, r0, none⟩ = some (.float .f64 s0) ∧
 flW .f64 (FloatKind.f64.format.add l0 s0) l0 s0 fun t0 =>
∃ u0, u0 < f0 ∧ d0 u0 [.slice i0 j0 k0, .float .f64 t0, .int .i64 m0, .int .i64 (IntKind.i64.wrap (n0 + (1 : Int)))] g0) ∧
((decide (n0 < m0)) = false →
 R (.returned (.float .f64 l0)) g0)
def F1377_L : Nat → List (Nat × TypeDesc) := fun i => match i with
  | 3 => [(0, .slice 0), (3, .float .f64), (6, .int .i64), (7, .int .i64)]
  | _ => []
theorem F1377_ok {B : World} {R : Ending → Heap → Prop} (a0 : OA) (b0 c0 : Nat) {h : Heap} (H : F1377 B R a0 b0 c0 h) : Ec B 33 #[.slice a0 b0 c0] R h :=
 Ek Tryz.func33 (by kernel_rfl) (by kernel_rfl) (by kernel_rfl) F1377_L [] (by kernel_rfl) H
end Go.Proofs
set_option linter.unusedVariables false
/-! sums.met: what a list has beside finite floats. -/
namespace Go.Proofs
open Go Go.Eng
variable {B : World} {R : Ending → Heap → Prop} {h : Heap}
theorem fin_rk {a : Int} (ia : I64 a) (fa : isFin a = true) : -9218868437227405311 ≤ rk a ∧ rk a ≤ 9218868437227405311 := by
  obtain ⟨s, E, t, e, e2, ht, _, _⟩ := pat_parts ia fa
  rw [e, rk_pat (by omega)]
  cases s
  · simp only [Bool.false_eq_true, if_false]; omega
  · simp only [if_true]; omega
abbrev MET : Array Value := #[.bool false, .bool false, .bool false]
/-- met.see, of a finite float. -/
theorem K1370 {b : Nat} {a : Int} (O : Own h b MET) (ia : I64 a) (fa : isFin a = true) (H : ∀ h', Fr (fun x => x = b) h h' → Own h' b MET → R (.returned (.tuple #[])) h') :
    Ent Tryz.prog B 38 #[.pointer (some ⟨b, 0, none⟩), .float .f64 (wd a)] R h := by
  obtain ⟨r1, r2⟩ := fin_rk ia fa
  have hgt : (FloatKind.f64.format.order (wd a) 9218868437227405311 == some .gt) = false := by
    have h1 := order_rk ia (b := 9218868437227405311) (by unfold I64; omega) (fin_not fa).1 (by decide +kernel)
    rw [wmax, show rk 9218868437227405311 = 9218868437227405311 from by decide] at h1
    rw [h1, gt_ord]
    exact decide_eq_false (by omega)
  have hlt : (FloatKind.f64.format.order (wd a) 18442240474082181119 == some .lt) = false := by
    have h1 := order_rk ia (b := -4503599627370497) (by unfold I64; omega) (fin_not fa).1 (by decide +kernel)
    rw [show wd (-4503599627370497) = 18442240474082181119 from by decide, show rk (-4503599627370497) = -9218868437227405311 from by decide] at h1
    rw [h1, lt_ord]
    exact decide_eq_false (by omega)
  have hs : (FloatKind.f64.format.order (wd a) (wd a) != some .eq) = isNaN (sg (wd a)) := order_self (wd_lt _)
  rw [sg_wd ia, (fin_not fa).1] at hs
  refine F1370_ok _ _ ⟨b, 0, rfl, b, 0, rfl, b, 0, rfl, false, (O.cell _).trans rfl, fun e => (by cases e), fun _ => ?_⟩
  rw [hgt]
  refine ⟨b, 0, rfl, b, 0, rfl, b, 0, rfl, O.stC (by simp) rfl fun oa fa1 => ?_⟩
  have oa : Own _ b MET := oa
  refine ⟨b, 0, rfl, b, 0, rfl, b, 0 + 1, rfl, false, (oa.cell _).trans rfl, fun e => (by cases e), fun _ => ?_⟩
  rw [hlt]
  refine ⟨b, 0, rfl, b, 0, rfl, b, 0 + 1, rfl, oa.stC (by simp) rfl fun ob fb1 => ?_⟩
  have ob : Own _ b MET := ob
  refine ⟨b, 0, rfl, b, 0, rfl, b, 0 + 2, rfl, false, (ob.cell _).trans rfl, fun e => (by cases e), fun _ => ?_⟩
  rw [hs]
  refine ⟨b, 0, rfl, b, 0, rfl, b, 0 + 2, rfl, ob.stC (by simp) rfl fun oc fc1 => ?_⟩
  have oc : Own _ b MET := oc
  exact H _ (Fr.trans (S := fun x => x = b) (Fr.trans (S := fun x => x = b) fa1 fb1 fun _ _ e => e) fc1 fun _ _ e => e) oc
/-- met.special, where all is finite. -/
theorem K1372 {b : Nat} (O : Own h b MET) (H : R (.returned (.tuple #[.float .f64 0, .bool false])) h) : Ent Tryz.prog B 63 #[.pointer (some ⟨b, 0, none⟩)] R h := by
  refine F1372_ok _ ⟨b, 0, rfl, b, 0, rfl, b, 0 + 2, rfl, false, (O.cell _).trans rfl, fun e => (by cases e), fun _ => ⟨b, 0, rfl, b, 0, rfl, b, 0, rfl, false, (O.cell _).trans rfl, fun e => (by cases e), fun _ => ?_⟩⟩
  refine ⟨fun e => (by cases e), fun _ => ⟨b, 0, rfl, b, 0, rfl, b, 0, rfl, false, (O.cell _).trans rfl, fun e => (by cases e), fun _ => ⟨b, 0, rfl, b, 0, rfl, b, 0 + 1, rfl, false, (O.cell _).trans rfl, fun e => (by cases e), fun _ => H⟩⟩⟩
/-- sums.look, of one list. -/
theorem K1364 {e n c : Nat} {p : Option Addr} {w : Int} (O : Own h e #[.slice p n c]) (h0 : 0 ≤ w) (h4 : w < 4) (hn : n ≤ 4096) (H : R (.returned (.int .i64 (0 : Int))) h) : Ent Tryz.prog B 28 #[.int .i64 w, .slice (some ⟨e, 0, none⟩) 1 1] R h := by
  have lt : decide (w < (0 : Int)) = false := decide_eq_false (by omega)
  have gt : decide ((3 : Int) < w) = false := decide_eq_false (by omega)
  refine F1364_ok _ _ _ _ ?_
  unfold F1364
  rw [lt, gt]
  refine ⟨fun e => (by cases e), fun _ => ⟨fun e => (by cases e), fun _ => ⟨fun m vs h' => match vs with
    | [.slice p1 n1 c1, .slice p2 n2 c2, .int _ nn, .int _ i] => p1 = some (⟨e, 0, none⟩ : Addr) ∧ n1 = 1 ∧ p2 = some (⟨e, 0, none⟩ : Addr) ∧ n2 = 1 ∧ nn = 1 ∧ h = h' ∧ ((i = 0 ∧ m = 1) ∨ (i = 1 ∧ m = 0))
    | _ => False, 1, ⟨rfl, rfl, rfl, rfl, rfl, rfl, .inl ⟨rfl, rfl⟩⟩, ?_⟩⟩⟩
  rintro m h' _ _ _ _ _ _ _ _ ⟨rfl, rfl, rfl, rfl, rfl, rfl, hi⟩ _
  have cs : ∀ x, x = e → cell? h ⟨x, 0, none⟩ = some (.slice p n c) := fun x hx => by subst hx; exact (O.cell _).trans rfl
  rcases hi with ⟨rfl, rfl⟩ | ⟨rfl, rfl⟩
  · refine ⟨fun _ => ⟨e, 0, rfl, by decide, by decide, e, _, rfl, p, n, c, cs _ rfl, e, 0, rfl, by decide, by decide, e, _, rfl, p, n, c, cs _ rfl, fun e1 => ?_, fun _ => ⟨0, by decide, rfl, rfl, rfl, rfl, rfl, rfl, .inr ⟨rfl, rfl⟩⟩⟩, fun e => absurd e (by decide)⟩
    simp at e1
  · refine ⟨fun e => absurd e (by decide), fun _ => ⟨e, 0, rfl, by decide, by decide, e, _, rfl, p, n, c, cs _ rfl, fun e1 => absurd (of_decide_eq_true e1) (by omega), fun _ => H⟩⟩
end Go.Proofs
set_option linter.unusedVariables false
/-! sums.values. -/
namespace Go.Proofs
open Go Go.Eng
variable {B : World} {R : Ending → Heap → Prop} {h : Heap}
/-- A block of floats. -/
def FlsA (h : Heap) (e : Nat) (l : List Int) : Prop := ∃ cs : Array Value, Own h e cs ∧ cs.size = l.length ∧ ∀ i (hi : i < l.length), cs[i]? = some (.float .f64 (wd l[i]))
/-- sums.values, by a function that tells the float of a pattern. -/
theorem K1366 {f n c : Nat} {p : Option Addr} {l : List Int} {φ : Int → Int} (I : IntsH h p l) (hn : l.length = n) (hl : n ≤ 100000)
    (Hf : ∀ {R' : Ending → Heap → Prop} (x : Int) (h' : Heap), x ∈ l → R' (.returned (.float .f64 (wd (φ x)))) h' → EntV Tryz.prog B (.func (.func f) #[] #[]) #[.int .i64 x] R' h')
    (H : ∀ e h', Ext h h' → h.size ≤ e → FlsA h' e (l.map φ) → R (.returned (.slice (some ⟨e, 0, none⟩) n n)) h') :
    Ent Tryz.prog B 30 #[.slice p n c, .func (.func f) #[] #[]] R h := by
  refine F1366_ok _ _ _ _ ⟨by omega, Int.le_refl _, by omega, by omega, alK fun e h1 e1 f1 o1 z1 => ⟨fun m vs h' => match vs with
    | [.slice p1 n1 c1, g, .slice p2 n2 c2, .int _ nn, .int _ i] => p = p1 ∧ n = n1 ∧ g = .func (.func f) #[] #[] ∧ p2 = some (⟨e, 0, none⟩ : Addr) ∧ n = n2 ∧ n = c2 ∧ nn = (n : Int) ∧ Ext h h' ∧ ∃ j : Nat, i = (j : Int) ∧ j ≤ n ∧ m = n - j ∧ ∃ cs : Array Value, Own h' e cs ∧ cs.size = n ∧ ∀ k, k < j → ∃ hk : k < l.length, cs[k]? = some (.float .f64 (wd (φ l[k])))
    | _ => False, n, ⟨rfl, rfl, rfl, rfl, by simp, by simp, rfl, f1, 0, rfl, by omega, rfl, _, o1, by simp [mkCells], fun k hk => absurd hk (by omega)⟩, ?_⟩⟩
  rintro m h' _ _ _ _ _ _ _ _ _ ⟨rfl, rfl, rfl, rfl, rfl, rfl, rfl, F, j, rfl, hj, rfl, cs, oc, hs, hc⟩ _
  refine ⟨fun e2 => ?_, fun e2 => ?_⟩
  · have hjn : j < n := by have := of_decide_eq_true e2; omega
    have hjl : j < l.length := by omega
    rcases I.2 with e0 | ⟨r, q, rfl, hr, hg⟩
    · subst e0; simp at hjl
    have hx' : cell? h' ⟨r, q + j, none⟩ = some (.int .i64 l[j]) := (cell_ext F hr).trans (hg j hjl)
    have ej : (j : Int).toNat * 1 = j := by omega
    refine ⟨r, q, rfl, by omega, by omega, r, _, rfl, l[j], ?_, Hf _ _ (List.getElem_mem hjl) ⟨_, rfl, e, 0, rfl, by omega, by omega, e, _, rfl, oc.stC ?_ rfl fun od fd => ⟨n - (j + 1), by omega, ?_⟩⟩⟩
    · show cell? h' ⟨r, q + (j : Int).toNat * 1, none⟩ = _
      rw [ej]; exact hx'
    · rw [ej]; omega
    · rw [ej, Nat.zero_add] at od fd
      rw [ej, Nat.zero_add]
      refine ⟨rfl, rfl, rfl, rfl, rfl, rfl, rfl, Fr.trans F fd fun x hx e => by omega, j + 1, ?_, by omega, rfl, _, od, by simp [hs], fun k hk => ?_⟩
      · rw [i64_in (x := (j : Int) + 1) (by omega) (by omega)]; omega
      · rcases Nat.lt_or_ge k j with a | a
        · obtain ⟨b, hb⟩ := hc k a
          exact ⟨b, by rw [Array.getElem?_setIfInBounds_ne (by omega)]; exact hb⟩
        · have : k = j := by omega
          subst this
          exact ⟨hjl, by rw [Array.getElem?_setIfInBounds_self_of_lt (by omega)]⟩
  · have hjn : j = n := by have := of_decide_eq_false e2; omega
    refine H e h' F (by omega) ⟨cs, oc, by rw [List.length_map]; omega, fun i hi => ?_⟩
    rw [List.length_map] at hi
    rw [List.getElem_map]
    exact (hc i (by omega)).2
end Go.Proofs
