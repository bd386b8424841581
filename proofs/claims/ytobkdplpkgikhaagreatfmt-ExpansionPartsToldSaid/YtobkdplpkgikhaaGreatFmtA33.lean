import Derived.Test.YtobkdplpkgikhaaGreatFmtA09
import Derived.Test.YtobkdplpkgikhaaGreatFmtA32
/- Here stand lemmas and contracts, in the order in which they are used. -/
set_option linter.unusedVariables false
namespace Go.Proofs
open Go Go.Eng
/-- plumb/expansion.Valid -/
def F37_j20 (B : World) (R : Po) (a0 : Lp) (b0 : Nat) (c0 : OA) (d0 e0 f0 : Nat) (g0 i0 j0 : Int) (k0 : Bool) (l0 : Heap) : Prop :=
(k0 = true →
 R (.returned (.bool false)) l0) ∧
(k0 = false →
 ixW c0 d0 g0 1 fun m0 n0 =>
 iP m0 n0 fun o0 p0 => ∃ q0, cI l0 o0 p0 .i64 q0 ∧
 Ec B 24 #[.int .i64 q0] (retE (fun r0 s0 => ∃ t0 u0 v0 w0, r0 = .tuple #[.bool t0, .int .i64 u0, .int .i64 v0, .bool w0] ∧
 Ec B 25 #[.float .f64 (FloatKind.f64.nearest (bitsI .and .i64 u0 (IntKind.i64.wrap (0 - u0)))), .int .i64 v0] (retE (fun x0 y0 => ∃ z0, x0 = .float .f64 z0 ∧
((!(FloatKind.f64.format.order f0 z0 == some .lt)) = true →
 R (.returned (.bool false)) y0) ∧
((!(FloatKind.f64.format.order f0 z0 == some .lt)) = false →
 ixW c0 d0 g0 1 fun a1 b1 =>
 iP a1 b1 fun c1 d1 => ∃ e1, cI y0 c1 d1 .i64 e1 ∧
 Ec B 27 #[.int .i64 e1] (retE (fun f1 g1 => ∃ i1, f1 = .float .f64 i1 ∧
 Ec B 26 #[.float .f64 i1] (retE (fun j1 k1 => ∃ l1, j1 = .float .f64 l1 ∧
∃ m1, m1 < b0 ∧ a0 m1 [.slice c0 d0 e0, .float .f64 l1, .int .i64 i0, .int .i64 (IntKind.i64.wrap (j0 + (1 : Int)))] k1)
(pk R)) g1)
(pk R)) y0))
(pk R)) s0)
(pk R)) l0)
def F37 (B : World) (R : Po) (n1 : OA) (o1 p1 : Nat) (h : Heap) : Prop :=
((decide ((4096 : Int) < (o1 : Int))) = true →
 R (.returned (.bool false)) h) ∧
((decide ((4096 : Int) < (o1 : Int))) = false →
 ∃ a0 : Lp, ∃ q1, a0 q1 [.slice n1 o1 p1, .float .f64 0, .int .i64 (o1 : Int), .int .i64 (0 : Int)] h ∧
∀ (b0 : Nat) (r1 : Heap) (s1 : OA) (t1 u1 v1 : Nat) (w1 x1 : Int), a0 b0 [.slice s1 t1 u1, .float .f64 v1, .int .i64 w1, .int .i64 x1] r1 → ∀ _r : Nat → Value,
((decide (x1 < w1)) = true →
 ixW s1 t1 x1 1 fun y1 z1 =>
 iP y1 z1 fun a2 b2 => ∃ c2, cI r1 a2 b2 .i64 c2 ∧
 Ec B 23 #[.int .i64 c2] (retE (fun d2 e2 => ∃ f2, d2 = .int .i64 f2 ∧
((!decide (f2 = (1 : Int))) = true →
 F37_j20 B R a0 b0 s1 t1 u1 v1 x1 w1 x1 (!decide (f2 = (2 : Int))) e2) ∧
((!decide (f2 = (1 : Int))) = false →
 F37_j20 B R a0 b0 s1 t1 u1 v1 x1 w1 x1 false e2))
(pk R)) r1) ∧
((decide (x1 < w1)) = false →
 R (.returned (.bool true)) r1))
def F37_L : Nat → List (Nat × TypeDesc) := fun i => match i with
  | 5 => [(0, .slice 0), (3, .float .f64), (14, .int .i64), (15, .int .i64)]
  | _ => []
theorem F37_ok {B : World} {R : Ending → Heap → Prop} (n1 : OA) (o1 p1 : Nat) {h : Heap} (H : F37 B R n1 o1 p1 h) : Ec B 10 #[.slice n1 o1 p1] R h :=
 Ek Tryz.func10 (by kernel_rfl) (by kernel_rfl) (by kernel_rfl) F37_L [] (by kernel_rfl) H

/-- plumb/expansion.valid -/
def F87 (B : World) (R : Po) (a0 : OA) (b0 c0 : Nat) (h : Heap) : Prop :=
 ∃ d0 : Lp, ∃ e0, d0 e0 [.slice a0 b0 c0, .int .i64 (b0 : Int), .int .i64 (0 : Int)] h ∧
∀ (f0 : Nat) (g0 : Heap) (i0 : OA) (j0 k0 : Nat) (l0 m0 : Int), d0 f0 [.slice i0 j0 k0, .int .i64 l0, .int .i64 m0] g0 → ∀ _r : Nat → Value,
((decide (m0 < l0)) = true →
 ixW i0 j0 m0 1 fun n0 o0 =>
 iP n0 o0 fun p0 q0 => ∃ r0 s0 t0, cS g0 p0 q0 r0 s0 t0 ∧
 Ec B 10 #[.slice r0 s0 t0] (retE (fun u0 v0 => ∃ w0, u0 = .bool w0 ∧
((!w0) = true →
 R (.returned (.int .i64 (1 : Int))) v0) ∧
((!w0) = false →
 ∃ x0, x0 < f0 ∧ d0 x0 [.slice i0 j0 k0, .int .i64 l0, .int .i64 (IntKind.i64.wrap (m0 + (1 : Int)))] v0))
(pk R)) g0) ∧
((decide (m0 < l0)) = false →
 R (.returned (.int .i64 (0 : Int))) g0)
def F87_L : Nat → List (Nat × TypeDesc) := fun i => match i with
  | 2 => [(5, .slice 0), (6, .int .i64), (7, .int .i64)]
  | _ => []
theorem F87_ok {B : World} {R : Ending → Heap → Prop} (a0 : OA) (b0 c0 : Nat) {h : Heap} (H : F87 B R a0 b0 c0 h) : Ec B 18 #[.slice a0 b0 c0] R h :=
 Ek Tryz.func18 (by kernel_rfl) (by kernel_rfl) (by kernel_rfl) F87_L [] (by kernel_rfl) H

/-- plumb/expansion.finite -/
def F88 (B : World) (R : Po) (a0 : Int) (h : Heap) : Prop :=
 Ec B 23 #[.int .i64 a0] (retE (fun b0 c0 => ∃ d0, b0 = .int .i64 d0 ∧
 R (.returned (.bool (decide (d0 < (3 : Int))))) c0)
(pk R)) h
def F88_L : Nat → List (Nat × TypeDesc) := fun _ => []
theorem F88_ok {B : World} {R : Ending → Heap → Prop} (a0 : Int) {h : Heap} (H : F88 B R a0 h) : Ec B 19 #[.int .i64 a0] R h :=
 Ek Tryz.func19 (by kernel_rfl) (by kernel_rfl) (by kernel_rfl) F88_L [] (by kernel_rfl) H

/-- plumb/expansion.told -/
def F89 (B : World) (R : Po) (a0 : OA) (b0 c0 : Nat) (h : Heap) : Prop :=
((decide ((4096 : Int) < (b0 : Int))) = true →
 R (.returned (.tuple #[.slice none 0 0, .int .i64 (2 : Int)])) h) ∧
((decide ((4096 : Int) < (b0 : Int))) = false →
 R (.returned (.tuple #[.slice a0 b0 c0, .int .i64 (0 : Int)])) h)
def F89_L : Nat → List (Nat × TypeDesc) := fun _ => []
theorem F89_ok {B : World} {R : Ending → Heap → Prop} (a0 : OA) (b0 c0 : Nat) {h : Heap} (H : F89 B R a0 b0 c0 h) : Ec B 20 #[.slice a0 b0 c0] R h :=
 Ek Tryz.func20 (by kernel_rfl) (by kernel_rfl) (by kernel_rfl) F89_L [] (by kernel_rfl) H

/-- plumb/expansion.step -/
def F107 (B : World) (R : Po) (a0 b0 : Int) (c0 : Bool) (h : Heap) : Prop :=
((!c0) = true →
 R (.panicked [{ v := .iface 59 (.agg #[]), recovered := false }]) h) ∧
((!c0) = false →
 R (.returned (.tuple #[.int .i64 a0, .int .i64 b0])) h)
def F107_L : Nat → List (Nat × TypeDesc) := fun _ => []
theorem F107_ok {B : World} {R : Ending → Heap → Prop} (a0 b0 : Int) (c0 : Bool) {h : Heap} (H : F107 B R a0 b0 c0 h) : Ec B 38 #[.int .i64 a0, .int .i64 b0, .bool c0] R h :=
 Ek Tryz.func38 (by kernel_rfl) (by kernel_rfl) (by kernel_rfl) F107_L [] (by kernel_rfl) H

/-- plumb/expansion.add -/
def F108 (B : World) (R : Po) (a0 : OA) (b0 c0 : Nat) (d0 : Int) (h : Heap) : Prop :=
 Ec B 23 #[.int .i64 d0] (retE (fun e0 f0 => ∃ g0, e0 = .int .i64 g0 ∧
((decide (g0 = (0 : Int))) = true →
 R (.returned (.slice a0 b0 c0)) f0) ∧
((decide (g0 = (0 : Int))) = false →
 alW f0 (.cells #[.int .i64 d0] 3) fun i0 j0 =>
 apW j0 a0 b0 c0 (some ⟨i0, 0, none⟩) 1 1 8 3 #[.int .i64 0] fun k0 l0 m0 n0 =>
 R (.returned (.slice k0 l0 m0)) n0))
(pk R)) h
def F108_L : Nat → List (Nat × TypeDesc) := fun _ => []
theorem F108_ok {B : World} {R : Ending → Heap → Prop} (a0 : OA) (b0 c0 : Nat) (d0 : Int) {h : Heap} (H : F108 B R a0 b0 c0 d0 h) : Ec B 40 #[.slice a0 b0 c0, .int .i64 d0] R h :=
 Ek Tryz.func40 (by kernel_rfl) (by kernel_rfl) (by kernel_rfl) F108_L [] (by kernel_rfl) H

/-- plumb/expansion.grow -/
def F90 (B : World) (R : Po) (a0 : OA) (b0 c0 : Nat) (d0 : Int) (h : Heap) : Prop :=
  0 ≤ (0 : Int) ∧ (0 : Int) ≤ (IntKind.i64.wrap ((b0 : Int) + (1 : Int))) ∧ 8 * (IntKind.i64.wrap ((b0 : Int) + (1 : Int))) ≤ 281474976710656 ∧ (IntKind.i64.wrap ((b0 : Int) + (1 : Int))) < 9223372036854775808 ∧
 alW h (.cells (mkCells #[.int .i64 0] (Int.toNat (IntKind.i64.wrap ((b0 : Int) + (1 : Int))) * 1)) 3) fun e0 f0 =>
∃ g0 : Lp, ∃ i0, g0 i0 [.slice (some ⟨e0, 0, none⟩) (Int.toNat (0 : Int)) (Int.toNat (IntKind.i64.wrap ((b0 : Int) + (1 : Int)))), .int .i64 d0, .slice a0 b0 c0, .int .i64 (b0 : Int), .int .i64 (0 : Int)] f0 ∧
∀ (j0 : Nat) (k0 : Heap) (l0 : OA) (m0 n0 : Nat) (o0 : Int) (p0 : OA) (q0 r0 : Nat) (s0 t0 : Int), g0 j0 [.slice l0 m0 n0, .int .i64 o0, .slice p0 q0 r0, .int .i64 s0, .int .i64 t0] k0 → ∀ _r : Nat → Value,
((decide (t0 < s0)) = true →
 ixW p0 q0 t0 1 fun u0 v0 =>
 iP u0 v0 fun w0 x0 => ∃ y0, cI k0 w0 x0 .i64 y0 ∧
 Ec B 39 #[.int .i64 o0, .int .i64 y0] (retE (fun z0 a1 => ∃ b1 c1 d1, z0 = .tuple #[.int .i64 b1, .int .i64 c1, .bool d1] ∧
 Ec B 38 #[.int .i64 b1, .int .i64 c1, .bool d1] (retE (fun e1 f1 => ∃ g1 i1, e1 = .tuple #[.int .i64 g1, .int .i64 i1] ∧
 Ec B 40 #[.slice l0 m0 n0, .int .i64 i1] (retE (fun j1 k1 => ∃ l1 m1 n1, j1 = .slice l1 m1 n1 ∧
∃ o1, o1 < j0 ∧ g0 o1 [.slice l1 m1 n1, .int .i64 g1, .slice p0 q0 r0, .int .i64 s0, .int .i64 (IntKind.i64.wrap (t0 + (1 : Int)))] k1)
(pk R)) f1)
(pk R)) a1)
(pk R)) k0) ∧
((decide (t0 < s0)) = false →
 Ec B 40 #[.slice l0 m0 n0, .int .i64 o0] (retE (fun p1 q1 => ∃ r1 s1 t1, p1 = .slice r1 s1 t1 ∧
 R (.returned (.slice r1 s1 t1)) q1)
(pk R)) k0)
def F90_L : Nat → List (Nat × TypeDesc) := fun i => match i with
  | 4 => [(5, .slice 0), (6, .int .i64), (15, .slice 0), (16, .int .i64), (17, .int .i64)]
  | _ => []
theorem F90_ok {B : World} {R : Ending → Heap → Prop} (a0 : OA) (b0 c0 : Nat) (d0 : Int) {h : Heap} (H : F90 B R a0 b0 c0 d0 h) : Ec B 21 #[.slice a0 b0 c0, .int .i64 d0] R h :=
 Ek Tryz.func21 (by kernel_rfl) (by kernel_rfl) (by kernel_rfl) F90_L [] (by kernel_rfl) H

/-- plumb/expansion.Grow -/
def F34 (B : World) (R : Po) (a0 : OA) (b0 c0 : Nat) (d0 : Int) (h : Heap) : Prop :=
 alW h (.cells #[.slice none 0 0] 22) fun e0 f0 =>
 alW f0 (.cells #[.int .i64 0] 32) fun g0 i0 =>
 alW i0 (.cells #[.slice a0 b0 c0] 22) fun j0 k0 =>
 Ec B 18 #[.slice (some ⟨j0, 0, none⟩) 1 1] (retE (fun l0 m0 => ∃ n0, l0 = .int .i64 n0 ∧
((!decide (n0 = (0 : Int))) = true →
 iP e0 0 fun o0 p0 => stC m0 o0 p0 (.slice none 0 0) fun q0 =>
 iP g0 0 fun r0 s0 => stC q0 r0 s0 (.int .i64 n0) fun t0 =>
 Enters Tryz.prog 17 ∧ FnD Tryz.prog B 17 #[.pointer (some ⟨e0, 0, none⟩), .pointer (some ⟨g0, 0, none⟩)] .returning (dfE fun u0 v0 => lvW (fun w0 => iP e0 0 fun x0 y0 => ∃ z0 a1 b1, cS w0 x0 y0 z0 a1 b1 ∧
 iP g0 0 fun c1 d1 => ∃ e1, cI w0 c1 d1 .i64 e1 ∧
 R (.returned (.tuple #[.slice z0 a1 b1, .int .i64 e1])) w0) (pk R) u0 v0) t0) ∧
((!decide (n0 = (0 : Int))) = false →
 Ec B 19 #[.int .i64 d0] (retE (fun f1 g1 => ∃ i1, f1 = .bool i1 ∧
((!i1) = true →
 iP e0 0 fun j1 k1 => stC g1 j1 k1 (.slice none 0 0) fun l1 =>
 iP g0 0 fun m1 n1 => stC l1 m1 n1 (.int .i64 (10 : Int)) fun o1 =>
 Enters Tryz.prog 17 ∧ FnD Tryz.prog B 17 #[.pointer (some ⟨e0, 0, none⟩), .pointer (some ⟨g0, 0, none⟩)] .returning (dfE fun p1 q1 => lvW (fun r1 => iP e0 0 fun s1 t1 => ∃ u1 v1 w1, cS r1 s1 t1 u1 v1 w1 ∧
 iP g0 0 fun x1 y1 => ∃ z1, cI r1 x1 y1 .i64 z1 ∧
 R (.returned (.tuple #[.slice u1 v1 w1, .int .i64 z1])) r1) (pk R) p1 q1) o1) ∧
((!i1) = false →
 Ec B 21 #[.slice a0 b0 c0, .int .i64 d0] (retE (fun a2 b2 => ∃ c2 d2 e2, a2 = .slice c2 d2 e2 ∧
 Ec B 20 #[.slice c2 d2 e2] (retE (fun f2 g2 => ∃ i2 j2 k2 l2, f2 = .tuple #[.slice i2 j2 k2, .int .i64 l2] ∧
 iP e0 0 fun m2 n2 => stC g2 m2 n2 (.slice i2 j2 k2) fun o2 =>
 iP g0 0 fun p2 q2 => stC o2 p2 q2 (.int .i64 l2) fun r2 =>
 Enters Tryz.prog 17 ∧ FnD Tryz.prog B 17 #[.pointer (some ⟨e0, 0, none⟩), .pointer (some ⟨g0, 0, none⟩)] .returning (dfE fun s2 t2 => lvW (fun u2 => iP e0 0 fun v2 w2 => ∃ x2 y2 z2, cS u2 v2 w2 x2 y2 z2 ∧
 iP g0 0 fun a3 b3 => ∃ c3, cI u2 a3 b3 .i64 c3 ∧
 R (.returned (.tuple #[.slice x2 y2 z2, .int .i64 c3])) u2) (pk R) s2 t2) r2)
(fun d3 e3 => Enters Tryz.prog 17 ∧ FnD Tryz.prog B 17 #[.pointer (some ⟨e0, 0, none⟩), .pointer (some ⟨g0, 0, none⟩)] (.panicking d3) (dfE fun f3 g3 => lvW (fun i3 => iP e0 0 fun j3 k3 => ∃ l3 m3 n3, cS i3 j3 k3 l3 m3 n3 ∧
 iP g0 0 fun o3 p3 => ∃ q3, cI i3 o3 p3 .i64 q3 ∧
 R (.returned (.tuple #[.slice l3 m3 n3, .int .i64 q3])) i3) (pk R) f3 g3) e3)) b2)
(fun r3 s3 => Enters Tryz.prog 17 ∧ FnD Tryz.prog B 17 #[.pointer (some ⟨e0, 0, none⟩), .pointer (some ⟨g0, 0, none⟩)] (.panicking r3) (dfE fun t3 u3 => lvW (fun v3 => iP e0 0 fun w3 x3 => ∃ y3 z3 a4, cS v3 w3 x3 y3 z3 a4 ∧
 iP g0 0 fun b4 c4 => ∃ d4, cI v3 b4 c4 .i64 d4 ∧
 R (.returned (.tuple #[.slice y3 z3 a4, .int .i64 d4])) v3) (pk R) t3 u3) s3)) g1))
(fun e4 f4 => Enters Tryz.prog 17 ∧ FnD Tryz.prog B 17 #[.pointer (some ⟨e0, 0, none⟩), .pointer (some ⟨g0, 0, none⟩)] (.panicking e4) (dfE fun g4 i4 => lvW (fun j4 => iP e0 0 fun k4 l4 => ∃ m4 n4 o4, cS j4 k4 l4 m4 n4 o4 ∧
 iP g0 0 fun p4 q4 => ∃ r4, cI j4 p4 q4 .i64 r4 ∧
 R (.returned (.tuple #[.slice m4 n4 o4, .int .i64 r4])) j4) (pk R) g4 i4) f4)) m0))
(fun s4 t4 => Enters Tryz.prog 17 ∧ FnD Tryz.prog B 17 #[.pointer (some ⟨e0, 0, none⟩), .pointer (some ⟨g0, 0, none⟩)] (.panicking s4) (dfE fun u4 v4 => lvW (fun w4 => iP e0 0 fun x4 y4 => ∃ z4 a5 b5, cS w4 x4 y4 z4 a5 b5 ∧
 iP g0 0 fun c5 d5 => ∃ e5, cI w4 c5 d5 .i64 e5 ∧
 R (.returned (.tuple #[.slice z4 a5 b5, .int .i64 e5])) w4) (pk R) u4 v4) t4)) k0
def F34_L : Nat → List (Nat × TypeDesc) := fun _ => []
theorem F34_ok {B : World} {R : Ending → Heap → Prop} (a0 : OA) (b0 c0 : Nat) (d0 : Int) {h : Heap} (H : F34 B R a0 b0 c0 d0 h) : Ec B 7 #[.slice a0 b0 c0, .int .i64 d0] R h :=
 Ed Tryz.func7 (by kernel_rfl) (by kernel_rfl) (by kernel_rfl) F34_L [] (by kernel_rfl) H

/-- plumb/expansion.scale -/
def F91_j3 (B : World) (R : Po) (a0 : OA) (b0 c0 : Nat) (d0 : Int) (e0 : Bool) (f0 : Heap) : Prop :=
(e0 = true →
 R (.returned (.slice none 0 0)) f0) ∧
(e0 = false →
 0 ≤ (0 : Int) ∧ (0 : Int) ≤ (IntKind.i64.wrap ((2 : Int) * (b0 : Int))) ∧ 8 * (IntKind.i64.wrap ((2 : Int) * (b0 : Int))) ≤ 281474976710656 ∧ (IntKind.i64.wrap ((2 : Int) * (b0 : Int))) < 9223372036854775808 ∧
 alW f0 (.cells (mkCells #[.int .i64 0] (Int.toNat (IntKind.i64.wrap ((2 : Int) * (b0 : Int))) * 1)) 3) fun g0 i0 =>
 ixW a0 b0 (0 : Int) 1 fun j0 k0 =>
 iP j0 k0 fun l0 m0 => ∃ n0, cI i0 l0 m0 .i64 n0 ∧
 Ec B 41 #[.int .i64 n0, .int .i64 d0] (retE (fun o0 p0 => ∃ q0 r0 s0, o0 = .tuple #[.int .i64 q0, .int .i64 r0, .bool s0] ∧
 Ec B 38 #[.int .i64 q0, .int .i64 r0, .bool s0] (retE (fun t0 u0 => ∃ v0 w0, t0 = .tuple #[.int .i64 v0, .int .i64 w0] ∧
 Ec B 40 #[.slice (some ⟨g0, 0, none⟩) (Int.toNat (0 : Int)) (Int.toNat (IntKind.i64.wrap ((2 : Int) * (b0 : Int)))), .int .i64 w0] (retE (fun x0 y0 => ∃ z0 a1 b1, x0 = .slice z0 a1 b1 ∧
 slW b0 c0 (some (.int .i64 (1 : Int))) none none fun c1 d1 e1 =>
∃ f1 : Lp, ∃ g1, f1 g1 [.int .i64 d0, .slice z0 a1 b1, .int .i64 v0, .slice (slP a0 c1 e1 1) (d1 - c1) (e1 - c1), .int .i64 ((d1 - c1 : Nat) : Int), .int .i64 (0 : Int)] y0 ∧
∀ (i1 : Nat) (j1 : Heap) (k1 : Int) (l1 : OA) (m1 n1 : Nat) (o1 : Int) (p1 : OA) (q1 r1 : Nat) (s1 t1 : Int), f1 i1 [.int .i64 k1, .slice l1 m1 n1, .int .i64 o1, .slice p1 q1 r1, .int .i64 s1, .int .i64 t1] j1 → ∀ _r : Nat → Value,
((decide (t1 < s1)) = true →
 ixW p1 q1 t1 1 fun u1 v1 =>
 iP u1 v1 fun w1 x1 => ∃ y1, cI j1 w1 x1 .i64 y1 ∧
 Ec B 41 #[.int .i64 y1, .int .i64 k1] (retE (fun z1 a2 => ∃ b2 c2 d2, z1 = .tuple #[.int .i64 b2, .int .i64 c2, .bool d2] ∧
 Ec B 38 #[.int .i64 b2, .int .i64 c2, .bool d2] (retE (fun e2 f2 => ∃ g2 i2, e2 = .tuple #[.int .i64 g2, .int .i64 i2] ∧
 Ec B 39 #[.int .i64 o1, .int .i64 i2] (retE (fun j2 k2 => ∃ l2 m2 n2, j2 = .tuple #[.int .i64 l2, .int .i64 m2, .bool n2] ∧
 Ec B 38 #[.int .i64 l2, .int .i64 m2, .bool n2] (retE (fun o2 p2 => ∃ q2 r2, o2 = .tuple #[.int .i64 q2, .int .i64 r2] ∧
 Ec B 40 #[.slice l1 m1 n1, .int .i64 r2] (retE (fun s2 t2 => ∃ u2 v2 w2, s2 = .slice u2 v2 w2 ∧
 Ec B 42 #[.int .i64 g2, .int .i64 q2] (retE (fun x2 y2 => ∃ z2 a3 b3, x2 = .tuple #[.int .i64 z2, .int .i64 a3, .bool b3] ∧
 Ec B 38 #[.int .i64 z2, .int .i64 a3, .bool b3] (retE (fun c3 d3 => ∃ e3 f3, c3 = .tuple #[.int .i64 e3, .int .i64 f3] ∧
 Ec B 40 #[.slice u2 v2 w2, .int .i64 f3] (retE (fun g3 i3 => ∃ j3 k3 l3, g3 = .slice j3 k3 l3 ∧
∃ m3, m3 < i1 ∧ f1 m3 [.int .i64 k1, .slice j3 k3 l3, .int .i64 e3, .slice p1 q1 r1, .int .i64 s1, .int .i64 (IntKind.i64.wrap (t1 + (1 : Int)))] i3)
(pk R)) d3)
(pk R)) y2)
(pk R)) t2)
(pk R)) p2)
(pk R)) k2)
(pk R)) f2)
(pk R)) a2)
(pk R)) j1) ∧
((decide (t1 < s1)) = false →
 Ec B 40 #[.slice l1 m1 n1, .int .i64 o1] (retE (fun n3 o3 => ∃ p3 q3 r3, n3 = .slice p3 q3 r3 ∧
 R (.returned (.slice p3 q3 r3)) o3)
(pk R)) j1))
(pk R)) u0)
(pk R)) p0)
(pk R)) i0)
def F91 (B : World) (R : Po) (s3 : OA) (t3 u3 : Nat) (v3 : Int) (h : Heap) : Prop :=
((decide ((t3 : Int) = (0 : Int))) = true →
 F91_j3 B R s3 t3 u3 v3 true h) ∧
((decide ((t3 : Int) = (0 : Int))) = false →
 Ec B 23 #[.int .i64 v3] (retE (fun w3 x3 => ∃ y3, w3 = .int .i64 y3 ∧
 F91_j3 B R s3 t3 u3 v3 (decide (y3 = (0 : Int))) x3)
(pk R)) h)
def F91_L : Nat → List (Nat × TypeDesc) := fun i => match i with
  | 7 => [(1, .int .i64), (5, .slice 0), (6, .int .i64), (40, .slice 0), (41, .int .i64), (42, .int .i64)]
  | _ => []
theorem F91_ok {B : World} {R : Ending → Heap → Prop} (s3 : OA) (t3 u3 : Nat) (v3 : Int) {h : Heap} (H : F91 B R s3 t3 u3 v3 h) : Ec B 22 #[.slice s3 t3 u3, .int .i64 v3] R h :=
 Ek Tryz.func22 (by kernel_rfl) (by kernel_rfl) (by kernel_rfl) F91_L [] (by kernel_rfl) H

/-- plumb/expansion.Scale -/
def F35 (B : World) (R : Po) (a0 : OA) (b0 c0 : Nat) (d0 : Int) (h : Heap) : Prop :=
 alW h (.cells #[.slice none 0 0] 22) fun e0 f0 =>
 alW f0 (.cells #[.int .i64 0] 32) fun g0 i0 =>
 alW i0 (.cells #[.slice a0 b0 c0] 22) fun j0 k0 =>
 Ec B 18 #[.slice (some ⟨j0, 0, none⟩) 1 1] (retE (fun l0 m0 => ∃ n0, l0 = .int .i64 n0 ∧
((!decide (n0 = (0 : Int))) = true →
 iP e0 0 fun o0 p0 => stC m0 o0 p0 (.slice none 0 0) fun q0 =>
 iP g0 0 fun r0 s0 => stC q0 r0 s0 (.int .i64 n0) fun t0 =>
 Enters Tryz.prog 17 ∧ FnD Tryz.prog B 17 #[.pointer (some ⟨e0, 0, none⟩), .pointer (some ⟨g0, 0, none⟩)] .returning (dfE fun u0 v0 => lvW (fun w0 => iP e0 0 fun x0 y0 => ∃ z0 a1 b1, cS w0 x0 y0 z0 a1 b1 ∧
 iP g0 0 fun c1 d1 => ∃ e1, cI w0 c1 d1 .i64 e1 ∧
 R (.returned (.tuple #[.slice z0 a1 b1, .int .i64 e1])) w0) (pk R) u0 v0) t0) ∧
((!decide (n0 = (0 : Int))) = false →
 Ec B 19 #[.int .i64 d0] (retE (fun f1 g1 => ∃ i1, f1 = .bool i1 ∧
((!i1) = true →
 iP e0 0 fun j1 k1 => stC g1 j1 k1 (.slice none 0 0) fun l1 =>
 iP g0 0 fun m1 n1 => stC l1 m1 n1 (.int .i64 (10 : Int)) fun o1 =>
 Enters Tryz.prog 17 ∧ FnD Tryz.prog B 17 #[.pointer (some ⟨e0, 0, none⟩), .pointer (some ⟨g0, 0, none⟩)] .returning (dfE fun p1 q1 => lvW (fun r1 => iP e0 0 fun s1 t1 => ∃ u1 v1 w1, cS r1 s1 t1 u1 v1 w1 ∧
 iP g0 0 fun x1 y1 => ∃ z1, cI r1 x1 y1 .i64 z1 ∧
 R (.returned (.tuple #[.slice u1 v1 w1, .int .i64 z1])) r1) (pk R) p1 q1) o1) ∧
((!i1) = false →
 Ec B 22 #[.slice a0 b0 c0, .int .i64 d0] (retE (fun a2 b2 => ∃ c2 d2 e2, a2 = .slice c2 d2 e2 ∧
 Ec B 20 #[.slice c2 d2 e2] (retE (fun f2 g2 => ∃ i2 j2 k2 l2, f2 = .tuple #[.slice i2 j2 k2, .int .i64 l2] ∧
 iP e0 0 fun m2 n2 => stC g2 m2 n2 (.slice i2 j2 k2) fun o2 =>
 iP g0 0 fun p2 q2 => stC o2 p2 q2 (.int .i64 l2) fun r2 =>
 Enters Tryz.prog 17 ∧ FnD Tryz.prog B 17 #[.pointer (some ⟨e0, 0, none⟩), .pointer (some ⟨g0, 0, none⟩)] .returning (dfE fun s2 t2 => lvW (fun u2 => iP e0 0 fun v2 w2 => ∃ x2 y2 z2, cS u2 v2 w2 x2 y2 z2 ∧
 iP g0 0 fun a3 b3 => ∃ c3, cI u2 a3 b3 .i64 c3 ∧
 R (.returned (.tuple #[.slice x2 y2 z2, .int .i64 c3])) u2) (pk R) s2 t2) r2)
(fun d3 e3 => Enters Tryz.prog 17 ∧ FnD Tryz.prog B 17 #[.pointer (some ⟨e0, 0, none⟩), .pointer (some ⟨g0, 0, none⟩)] (.panicking d3) (dfE fun f3 g3 => lvW (fun i3 => iP e0 0 fun j3 k3 => ∃ l3 m3 n3, cS i3 j3 k3 l3 m3 n3 ∧
 iP g0 0 fun o3 p3 => ∃ q3, cI i3 o3 p3 .i64 q3 ∧
 R (.returned (.tuple #[.slice l3 m3 n3, .int .i64 q3])) i3) (pk R) f3 g3) e3)) b2)
(fun r3 s3 => Enters Tryz.prog 17 ∧ FnD Tryz.prog B 17 #[.pointer (some ⟨e0, 0, none⟩), .pointer (some ⟨g0, 0, none⟩)] (.panicking r3) (dfE fun t3 u3 => lvW (fun v3 => iP e0 0 fun w3 x3 => ∃ y3 z3 a4, cS v3 w3 x3 y3 z3 a4 ∧
 iP g0 0 fun b4 c4 => ∃ d4, cI v3 b4 c4 .i64 d4 ∧
 R (.returned (.tuple #[.slice y3 z3 a4, .int .i64 d4])) v3) (pk R) t3 u3) s3)) g1))
(fun e4 f4 => Enters Tryz.prog 17 ∧ FnD Tryz.prog B 17 #[.pointer (some ⟨e0, 0, none⟩), .pointer (some ⟨g0, 0, none⟩)] (.panicking e4) (dfE fun g4 i4 => lvW (fun j4 => iP e0 0 fun k4 l4 => ∃ m4 n4 o4, cS j4 k4 l4 m4 n4 o4 ∧
 iP g0 0 fun p4 q4 => ∃ r4, cI j4 p4 q4 .i64 r4 ∧
 R (.returned (.tuple #[.slice m4 n4 o4, .int .i64 r4])) j4) (pk R) g4 i4) f4)) m0))
(fun s4 t4 => Enters Tryz.prog 17 ∧ FnD Tryz.prog B 17 #[.pointer (some ⟨e0, 0, none⟩), .pointer (some ⟨g0, 0, none⟩)] (.panicking s4) (dfE fun u4 v4 => lvW (fun w4 => iP e0 0 fun x4 y4 => ∃ z4 a5 b5, cS w4 x4 y4 z4 a5 b5 ∧
 iP g0 0 fun c5 d5 => ∃ e5, cI w4 c5 d5 .i64 e5 ∧
 R (.returned (.tuple #[.slice z4 a5 b5, .int .i64 e5])) w4) (pk R) u4 v4) t4)) k0
def F35_L : Nat → List (Nat × TypeDesc) := fun _ => []
theorem F35_ok {B : World} {R : Ending → Heap → Prop} (a0 : OA) (b0 c0 : Nat) (d0 : Int) {h : Heap} (H : F35 B R a0 b0 c0 d0 h) : Ec B 8 #[.slice a0 b0 c0, .int .i64 d0] R h :=
 Ed Tryz.func8 (by kernel_rfl) (by kernel_rfl) (by kernel_rfl) F35_L [] (by kernel_rfl) H

/-- plumb/plumblaw2.Same -/
def F76_j20 (B : World) (R : Po) (a0 : Lp) (b0 : Nat) (c0 : OA) (d0 e0 : Nat) (f0 : OA) (g0 i0 : Nat) (j0 : Int) (k0 : Bool) (l0 : Heap) : Prop :=
(k0 = true →
 R (.returned (.bool false)) l0) ∧
(k0 = false →
 ∃ m0, m0 < b0 ∧ a0 m0 [.slice c0 d0 e0, .slice f0 g0 i0, .int .i64 (IntKind.i64.wrap (j0 + (1 : Int)))] l0)
def F76 (B : World) (R : Po) (n0 : OA) (o0 p0 : Nat) (q0 : OA) (r0 s0 : Nat) (h : Heap) : Prop :=
((!decide ((o0 : Int) = (r0 : Int))) = true →
 R (.returned (.bool false)) h) ∧
((!decide ((o0 : Int) = (r0 : Int))) = false →
 ∃ a0 : Lp, ∃ t0, a0 t0 [.slice n0 o0 p0, .slice q0 r0 s0, .int .i64 (0 : Int)] h ∧
∀ (b0 : Nat) (u0 : Heap) (v0 : OA) (w0 x0 : Nat) (y0 : OA) (z0 a1 : Nat) (b1 : Int), a0 b0 [.slice v0 w0 x0, .slice y0 z0 a1, .int .i64 b1] u0 → ∀ _r : Nat → Value,
((decide (b1 < (w0 : Int))) = true →
 ixW v0 w0 b1 1 fun c1 d1 =>
 iP c1 d1 fun e1 f1 => ∃ g1, cI u0 e1 f1 .i64 g1 ∧
 ixW y0 z0 b1 1 fun i1 j1 =>
 iP i1 j1 fun k1 l1 => ∃ m1, cI u0 k1 l1 .i64 m1 ∧
 F76_j20 B R a0 b0 v0 w0 x0 y0 z0 a1 b1 (!decide (g1 = m1)) u0) ∧
((decide (b1 < (w0 : Int))) = false →
 R (.returned (.bool true)) u0))
def F76_L : Nat → List (Nat × TypeDesc) := fun i => match i with
  | 4 => [(0, .slice 0), (1, .slice 0), (5, .int .i64)]
  | _ => []
theorem F76_ok {B : World} {R : Ending → Heap → Prop} (n0 : OA) (o0 p0 : Nat) (q0 : OA) (r0 s0 : Nat) {h : Heap} (H : F76 B R n0 o0 p0 q0 r0 s0 h) : Ec B 9 #[.slice n0 o0 p0, .slice q0 r0 s0] R h :=
 Ek Tryz.func9 (by kernel_rfl) (by kernel_rfl) (by kernel_rfl) F76_L [] (by kernel_rfl) H

/-- plumb/plumblaw7.alive -/
def F29_j29 (B : World) (R : Po) (a0 : Bool) (b0 : Heap) : Prop :=
 R (.returned (.bool a0)) b0
def F29 (B : World) (R : Po) (h : Heap) : Prop :=
 alW h (.cells #[.int .i64 (4607182418800017408 : Int)] 3) fun c0 d0 =>
 Ec B 7 #[.slice (some ⟨c0, 0, none⟩) 1 1, .int .i64 (4336966441157787648 : Int)] (retE (fun e0 f0 => ∃ g0 i0 j0 k0, e0 = .tuple #[.slice g0 i0 j0, .int .i64 k0] ∧
 alW f0 (.cells #[.int .i64 (4336966441157787648 : Int), .int .i64 (4607182418800017408 : Int)] 3) fun l0 m0 =>
 Ec B 8 #[.slice (some ⟨l0, 0, none⟩) 2 2, .int .i64 (4611686018427387904 : Int)] (retE (fun n0 o0 => ∃ p0 q0 r0 s0, n0 = .tuple #[.slice p0 q0 r0, .int .i64 s0] ∧
((decide (k0 = (0 : Int))) = true →
 alW o0 (.cells #[.int .i64 (4336966441157787648 : Int), .int .i64 (4607182418800017408 : Int)] 3) fun t0 u0 =>
 Ec B 9 #[.slice g0 i0 j0, .slice (some ⟨t0, 0, none⟩) 2 2] (retE (fun v0 w0 => ∃ x0, v0 = .bool x0 ∧
(x0 = true →
((decide (s0 = (0 : Int))) = true →
((decide ((q0 : Int) = (2 : Int))) = true →
 Ec B 10 #[.slice g0 i0 j0] (retE (fun y0 z0 => ∃ a1, y0 = .bool a1 ∧
 F29_j29 B R a1 z0)
(pk R)) w0) ∧
((decide ((q0 : Int) = (2 : Int))) = false →
 F29_j29 B R false w0)) ∧
((decide (s0 = (0 : Int))) = false →
(false = true →
 Ec B 10 #[.slice g0 i0 j0] (retE (fun b1 c1 => ∃ d1, b1 = .bool d1 ∧
 F29_j29 B R d1 c1)
(pk R)) w0) ∧
(false = false →
 F29_j29 B R false w0))) ∧
(x0 = false →
(false = true →
((decide ((q0 : Int) = (2 : Int))) = true →
 Ec B 10 #[.slice g0 i0 j0] (retE (fun e1 f1 => ∃ g1, e1 = .bool g1 ∧
 F29_j29 B R g1 f1)
(pk R)) w0) ∧
((decide ((q0 : Int) = (2 : Int))) = false →
 F29_j29 B R false w0)) ∧
(false = false →
(false = true →
 Ec B 10 #[.slice g0 i0 j0] (retE (fun i1 j1 => ∃ k1, i1 = .bool k1 ∧
 F29_j29 B R k1 j1)
(pk R)) w0) ∧
(false = false →
 F29_j29 B R false w0))))
(pk R)) u0) ∧
((decide (k0 = (0 : Int))) = false →
(false = true →
((decide (s0 = (0 : Int))) = true →
((decide ((q0 : Int) = (2 : Int))) = true →
 Ec B 10 #[.slice g0 i0 j0] (retE (fun l1 m1 => ∃ n1, l1 = .bool n1 ∧
 F29_j29 B R n1 m1)
(pk R)) o0) ∧
((decide ((q0 : Int) = (2 : Int))) = false →
 F29_j29 B R false o0)) ∧
((decide (s0 = (0 : Int))) = false →
(false = true →
 Ec B 10 #[.slice g0 i0 j0] (retE (fun o1 p1 => ∃ q1, o1 = .bool q1 ∧
 F29_j29 B R q1 p1)
(pk R)) o0) ∧
(false = false →
 F29_j29 B R false o0))) ∧
(false = false →
(false = true →
((decide ((q0 : Int) = (2 : Int))) = true →
 Ec B 10 #[.slice g0 i0 j0] (retE (fun r1 s1 => ∃ t1, r1 = .bool t1 ∧
 F29_j29 B R t1 s1)
(pk R)) o0) ∧
((decide ((q0 : Int) = (2 : Int))) = false →
 F29_j29 B R false o0)) ∧
(false = false →
(false = true →
 Ec B 10 #[.slice g0 i0 j0] (retE (fun u1 v1 => ∃ w1, u1 = .bool w1 ∧
 F29_j29 B R w1 v1)
(pk R)) o0) ∧
(false = false →
 F29_j29 B R false o0)))))
(pk R)) m0)
(pk R)) d0
def F29_L : Nat → List (Nat × TypeDesc) := fun _ => []
theorem F29_ok {B : World} {R : Ending → Heap → Prop} {h : Heap} (H : F29 B R h) : Ec B 4 #[] R h :=
 Ek Tryz.func4 (by kernel_rfl) (by kernel_rfl) (by kernel_rfl) F29_L [] (by kernel_rfl) H
end Go.Proofs
namespace Go.Proofs
open Go Go.Eng
variable {B : World} {R : Ending → Heap → Prop} {h : Heap}
theorem order_full {a b : Int} (ha : I64 a) (hb : I64 b) (fa : isFin a = true) (fb : isFin b = true) : FloatKind.f64.format.order (wd a) (wd b) = some (compareOfLessAndEq (fV a) (fV b)) := by
  have ea : Ieee.double.read (wd a) = .number (decide (a < 0)) (fM a) (fX a) := by
    rw [read_wd ha, if_pos]; unfold isFin at fa; exact of_decide_eq_true fa
  have eb : Ieee.double.read (wd b) = .number (decide (b < 0)) (fM b) (fX b) := by
    rw [read_wd hb, if_pos]; unfold isFin at fb; exact of_decide_eq_true fb
  have e0 : FloatKind.f64.format.order (wd a) (wd b) = (Ieee.double.read (wd a)).order (Ieee.double.read (wd b)) := rfl
  have ho : ∀ s m i t n j, Ieee.Datum.order (.number s m i) (.number t n j) = some (compare (Ieee.signed s m (i - min i j).toNat) (Ieee.signed t n (j - min i j).toNat)) := fun _ _ _ _ _ _ => rfl
  rw [e0, ea, eb, ho]
  have ga := fX_ge a
  have gb := fX_ge b
  rw [fV_at, fV_at]
  obtain ⟨b0, h0, h1, h2, h3⟩ : ∃ z, min (fX a) (fX b) = z ∧ z ≤ fX a ∧ z ≤ fX b ∧ -1074 ≤ z := ⟨_, rfl, by omega, by omega, by omega⟩
  rw [h0, show (fX a - (-1074)).toNat = (fX a - b0).toNat + (b0 + 1074).toNat by omega, show (fX b - (-1074)).toNat = (fX b - b0).toNat + (b0 + 1074).toNat by omega, signed_add, signed_add]
  generalize Ieee.signed (decide (a < 0)) (fM a) (fX a - b0).toNat = x
  generalize Ieee.signed (decide (b < 0)) (fM b) (fX b - b0).toNat = y
  generalize (b0 + 1074).toNat = kk
  have hk : (0 : Int) < ((2 ^ kk : Nat) : Int) := Int.natCast_pos.2 (Nat.pow_pos (by decide))
  generalize ((2 ^ kk : Nat) : Int) = k at hk
  have e : (x * k < y * k) ↔ (x < y) := Int.mul_lt_mul_right hk
  have e' : (x * k = y * k) ↔ (x = y) := ⟨fun h => Int.eq_of_mul_eq_mul_right (by omega) h, fun h => by rw [h]⟩
  show some (compareOfLessAndEq x y) = _
  unfold compareOfLessAndEq
  simp only [e, e']
/-- The pattern of 2^e. -/
def pwP (e : Int) : Int := if -1022 ≤ e then (e + 1023) * 4503599627370496 else ((2 ^ (e + 1074).toNat : Nat) : Int)
theorem near_tab : ∀ k, k < 53 → FloatKind.f64.nearest ((2 ^ k : Nat) : Int) = (k + 1023) * 4503599627370496 := by decide +kernel
theorem frac_tab : ∀ k, k < 53 → bitsI .andNot .u64 (((k + 1023) * 4503599627370496 : Nat) : Int) (9218868437227405312 : Int) = 0 := by decide +kernel
theorem mul_tab : ∀ e, e < 2046 → FloatKind.f64.format.mul ONE ((e + 1) * 4503599627370496) = some ((e + 1) * 4503599627370496) := by decide +kernel
end Go.Proofs
namespace Go.Proofs
open Go Go.Eng
variable {B : World} {R : Ending → Heap → Prop} {h : Heap}
abbrev pw2 (k : Nat) : Nat := (k + 1023) * 4503599627370496
theorem sub_tab : ∀ d, d < 52 → FloatKind.f64.format.mul 4368491638549381120 ((d + 2) * 4503599627370496) = some (2 ^ d) := by decide +kernel
theorem t1 : ∀ k, k < 53 → (FloatKind.f64.format.order (pw2 k) 0 == some .eq) = false := by decide +kernel
theorem t2 : ∀ k, k < 53 → (FloatKind.f64.format.order (pw2 k) (pw2 k) != some .eq) = false := by decide +kernel
theorem t3 : ∀ k, k < 53 → (FloatKind.f64.format.order (pw2 k) 4503599627370496 == some .lt) = false := by decide +kernel
theorem t4 : ∀ k, k < 53 → isInf (sg (pw2 k)) = false := by decide +kernel
theorem t5 : ∀ k, k < 53 → bitsI .andNot .u64 ((pw2 k : Nat) : Int) (9223372036854775808 : Int) = ((pw2 k : Nat) : Int) := by decide +kernel
theorem t6 : ∀ k, k < 53 → IntKind.i64.wrap ((bitsI .and .i64 (IntKind.i64.wrap (Int.fdiv ((pw2 k : Nat) : Int) (2 ^ min (Int.toNat (52 : Int)) IntKind.u64.bits))) (2047 : Int)) - (1023 : Int)) = (k : Int) := by decide +kernel
theorem t7 {y : Int} (h1 : 0 ≤ y) (h2 : y < 2047) : bitsI .or .u64 (0 : Int) (IntKind.u64.wrap ((IntKind.u64.wrap y) * 2 ^ min (Int.toNat (52 : Int)) IntKind.u64.bits)) = ((y.toNat * 4503599627370496 : Nat) : Int) := by
  obtain ⟨n, rfl⟩ : ∃ n : Nat, y = (n : Int) := ⟨y.toNat, by omega⟩
  have e1 : IntKind.u64.wrap (n : Int) = (n : Int) := by rw [wrap_u64_nat]; omega
  have e2 := shl_pow (x := n) (s := 52) (by decide)
  rw [show ((52 : Nat) : Int) = 52 from rfl, show (2 : Nat) ^ 52 = 4503599627370496 by decide] at e2
  rw [e1, e2, Int.toNat_natCast]
  have := bitsI_or (a := 0) (b := n * 4503599627370496 % 18446744073709551616) (by decide) (by omega)
  rw [show ((0 : Nat) : Int) = 0 from rfl, Nat.zero_or] at this
  rw [this]
  omega
/-- math.Ldexp, of a power of 2. -/
theorem K93q {k : Nat} {x : Int} (hk : k < 53) (h1 : -1074 ≤ x) (h2 : x + (k : Int) ≤ 1023) (H : R (.returned (.float .f64 (wd (pwP ((k : Int) + x))))) h) : Ent Tryz.prog B 25 #[.float .f64 (pw2 k), .int .i64 x] R h := by
  refine F93_ok _ _ ⟨fun e => (by cases e), fun _ => F152_ok _ _ ?_⟩
  unfold F152
  rw [t1 k hk]
  have hw : pw2 k < 18446744073709551616 := by unfold pw2; omega
  refine ⟨fun e => (by cases e), fun _ => K118 hw ⟨_, rfl, ?_⟩⟩
  rw [t4 k hk]
  refine ⟨fun e => (by cases e), fun _ => F183_ok _ ⟨_, rfl, ?_⟩⟩
  rw [t2 k hk]
  refine ⟨fun e => (by cases e), fun _ => F184_ok _ (F94_ok _ (E117 ⟨_, rfl, ?_⟩))⟩
  rw [t5 k hk]
  refine E116 ⟨_, rfl, _, rfl, ?_⟩
  rw [t3 k hk]
  refine ⟨fun e => (by cases e), fun _ => ⟨_, _, rfl, E117 ⟨_, rfl, by decide, ?_⟩⟩⟩
  rw [t6 k hk, i64_in (x := x + 0) (by omega) (by omega), i64_in (x := x + 0 + (k : Int)) (by omega) (by omega)]
  generalize hE : x + 0 + (k : Int) = E
  have hE1 : -1074 ≤ E := by omega
  have hE2 : E ≤ 1023 := by omega
  rw [show (k : Int) + x = E by omega] at H
  refine ⟨fun e => absurd (of_decide_eq_true e) (by omega), fun _ => ⟨fun e => absurd (of_decide_eq_true e) (by omega), fun _ => ⟨fun e => ?_, fun e => ?_⟩⟩⟩
  · have hlt := of_decide_eq_true e
    refine ⟨by decide, ?_⟩
    rw [frac_tab k hk, i64_in (x := E + 53) (by omega) (by omega), i64_in (x := E + 53 + 1023) (by omega) (by omega), t7 (by omega) (by omega)]
    refine E116 ⟨_, rfl, ?_⟩
    obtain ⟨d, hd⟩ : ∃ d : Nat, E + 1074 = (d : Int) := ⟨(E + 1074).toNat, by omega⟩
    rw [show (E + 53 + 1023).toNat = d + 2 by omega, sub_tab d (by omega)]
    refine ⟨fun z hz => ?_, fun e => by cases e⟩
    cases hz
    have e2 : wd (pwP E) = 2 ^ d := by
      have : 2 ^ d ≤ 2 ^ 52 := Nat.pow_le_pow_right (by decide) (by omega)
      have e52 : (2 : Nat) ^ 52 = 4503599627370496 := by decide
      unfold pwP wd
      rw [if_neg (by omega), show (E + 1074).toNat = d by omega]
      rw [e52] at this
      generalize 2 ^ d = q at *
      omega
    rw [e2] at H
    exact ⟨_, rfl, H⟩
  · have hlt := of_decide_eq_false e
    refine ⟨by decide, ?_⟩
    rw [frac_tab k hk, i64_in (x := E + 1023) (by omega) (by omega), t7 (by omega) (by omega)]
    refine E116 ⟨_, rfl, ?_⟩
    obtain ⟨d, hd⟩ : ∃ d : Nat, E + 1022 = (d : Int) := ⟨(E + 1022).toNat, by omega⟩
    rw [show (E + 1023).toNat = d + 1 by omega, mul_tab d (by omega)]
    refine ⟨fun z hz => ?_, fun e => by cases e⟩
    cases hz
    have e2 : wd (pwP E) = (d + 1) * 4503599627370496 := by
      unfold pwP wd
      rw [if_pos (by omega), show E + 1023 = ((d + 1 : Nat) : Int) by omega]
      omega
    rw [e2] at H
    exact ⟨_, rfl, H⟩
theorem K93p {k : Nat} {x : Int} (hk : k < 53) (h1 : -1074 ≤ x) (h2 : x ≤ 971) (H : R (.returned (.float .f64 (wd (pwP ((k : Int) + x))))) h) : Ent Tryz.prog B 25 #[.float .f64 (pw2 k), .int .i64 x] R h := K93q hk h1 (by omega) H
end Go.Proofs
