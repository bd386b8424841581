import Derived.Test.YtkfafikejdhccaaGreatDoorA20
/- Here stand lemmas: what the functions of expansion come to (written by program). -/
set_option linter.unusedVariables false
namespace Go.Proofs
open Go Go.Eng
/-- plumb/expansion.Valid -/
def F37_j20 (B : World) (R : Po) (a0 : Lp) (b0 : Nat) (c0 : OA) (d0 e0 f0 : Nat) (g0 i0 j0 : Int) (k0 : Bool) (l0 : Heap) : Prop :=
(k0 = true →
 R (.returned (.bool false)) l0) ∧
(k0 = false →
 ixW c0 d0 g0 1 fun m0 n0 =>
 iP m0 n0 fun o0 p0 => ∃ q0, cI l0 o0 p0 .i64 q0 ∧
 Ec B 63 #[.int .i64 q0] (retE (fun r0 s0 => ∃ t0 u0 v0 w0, r0 = .tuple #[.bool t0, .int .i64 u0, .int .i64 v0, .bool w0] ∧
 Ec B 93 #[.float .f64 (FloatKind.f64.nearest (bitsI .and .i64 u0 (IntKind.i64.wrap (0 - u0)))), .int .i64 v0] (retE (fun x0 y0 => ∃ z0, x0 = .float .f64 z0 ∧
((!(FloatKind.f64.format.order f0 z0 == some .lt)) = true →
 R (.returned (.bool false)) y0) ∧
((!(FloatKind.f64.format.order f0 z0 == some .lt)) = false →
 ixW c0 d0 g0 1 fun a1 b1 =>
 iP a1 b1 fun c1 d1 => ∃ e1, cI y0 c1 d1 .i64 e1 ∧
 Ec B 54 #[.int .i64 e1] (retE (fun f1 g1 => ∃ i1, f1 = .float .f64 i1 ∧
 Ec B 94 #[.float .f64 i1] (retE (fun j1 k1 => ∃ l1, j1 = .float .f64 l1 ∧
∃ m1, m1 < b0 ∧ a0 m1 [.slice c0 d0 e0, .float .f64 l1, .int .i64 i0, .int .i64 (IntKind.i64.wrap (j0 + (1 : Int)))] k1)
(pk R)) g1)
(pk R)) y0))
(pk R)) s0)
(pk R)) l0)
def F37 (B : World) (R : Po) (n1 : OA) (o1 p1 : Nat) (h : Heap) : Prop :=
((decide ((4096 : Int) < (o1 : Int))) = true →
 R (.returned (.bool false)) h) ∧
((decide ((4096 : Int) < (o1 : Int))) = false →
 ∃ a0 : Lp, ∃ q1, a0 q1 [.slice n1 o1 p1, .float .f64 0, .int .i64 (o1 : Int), .int .i64 (0 : Int)] h ∧
∀ (b0 : Nat) (r1 : Heap) (s1 : OA) (t1 u1 v1 : Nat) (w1 x1 : Int), a0 b0 [.slice s1 t1 u1, .float .f64 v1, .int .i64 w1, .int .i64 x1] r1 → ∀ _r : Nat → Value,
((decide (x1 < w1)) = true →
 ixW s1 t1 x1 1 fun y1 z1 =>
 iP y1 z1 fun a2 b2 => ∃ c2, cI r1 a2 b2 .i64 c2 ∧
 Ec B 17 #[.int .i64 c2] (retE (fun d2 e2 => ∃ f2, d2 = .int .i64 f2 ∧
((!decide (f2 = (1 : Int))) = true →
 F37_j20 B R a0 b0 s1 t1 u1 v1 x1 w1 x1 (!decide (f2 = (2 : Int))) e2) ∧
((!decide (f2 = (1 : Int))) = false →
 F37_j20 B R a0 b0 s1 t1 u1 v1 x1 w1 x1 false e2))
(pk R)) r1) ∧
((decide (x1 < w1)) = false →
 R (.returned (.bool true)) r1))
def F37_L : Nat → List (Nat × TypeDesc) := fun i => match i with
  | 5 => [(0, .slice 0), (3, .float .f64), (14, .int .i64), (15, .int .i64)]
  | _ => []
theorem F37_ok {B : World} {R : Ending → Heap → Prop} (n1 : OA) (o1 p1 : Nat) {h : Heap} (H : F37 B R n1 o1 p1 h) : Ec B 37 #[.slice n1 o1 p1] R h :=
 Ek Tryz.func37 (by kernel_rfl) (by kernel_rfl) (by kernel_rfl) F37_L [] (by kernel_rfl) H

/-- plumb/expansion.valid -/
def F87 (B : World) (R : Po) (a0 : OA) (b0 c0 : Nat) (h : Heap) : Prop :=
 ∃ d0 : Lp, ∃ e0, d0 e0 [.slice a0 b0 c0, .int .i64 (b0 : Int), .int .i64 (0 : Int)] h ∧
∀ (f0 : Nat) (g0 : Heap) (i0 : OA) (j0 k0 : Nat) (l0 m0 : Int), d0 f0 [.slice i0 j0 k0, .int .i64 l0, .int .i64 m0] g0 → ∀ _r : Nat → Value,
((decide (m0 < l0)) = true →
 ixW i0 j0 m0 1 fun n0 o0 =>
 iP n0 o0 fun p0 q0 => ∃ r0 s0 t0, cS g0 p0 q0 r0 s0 t0 ∧
 Ec B 37 #[.slice r0 s0 t0] (retE (fun u0 v0 => ∃ w0, u0 = .bool w0 ∧
((!w0) = true →
 R (.returned (.int .i64 (1 : Int))) v0) ∧
((!w0) = false →
 ∃ x0, x0 < f0 ∧ d0 x0 [.slice i0 j0 k0, .int .i64 l0, .int .i64 (IntKind.i64.wrap (m0 + (1 : Int)))] v0))
(pk R)) g0) ∧
((decide (m0 < l0)) = false →
 R (.returned (.int .i64 (0 : Int))) g0)
def F87_L : Nat → List (Nat × TypeDesc) := fun i => match i with
  | 2 => [(5, .slice 0), (6, .int .i64), (7, .int .i64)]
  | _ => []
theorem F87_ok {B : World} {R : Ending → Heap → Prop} (a0 : OA) (b0 c0 : Nat) {h : Heap} (H : F87 B R a0 b0 c0 h) : Ec B 87 #[.slice a0 b0 c0] R h :=
 Ek Tryz.func87 (by kernel_rfl) (by kernel_rfl) (by kernel_rfl) F87_L [] (by kernel_rfl) H

/-- plumb/expansion.finite -/
def F88 (B : World) (R : Po) (a0 : Int) (h : Heap) : Prop :=
 Ec B 17 #[.int .i64 a0] (retE (fun b0 c0 => ∃ d0, b0 = .int .i64 d0 ∧
 R (.returned (.bool (decide (d0 < (3 : Int))))) c0)
(pk R)) h
def F88_L : Nat → List (Nat × TypeDesc) := fun _ => []
theorem F88_ok {B : World} {R : Ending → Heap → Prop} (a0 : Int) {h : Heap} (H : F88 B R a0 h) : Ec B 88 #[.int .i64 a0] R h :=
 Ek Tryz.func88 (by kernel_rfl) (by kernel_rfl) (by kernel_rfl) F88_L [] (by kernel_rfl) H

/-- plumb/expansion.told -/
def F89 (B : World) (R : Po) (a0 : OA) (b0 c0 : Nat) (h : Heap) : Prop :=
((decide ((4096 : Int) < (b0 : Int))) = true →
 R (.returned (.tuple #[.slice none 0 0, .int .i64 (2 : Int)])) h) ∧
((decide ((4096 : Int) < (b0 : Int))) = false →
 R (.returned (.tuple #[.slice a0 b0 c0, .int .i64 (0 : Int)])) h)
def F89_L : Nat → List (Nat × TypeDesc) := fun _ => []
theorem F89_ok {B : World} {R : Ending → Heap → Prop} (a0 : OA) (b0 c0 : Nat) {h : Heap} (H : F89 B R a0 b0 c0 h) : Ec B 89 #[.slice a0 b0 c0] R h :=
 Ek Tryz.func89 (by kernel_rfl) (by kernel_rfl) (by kernel_rfl) F89_L [] (by kernel_rfl) H

/-- plumb/expansion.step -/
def F107 (B : World) (R : Po) (a0 b0 : Int) (c0 : Bool) (h : Heap) : Prop :=
((!c0) = true →
 R (.panicked [{ v := .iface 147 (.agg #[]), recovered := false }]) h) ∧
((!c0) = false →
 R (.returned (.tuple #[.int .i64 a0, .int .i64 b0])) h)
def F107_L : Nat → List (Nat × TypeDesc) := fun _ => []
theorem F107_ok {B : World} {R : Ending → Heap → Prop} (a0 b0 : Int) (c0 : Bool) {h : Heap} (H : F107 B R a0 b0 c0 h) : Ec B 107 #[.int .i64 a0, .int .i64 b0, .bool c0] R h :=
 Ek Tryz.func107 (by kernel_rfl) (by kernel_rfl) (by kernel_rfl) F107_L [] (by kernel_rfl) H

/-- plumb/expansion.add -/
def F108 (B : World) (R : Po) (a0 : OA) (b0 c0 : Nat) (d0 : Int) (h : Heap) : Prop :=
 Ec B 17 #[.int .i64 d0] (retE (fun e0 f0 => ∃ g0, e0 = .int .i64 g0 ∧
((decide (g0 = (0 : Int))) = true →
 R (.returned (.slice a0 b0 c0)) f0) ∧
((decide (g0 = (0 : Int))) = false →
 alW f0 (.cells #[.int .i64 d0] 3) fun i0 j0 =>
 apW j0 a0 b0 c0 (some ⟨i0, 0, none⟩) 1 1 8 3 #[.int .i64 0] fun k0 l0 m0 n0 =>
 R (.returned (.slice k0 l0 m0)) n0))
(pk R)) h
def F108_L : Nat → List (Nat × TypeDesc) := fun _ => []
theorem F108_ok {B : World} {R : Ending → Heap → Prop} (a0 : OA) (b0 c0 : Nat) (d0 : Int) {h : Heap} (H : F108 B R a0 b0 c0 d0 h) : Ec B 108 #[.slice a0 b0 c0, .int .i64 d0] R h :=
 Ek Tryz.func108 (by kernel_rfl) (by kernel_rfl) (by kernel_rfl) F108_L [] (by kernel_rfl) H

/-- plumb/expansion.grow -/
def F90 (B : World) (R : Po) (a0 : OA) (b0 c0 : Nat) (d0 : Int) (h : Heap) : Prop :=
  0 ≤ (0 : Int) ∧ (0 : Int) ≤ (IntKind.i64.wrap ((b0 : Int) + (1 : Int))) ∧ 8 * (IntKind.i64.wrap ((b0 : Int) + (1 : Int))) ≤ 281474976710656 ∧ (IntKind.i64.wrap ((b0 : Int) + (1 : Int))) < 9223372036854775808 ∧
 alW h (.cells (mkCells #[.int .i64 0] (Int.toNat (IntKind.i64.wrap ((b0 : Int) + (1 : Int))) * 1)) 3) fun e0 f0 =>
∃ g0 : Lp, ∃ i0, g0 i0 [.slice (some ⟨e0, 0, none⟩) (Int.toNat (0 : Int)) (Int.toNat (IntKind.i64.wrap ((b0 : Int) + (1 : Int)))), .int .i64 d0, .slice a0 b0 c0, .int .i64 (b0 : Int), .int .i64 (0 : Int)] f0 ∧
∀ (j0 : Nat) (k0 : Heap) (l0 : OA) (m0 n0 : Nat) (o0 : Int) (p0 : OA) (q0 r0 : Nat) (s0 t0 : Int), g0 j0 [.slice l0 m0 n0, .int .i64 o0, .slice p0 q0 r0, .int .i64 s0, .int .i64 t0] k0 → ∀ _r : Nat → Value,
((decide (t0 < s0)) = true →
 ixW p0 q0 t0 1 fun u0 v0 =>
 iP u0 v0 fun w0 x0 => ∃ y0, cI k0 w0 x0 .i64 y0 ∧
 Ec B 18 #[.int .i64 o0, .int .i64 y0] (retE (fun z0 a1 => ∃ b1 c1 d1, z0 = .tuple #[.int .i64 b1, .int .i64 c1, .bool d1] ∧
 Ec B 107 #[.int .i64 b1, .int .i64 c1, .bool d1] (retE (fun e1 f1 => ∃ g1 i1, e1 = .tuple #[.int .i64 g1, .int .i64 i1] ∧
 Ec B 108 #[.slice l0 m0 n0, .int .i64 i1] (retE (fun j1 k1 => ∃ l1 m1 n1, j1 = .slice l1 m1 n1 ∧
∃ o1, o1 < j0 ∧ g0 o1 [.slice l1 m1 n1, .int .i64 g1, .slice p0 q0 r0, .int .i64 s0, .int .i64 (IntKind.i64.wrap (t0 + (1 : Int)))] k1)
(pk R)) f1)
(pk R)) a1)
(pk R)) k0) ∧
((decide (t0 < s0)) = false →
 Ec B 108 #[.slice l0 m0 n0, .int .i64 o0] (retE (fun p1 q1 => ∃ r1 s1 t1, p1 = .slice r1 s1 t1 ∧
 R (.returned (.slice r1 s1 t1)) q1)
(pk R)) k0)
def F90_L : Nat → List (Nat × TypeDesc) := fun i => match i with
  | 4 => [(5, .slice 0), (6, .int .i64), (15, .slice 0), (16, .int .i64), (17, .int .i64)]
  | _ => []
theorem F90_ok {B : World} {R : Ending → Heap → Prop} (a0 : OA) (b0 c0 : Nat) (d0 : Int) {h : Heap} (H : F90 B R a0 b0 c0 d0 h) : Ec B 90 #[.slice a0 b0 c0, .int .i64 d0] R h :=
 Ek Tryz.func90 (by kernel_rfl) (by kernel_rfl) (by kernel_rfl) F90_L [] (by kernel_rfl) H

/-- plumb/expansion.Grow -/
def F34 (B : World) (R : Po) (a0 : OA) (b0 c0 : Nat) (d0 : Int) (h : Heap) : Prop :=
 alW h (.cells #[.slice none 0 0] 27) fun e0 f0 =>
 alW f0 (.cells #[.int .i64 0] 30) fun g0 i0 =>
 alW i0 (.cells #[.slice a0 b0 c0] 27) fun j0 k0 =>
 Ec B 87 #[.slice (some ⟨j0, 0, none⟩) 1 1] (retE (fun l0 m0 => ∃ n0, l0 = .int .i64 n0 ∧
((!decide (n0 = (0 : Int))) = true →
 iP e0 0 fun o0 p0 => stC m0 o0 p0 (.slice none 0 0) fun q0 =>
 iP g0 0 fun r0 s0 => stC q0 r0 s0 (.int .i64 n0) fun t0 =>
 Enters Tryz.prog 86 ∧ FnD Tryz.prog B 86 #[.pointer (some ⟨e0, 0, none⟩), .pointer (some ⟨g0, 0, none⟩)] .returning (dfE fun u0 v0 => lvW (fun w0 => iP e0 0 fun x0 y0 => ∃ z0 a1 b1, cS w0 x0 y0 z0 a1 b1 ∧
 iP g0 0 fun c1 d1 => ∃ e1, cI w0 c1 d1 .i64 e1 ∧
 R (.returned (.tuple #[.slice z0 a1 b1, .int .i64 e1])) w0) (pk R) u0 v0) t0) ∧
((!decide (n0 = (0 : Int))) = false →
 Ec B 88 #[.int .i64 d0] (retE (fun f1 g1 => ∃ i1, f1 = .bool i1 ∧
((!i1) = true →
 iP e0 0 fun j1 k1 => stC g1 j1 k1 (.slice none 0 0) fun l1 =>
 iP g0 0 fun m1 n1 => stC l1 m1 n1 (.int .i64 (10 : Int)) fun o1 =>
 Enters Tryz.prog 86 ∧ FnD Tryz.prog B 86 #[.pointer (some ⟨e0, 0, none⟩), .pointer (some ⟨g0, 0, none⟩)] .returning (dfE fun p1 q1 => lvW (fun r1 => iP e0 0 fun s1 t1 => ∃ u1 v1 w1, cS r1 s1 t1 u1 v1 w1 ∧
 iP g0 0 fun x1 y1 => ∃ z1, cI r1 x1 y1 .i64 z1 ∧
 R (.returned (.tuple #[.slice u1 v1 w1, .int .i64 z1])) r1) (pk R) p1 q1) o1) ∧
((!i1) = false →
 Ec B 90 #[.slice a0 b0 c0, .int .i64 d0] (retE (fun a2 b2 => ∃ c2 d2 e2, a2 = .slice c2 d2 e2 ∧
 Ec B 89 #[.slice c2 d2 e2] (retE (fun f2 g2 => ∃ i2 j2 k2 l2, f2 = .tuple #[.slice i2 j2 k2, .int .i64 l2] ∧
 iP e0 0 fun m2 n2 => stC g2 m2 n2 (.slice i2 j2 k2) fun o2 =>
 iP g0 0 fun p2 q2 => stC o2 p2 q2 (.int .i64 l2) fun r2 =>
 Enters Tryz.prog 86 ∧ FnD Tryz.prog B 86 #[.pointer (some ⟨e0, 0, none⟩), .pointer (some ⟨g0, 0, none⟩)] .returning (dfE fun s2 t2 => lvW (fun u2 => iP e0 0 fun v2 w2 => ∃ x2 y2 z2, cS u2 v2 w2 x2 y2 z2 ∧
 iP g0 0 fun a3 b3 => ∃ c3, cI u2 a3 b3 .i64 c3 ∧
 R (.returned (.tuple #[.slice x2 y2 z2, .int .i64 c3])) u2) (pk R) s2 t2) r2)
(fun d3 e3 => Enters Tryz.prog 86 ∧ FnD Tryz.prog B 86 #[.pointer (some ⟨e0, 0, none⟩), .pointer (some ⟨g0, 0, none⟩)] (.panicking d3) (dfE fun f3 g3 => lvW (fun i3 => iP e0 0 fun j3 k3 => ∃ l3 m3 n3, cS i3 j3 k3 l3 m3 n3 ∧
 iP g0 0 fun o3 p3 => ∃ q3, cI i3 o3 p3 .i64 q3 ∧
 R (.returned (.tuple #[.slice l3 m3 n3, .int .i64 q3])) i3) (pk R) f3 g3) e3)) b2)
(fun r3 s3 => Enters Tryz.prog 86 ∧ FnD Tryz.prog B 86 #[.pointer (some ⟨e0, 0, none⟩), .pointer (some ⟨g0, 0, none⟩)] (.panicking r3) (dfE fun t3 u3 => lvW (fun v3 => iP e0 0 fun w3 x3 => ∃ y3 z3 a4, cS v3 w3 x3 y3 z3 a4 ∧
 iP g0 0 fun b4 c4 => ∃ d4, cI v3 b4 c4 .i64 d4 ∧
 R (.returned (.tuple #[.slice y3 z3 a4, .int .i64 d4])) v3) (pk R) t3 u3) s3)) g1))
(fun e4 f4 => Enters Tryz.prog 86 ∧ FnD Tryz.prog B 86 #[.pointer (some ⟨e0, 0, none⟩), .pointer (some ⟨g0, 0, none⟩)] (.panicking e4) (dfE fun g4 i4 => lvW (fun j4 => iP e0 0 fun k4 l4 => ∃ m4 n4 o4, cS j4 k4 l4 m4 n4 o4 ∧
 iP g0 0 fun p4 q4 => ∃ r4, cI j4 p4 q4 .i64 r4 ∧
 R (.returned (.tuple #[.slice m4 n4 o4, .int .i64 r4])) j4) (pk R) g4 i4) f4)) m0))
(fun s4 t4 => Enters Tryz.prog 86 ∧ FnD Tryz.prog B 86 #[.pointer (some ⟨e0, 0, none⟩), .pointer (some ⟨g0, 0, none⟩)] (.panicking s4) (dfE fun u4 v4 => lvW (fun w4 => iP e0 0 fun x4 y4 => ∃ z4 a5 b5, cS w4 x4 y4 z4 a5 b5 ∧
 iP g0 0 fun c5 d5 => ∃ e5, cI w4 c5 d5 .i64 e5 ∧
 R (.returned (.tuple #[.slice z4 a5 b5, .int .i64 e5])) w4) (pk R) u4 v4) t4)) k0
def F34_L : Nat → List (Nat × TypeDesc) := fun _ => []
theorem F34_ok {B : World} {R : Ending → Heap → Prop} (a0 : OA) (b0 c0 : Nat) (d0 : Int) {h : Heap} (H : F34 B R a0 b0 c0 d0 h) : Ec B 34 #[.slice a0 b0 c0, .int .i64 d0] R h :=
 Ed Tryz.func34 (by kernel_rfl) (by kernel_rfl) (by kernel_rfl) F34_L [] (by kernel_rfl) H

/-- plumb/expansion.scale -/
def F91_j3 (B : World) (R : Po) (a0 : OA) (b0 c0 : Nat) (d0 : Int) (e0 : Bool) (f0 : Heap) : Prop :=
(e0 = true →
 R (.returned (.slice none 0 0)) f0) ∧
(e0 = false →
 0 ≤ (0 : Int) ∧ (0 : Int) ≤ (IntKind.i64.wrap ((2 : Int) * (b0 : Int))) ∧ 8 * (IntKind.i64.wrap ((2 : Int) * (b0 : Int))) ≤ 281474976710656 ∧ (IntKind.i64.wrap ((2 : Int) * (b0 : Int))) < 9223372036854775808 ∧
 alW f0 (.cells (mkCells #[.int .i64 0] (Int.toNat (IntKind.i64.wrap ((2 : Int) * (b0 : Int))) * 1)) 3) fun g0 i0 =>
 ixW a0 b0 (0 : Int) 1 fun j0 k0 =>
 iP j0 k0 fun l0 m0 => ∃ n0, cI i0 l0 m0 .i64 n0 ∧
 Ec B 19 #[.int .i64 n0, .int .i64 d0] (retE (fun o0 p0 => ∃ q0 r0 s0, o0 = .tuple #[.int .i64 q0, .int .i64 r0, .bool s0] ∧
 Ec B 107 #[.int .i64 q0, .int .i64 r0, .bool s0] (retE (fun t0 u0 => ∃ v0 w0, t0 = .tuple #[.int .i64 v0, .int .i64 w0] ∧
 Ec B 108 #[.slice (some ⟨g0, 0, none⟩) (Int.toNat (0 : Int)) (Int.toNat (IntKind.i64.wrap ((2 : Int) * (b0 : Int)))), .int .i64 w0] (retE (fun x0 y0 => ∃ z0 a1 b1, x0 = .slice z0 a1 b1 ∧
 slW b0 c0 (some (.int .i64 (1 : Int))) none none fun c1 d1 e1 =>
∃ f1 : Lp, ∃ g1, f1 g1 [.int .i64 d0, .slice z0 a1 b1, .int .i64 v0, .slice (slP a0 c1 e1 1) (d1 - c1) (e1 - c1), .int .i64 ((d1 - c1 : Nat) : Int), .int .i64 (0 : Int)] y0 ∧
∀ (i1 : Nat) (j1 : Heap) (k1 : Int) (l1 : OA) (m1 n1 : Nat) (o1 : Int) (p1 : OA) (q1 r1 : Nat) (s1 t1 : Int), f1 i1 [.int .i64 k1, .slice l1 m1 n1, .int .i64 o1, .slice p1 q1 r1, .int .i64 s1, .int .i64 t1] j1 → ∀ _r : Nat → Value,
((decide (t1 < s1)) = true →
 ixW p1 q1 t1 1 fun u1 v1 =>
 iP u1 v1 fun w1 x1 => ∃ y1, cI j1 w1 x1 .i64 y1 ∧
 Ec B 19 #[.int .i64 y1, .int .i64 k1] (retE (fun z1 a2 => ∃ b2 c2 d2, z1 = .tuple #[.int .i64 b2, .int .i64 c2, .bool d2] ∧
 Ec B 107 #[.int .i64 b2, .int .i64 c2, .bool d2] (retE (fun e2 f2 => ∃ g2 i2, e2 = .tuple #[.int .i64 g2, .int .i64 i2] ∧
 Ec B 18 #[.int .i64 o1, .int .i64 i2] (retE (fun j2 k2 => ∃ l2 m2 n2, j2 = .tuple #[.int .i64 l2, .int .i64 m2, .bool n2] ∧
 Ec B 107 #[.int .i64 l2, .int .i64 m2, .bool n2] (retE (fun o2 p2 => ∃ q2 r2, o2 = .tuple #[.int .i64 q2, .int .i64 r2] ∧
 Ec B 108 #[.slice l1 m1 n1, .int .i64 r2] (retE (fun s2 t2 => ∃ u2 v2 w2, s2 = .slice u2 v2 w2 ∧
 Ec B 20 #[.int .i64 g2, .int .i64 q2] (retE (fun x2 y2 => ∃ z2 a3 b3, x2 = .tuple #[.int .i64 z2, .int .i64 a3, .bool b3] ∧
 Ec B 107 #[.int .i64 z2, .int .i64 a3, .bool b3] (retE (fun c3 d3 => ∃ e3 f3, c3 = .tuple #[.int .i64 e3, .int .i64 f3] ∧
 Ec B 108 #[.slice u2 v2 w2, .int .i64 f3] (retE (fun g3 i3 => ∃ j3 k3 l3, g3 = .slice j3 k3 l3 ∧
∃ m3, m3 < i1 ∧ f1 m3 [.int .i64 k1, .slice j3 k3 l3, .int .i64 e3, .slice p1 q1 r1, .int .i64 s1, .int .i64 (IntKind.i64.wrap (t1 + (1 : Int)))] i3)
(pk R)) d3)
(pk R)) y2)
(pk R)) t2)
(pk R)) p2)
(pk R)) k2)
(pk R)) f2)
(pk R)) a2)
(pk R)) j1) ∧
((decide (t1 < s1)) = false →
 Ec B 108 #[.slice l1 m1 n1, .int .i64 o1] (retE (fun n3 o3 => ∃ p3 q3 r3, n3 = .slice p3 q3 r3 ∧
 R (.returned (.slice p3 q3 r3)) o3)
(pk R)) j1))
(pk R)) u0)
(pk R)) p0)
(pk R)) i0)
def F91 (B : World) (R : Po) (s3 : OA) (t3 u3 : Nat) (v3 : Int) (h : Heap) : Prop :=
((decide ((t3 : Int) = (0 : Int))) = true →
 F91_j3 B R s3 t3 u3 v3 true h) ∧
((decide ((t3 : Int) = (0 : Int))) = false →
 Ec B 17 #[.int .i64 v3] (retE (fun w3 x3 => ∃ y3, w3 = .int .i64 y3 ∧
 F91_j3 B R s3 t3 u3 v3 (decide (y3 = (0 : Int))) x3)
(pk R)) h)
def F91_L : Nat → List (Nat × TypeDesc) := fun i => match i with
  | 7 => [(1, .int .i64), (5, .slice 0), (6, .int .i64), (40, .slice 0), (41, .int .i64), (42, .int .i64)]
  | _ => []
theorem F91_ok {B : World} {R : Ending → Heap → Prop} (s3 : OA) (t3 u3 : Nat) (v3 : Int) {h : Heap} (H : F91 B R s3 t3 u3 v3 h) : Ec B 91 #[.slice s3 t3 u3, .int .i64 v3] R h :=
 Ek Tryz.func91 (by kernel_rfl) (by kernel_rfl) (by kernel_rfl) F91_L [] (by kernel_rfl) H

/-- plumb/expansion.Scale -/
def F35 (B : World) (R : Po) (a0 : OA) (b0 c0 : Nat) (d0 : Int) (h : Heap) : Prop :=
 alW h (.cells #[.slice none 0 0] 27) fun e0 f0 =>
 alW f0 (.cells #[.int .i64 0] 30) fun g0 i0 =>
 alW i0 (.cells #[.slice a0 b0 c0] 27) fun j0 k0 =>
 Ec B 87 #[.slice (some ⟨j0, 0, none⟩) 1 1] (retE (fun l0 m0 => ∃ n0, l0 = .int .i64 n0 ∧
((!decide (n0 = (0 : Int))) = true →
 iP e0 0 fun o0 p0 => stC m0 o0 p0 (.slice none 0 0) fun q0 =>
 iP g0 0 fun r0 s0 => stC q0 r0 s0 (.int .i64 n0) fun t0 =>
 Enters Tryz.prog 86 ∧ FnD Tryz.prog B 86 #[.pointer (some ⟨e0, 0, none⟩), .pointer (some ⟨g0, 0, none⟩)] .returning (dfE fun u0 v0 => lvW (fun w0 => iP e0 0 fun x0 y0 => ∃ z0 a1 b1, cS w0 x0 y0 z0 a1 b1 ∧
 iP g0 0 fun c1 d1 => ∃ e1, cI w0 c1 d1 .i64 e1 ∧
 R (.returned (.tuple #[.slice z0 a1 b1, .int .i64 e1])) w0) (pk R) u0 v0) t0) ∧
((!decide (n0 = (0 : Int))) = false →
 Ec B 88 #[.int .i64 d0] (retE (fun f1 g1 => ∃ i1, f1 = .bool i1 ∧
((!i1) = true →
 iP e0 0 fun j1 k1 => stC g1 j1 k1 (.slice none 0 0) fun l1 =>
 iP g0 0 fun m1 n1 => stC l1 m1 n1 (.int .i64 (10 : Int)) fun o1 =>
 Enters Tryz.prog 86 ∧ FnD Tryz.prog B 86 #[.pointer (some ⟨e0, 0, none⟩), .pointer (some ⟨g0, 0, none⟩)] .returning (dfE fun p1 q1 => lvW (fun r1 => iP e0 0 fun s1 t1 => ∃ u1 v1 w1, cS r1 s1 t1 u1 v1 w1 ∧
 iP g0 0 fun x1 y1 => ∃ z1, cI r1 x1 y1 .i64 z1 ∧
 R (.returned (.tuple #[.slice u1 v1 w1, .int .i64 z1])) r1) (pk R) p1 q1) o1) ∧
((!i1) = false →
 Ec B 91 #[.slice a0 b0 c0, .int .i64 d0] (retE (fun a2 b2 => ∃ c2 d2 e2, a2 = .slice c2 d2 e2 ∧
 Ec B 89 #[.slice c2 d2 e2] (retE (fun f2 g2 => ∃ i2 j2 k2 l2, f2 = .tuple #[.slice i2 j2 k2, .int .i64 l2] ∧
 iP e0 0 fun m2 n2 => stC g2 m2 n2 (.slice i2 j2 k2) fun o2 =>
 iP g0 0 fun p2 q2 => stC o2 p2 q2 (.int .i64 l2) fun r2 =>
 Enters Tryz.prog 86 ∧ FnD Tryz.prog B 86 #[.pointer (some ⟨e0, 0, none⟩), .pointer (some ⟨g0, 0, none⟩)] .returning (dfE fun s2 t2 => lvW (fun u2 => iP e0 0 fun v2 w2 => ∃ x2 y2 z2, cS u2 v2 w2 x2 y2 z2 ∧
 iP g0 0 fun a3 b3 => ∃ c3, cI u2 a3 b3 .i64 c3 ∧
 R (.returned (.tuple #[.slice x2 y2 z2, .int .i64 c3])) u2) (pk R) s2 t2) r2)
(fun d3 e3 => Enters Tryz.prog 86 ∧ FnD Tryz.prog B 86 #[.pointer (some ⟨e0, 0, none⟩), .pointer (some ⟨g0, 0, none⟩)] (.panicking d3) (dfE fun f3 g3 => lvW (fun i3 => iP e0 0 fun j3 k3 => ∃ l3 m3 n3, cS i3 j3 k3 l3 m3 n3 ∧
 iP g0 0 fun o3 p3 => ∃ q3, cI i3 o3 p3 .i64 q3 ∧
 R (.returned (.tuple #[.slice l3 m3 n3, .int .i64 q3])) i3) (pk R) f3 g3) e3)) b2)
(fun r3 s3 => Enters Tryz.prog 86 ∧ FnD Tryz.prog B 86 #[.pointer (some ⟨e0, 0, none⟩), .pointer (some ⟨g0, 0, none⟩)] (.panicking r3) (dfE fun t3 u3 => lvW (fun v3 => iP e0 0 fun w3 x3 => ∃ y3 z3 a4, cS v3 w3 x3 y3 z3 a4 ∧
 iP g0 0 fun b4 c4 => ∃ d4, cI v3 b4 c4 .i64 d4 ∧
 R (.returned (.tuple #[.slice y3 z3 a4, .int .i64 d4])) v3) (pk R) t3 u3) s3)) g1))
(fun e4 f4 => Enters Tryz.prog 86 ∧ FnD Tryz.prog B 86 #[.pointer (some ⟨e0, 0, none⟩), .pointer (some ⟨g0, 0, none⟩)] (.panicking e4) (dfE fun g4 i4 => lvW (fun j4 => iP e0 0 fun k4 l4 => ∃ m4 n4 o4, cS j4 k4 l4 m4 n4 o4 ∧
 iP g0 0 fun p4 q4 => ∃ r4, cI j4 p4 q4 .i64 r4 ∧
 R (.returned (.tuple #[.slice m4 n4 o4, .int .i64 r4])) j4) (pk R) g4 i4) f4)) m0))
(fun s4 t4 => Enters Tryz.prog 86 ∧ FnD Tryz.prog B 86 #[.pointer (some ⟨e0, 0, none⟩), .pointer (some ⟨g0, 0, none⟩)] (.panicking s4) (dfE fun u4 v4 => lvW (fun w4 => iP e0 0 fun x4 y4 => ∃ z4 a5 b5, cS w4 x4 y4 z4 a5 b5 ∧
 iP g0 0 fun c5 d5 => ∃ e5, cI w4 c5 d5 .i64 e5 ∧
 R (.returned (.tuple #[.slice z4 a5 b5, .int .i64 e5])) w4) (pk R) u4 v4) t4)) k0
def F35_L : Nat → List (Nat × TypeDesc) := fun _ => []
theorem F35_ok {B : World} {R : Ending → Heap → Prop} (a0 : OA) (b0 c0 : Nat) (d0 : Int) {h : Heap} (H : F35 B R a0 b0 c0 d0 h) : Ec B 35 #[.slice a0 b0 c0, .int .i64 d0] R h :=
 Ed Tryz.func35 (by kernel_rfl) (by kernel_rfl) (by kernel_rfl) F35_L [] (by kernel_rfl) H

/-- plumb/plumblaw2.Same -/
def F76_j20 (B : World) (R : Po) (a0 : Lp) (b0 : Nat) (c0 : OA) (d0 e0 : Nat) (f0 : OA) (g0 i0 : Nat) (j0 : Int) (k0 : Bool) (l0 : Heap) : Prop :=
(k0 = true →
 R (.returned (.bool false)) l0) ∧
(k0 = false →
 ∃ m0, m0 < b0 ∧ a0 m0 [.slice c0 d0 e0, .slice f0 g0 i0, .int .i64 (IntKind.i64.wrap (j0 + (1 : Int)))] l0)
def F76 (B : World) (R : Po) (n0 : OA) (o0 p0 : Nat) (q0 : OA) (r0 s0 : Nat) (h : Heap) : Prop :=
((!decide ((o0 : Int) = (r0 : Int))) = true →
 R (.returned (.bool false)) h) ∧
((!decide ((o0 : Int) = (r0 : Int))) = false →
 ∃ a0 : Lp, ∃ t0, a0 t0 [.slice n0 o0 p0, .slice q0 r0 s0, .int .i64 (0 : Int)] h ∧
∀ (b0 : Nat) (u0 : Heap) (v0 : OA) (w0 x0 : Nat) (y0 : OA) (z0 a1 : Nat) (b1 : Int), a0 b0 [.slice v0 w0 x0, .slice y0 z0 a1, .int .i64 b1] u0 → ∀ _r : Nat → Value,
((decide (b1 < (w0 : Int))) = true →
 ixW v0 w0 b1 1 fun c1 d1 =>
 iP c1 d1 fun e1 f1 => ∃ g1, cI u0 e1 f1 .i64 g1 ∧
 ixW y0 z0 b1 1 fun i1 j1 =>
 iP i1 j1 fun k1 l1 => ∃ m1, cI u0 k1 l1 .i64 m1 ∧
 F76_j20 B R a0 b0 v0 w0 x0 y0 z0 a1 b1 (!decide (g1 = m1)) u0) ∧
((decide (b1 < (w0 : Int))) = false →
 R (.returned (.bool true)) u0))
def F76_L : Nat → List (Nat × TypeDesc) := fun i => match i with
  | 4 => [(0, .slice 0), (1, .slice 0), (5, .int .i64)]
  | _ => []
theorem F76_ok {B : World} {R : Ending → Heap → Prop} (n0 : OA) (o0 p0 : Nat) (q0 : OA) (r0 s0 : Nat) {h : Heap} (H : F76 B R n0 o0 p0 q0 r0 s0 h) : Ec B 76 #[.slice n0 o0 p0, .slice q0 r0 s0] R h :=
 Ek Tryz.func76 (by kernel_rfl) (by kernel_rfl) (by kernel_rfl) F76_L [] (by kernel_rfl) H

/-- plumb/plumblaw7.alive -/
def F29_j29 (B : World) (R : Po) (a0 : Bool) (b0 : Heap) : Prop :=
 R (.returned (.bool a0)) b0
def F29 (B : World) (R : Po) (h : Heap) : Prop :=
 alW h (.cells #[.int .i64 (4607182418800017408 : Int)] 3) fun c0 d0 =>
 Ec B 34 #[.slice (some ⟨c0, 0, none⟩) 1 1, .int .i64 (4336966441157787648 : Int)] (retE (fun e0 f0 => ∃ g0 i0 j0 k0, e0 = .tuple #[.slice g0 i0 j0, .int .i64 k0] ∧
 alW f0 (.cells #[.int .i64 (4336966441157787648 : Int), .int .i64 (4607182418800017408 : Int)] 3) fun l0 m0 =>
 Ec B 35 #[.slice (some ⟨l0, 0, none⟩) 2 2, .int .i64 (4611686018427387904 : Int)] (retE (fun n0 o0 => ∃ p0 q0 r0 s0, n0 = .tuple #[.slice p0 q0 r0, .int .i64 s0] ∧
((decide (k0 = (0 : Int))) = true →
 alW o0 (.cells #[.int .i64 (4336966441157787648 : Int), .int .i64 (4607182418800017408 : Int)] 3) fun t0 u0 =>
 Ec B 76 #[.slice g0 i0 j0, .slice (some ⟨t0, 0, none⟩) 2 2] (retE (fun v0 w0 => ∃ x0, v0 = .bool x0 ∧
(x0 = true →
((decide (s0 = (0 : Int))) = true →
((decide ((q0 : Int) = (2 : Int))) = true →
 Ec B 37 #[.slice g0 i0 j0] (retE (fun y0 z0 => ∃ a1, y0 = .bool a1 ∧
 F29_j29 B R a1 z0)
(pk R)) w0) ∧
((decide ((q0 : Int) = (2 : Int))) = false →
 F29_j29 B R false w0)) ∧
((decide (s0 = (0 : Int))) = false →
(false = true →
 Ec B 37 #[.slice g0 i0 j0] (retE (fun b1 c1 => ∃ d1, b1 = .bool d1 ∧
 F29_j29 B R d1 c1)
(pk R)) w0) ∧
(false = false →
 F29_j29 B R false w0))) ∧
(x0 = false →
(false = true →
((decide ((q0 : Int) = (2 : Int))) = true →
 Ec B 37 #[.slice g0 i0 j0] (retE (fun e1 f1 => ∃ g1, e1 = .bool g1 ∧
 F29_j29 B R g1 f1)
(pk R)) w0) ∧
((decide ((q0 : Int) = (2 : Int))) = false →
 F29_j29 B R false w0)) ∧
(false = false →
(false = true →
 Ec B 37 #[.slice g0 i0 j0] (retE (fun i1 j1 => ∃ k1, i1 = .bool k1 ∧
 F29_j29 B R k1 j1)
(pk R)) w0) ∧
(false = false →
 F29_j29 B R false w0))))
(pk R)) u0) ∧
((decide (k0 = (0 : Int))) = false →
(false = true →
((decide (s0 = (0 : Int))) = true →
((decide ((q0 : Int) = (2 : Int))) = true →
 Ec B 37 #[.slice g0 i0 j0] (retE (fun l1 m1 => ∃ n1, l1 = .bool n1 ∧
 F29_j29 B R n1 m1)
(pk R)) o0) ∧
((decide ((q0 : Int) = (2 : Int))) = false →
 F29_j29 B R false o0)) ∧
((decide (s0 = (0 : Int))) = false →
(false = true →
 Ec B 37 #[.slice g0 i0 j0] (retE (fun o1 p1 => ∃ q1, o1 = .bool q1 ∧
 F29_j29 B R q1 p1)
(pk R)) o0) ∧
(false = false →
 F29_j29 B R false o0))) ∧
(false = false →
(false = true →
((decide ((q0 : Int) = (2 : Int))) = true →
 Ec B 37 #[.slice g0 i0 j0] (retE (fun r1 s1 => ∃ t1, r1 = .bool t1 ∧
 F29_j29 B R t1 s1)
(pk R)) o0) ∧
((decide ((q0 : Int) = (2 : Int))) = false →
 F29_j29 B R false o0)) ∧
(false = false →
(false = true →
 Ec B 37 #[.slice g0 i0 j0] (retE (fun u1 v1 => ∃ w1, u1 = .bool w1 ∧
 F29_j29 B R w1 v1)
(pk R)) o0) ∧
(false = false →
 F29_j29 B R false o0)))))
(pk R)) m0)
(pk R)) d0
def F29_L : Nat → List (Nat × TypeDesc) := fun _ => []
theorem F29_ok {B : World} {R : Ending → Heap → Prop} {h : Heap} (H : F29 B R h) : Ec B 29 #[] R h :=
 Ek Tryz.func29 (by kernel_rfl) (by kernel_rfl) (by kernel_rfl) F29_L [] (by kernel_rfl) H

end Go.Proofs
namespace Go.Proofs
open Go Go.Eng
/-- plumb/plumbref7.Valid -/
def F78_j55 (B : World) (R : Po) (a0 : Lp) (b0 : Nat) (c0 : OA) (d0 e0 : Nat) (f0 : Int) (g0 : Heap) : Prop :=
 ∃ i0, i0 < b0 ∧ a0 i0 [.slice c0 d0 e0, .int .i64 (IntKind.i64.wrap (f0 + (1 : Int)))] g0
def F78_j28 (B : World) (R : Po) (a0 : Lp) (b0 : Nat) (j0 : OA) (k0 l0 : Nat) (m0 : Int) (n0 : Bool) (o0 : Heap) : Prop :=
(n0 = true →
 R (.returned (.bool false)) o0) ∧
(n0 = false →
((decide ((0 : Int) < m0)) = true →
 ixW j0 k0 m0 1 fun p0 q0 =>
 iP p0 q0 fun r0 s0 => ∃ t0, cI o0 r0 s0 .i64 t0 ∧
 Ec B 145 #[.int .i64 t0] (retE (fun u0 v0 => ∃ w0 x0, u0 = .tuple #[.int .i64 w0, .int .i64 x0] ∧
 ixW j0 k0 (IntKind.i64.wrap (m0 - (1 : Int))) 1 fun y0 z0 =>
 iP y0 z0 fun a1 b1 => ∃ c1, cI v0 a1 b1 .i64 c1 ∧
 Ec B 145 #[.int .i64 c1] (retE (fun d1 e1 => ∃ f1 g1, d1 = .tuple #[.int .i64 f1, .int .i64 g1] ∧
((decide (w0 < g1)) = true →
 R (.returned (.bool false)) e1) ∧
((decide (w0 < g1)) = false →
 F78_j55 B R a0 b0 j0 k0 l0 m0 e1))
(pk R)) v0)
(pk R)) o0) ∧
((decide ((0 : Int) < m0)) = false →
 F78_j55 B R a0 b0 j0 k0 l0 m0 o0))
def F78 (B : World) (R : Po) (i1 : OA) (j1 k1 : Nat) (h : Heap) : Prop :=
((decide ((4096 : Int) < (j1 : Int))) = true →
 R (.returned (.bool false)) h) ∧
((decide ((4096 : Int) < (j1 : Int))) = false →
 ∃ a0 : Lp, ∃ l1, a0 l1 [.slice i1 j1 k1, .int .i64 (0 : Int)] h ∧
∀ (b0 : Nat) (m1 : Heap) (n1 : OA) (o1 p1 : Nat) (q1 : Int), a0 b0 [.slice n1 o1 p1, .int .i64 q1] m1 → ∀ _r : Nat → Value,
((decide (q1 < (o1 : Int))) = true →
 ixW n1 o1 q1 1 fun r1 s1 =>
 iP r1 s1 fun t1 u1 => ∃ v1, cI m1 t1 u1 .i64 v1 ∧
 Ec B 84 #[.int .i64 v1] (retE (fun w1 x1 => ∃ y1, w1 = .int .i64 y1 ∧
((!decide (y1 = (1 : Int))) = true →
 ixW n1 o1 q1 1 fun z1 a2 =>
 iP z1 a2 fun b2 c2 => ∃ d2, cI x1 b2 c2 .i64 d2 ∧
 Ec B 84 #[.int .i64 d2] (retE (fun e2 f2 => ∃ g2, e2 = .int .i64 g2 ∧
 F78_j28 B R a0 b0 n1 o1 p1 q1 (!decide (g2 = (2 : Int))) f2)
(pk R)) x1) ∧
((!decide (y1 = (1 : Int))) = false →
 F78_j28 B R a0 b0 n1 o1 p1 q1 false x1))
(pk R)) m1) ∧
((decide (q1 < (o1 : Int))) = false →
 R (.returned (.bool true)) m1))
def F78_L : Nat → List (Nat × TypeDesc) := fun i => match i with
  | 4 => [(0, .slice 0), (3, .int .i64)]
  | _ => []
theorem F78_ok {B : World} {R : Ending → Heap → Prop} (i1 : OA) (j1 k1 : Nat) {h : Heap} (H : F78 B R i1 j1 k1 h) : Ec B 78 #[.slice i1 j1 k1] R h :=
 Ek Tryz.func78 (by kernel_rfl) (by kernel_rfl) (by kernel_rfl) F78_L [] (by kernel_rfl) H

/-- plumb/plumbref7.ends -/
def F145_j51 (B : World) (R : Po) (a0 : Lp) (b0 : Nat) (c0 : Lp) (d0 : Nat) (e0 : OA) (f0 g0 i0 : Int) (j0 : Bool) (k0 : Heap) : Prop :=
(j0 = true →
(2 : Int) ≠ 0 ∧
∃ l0, l0 < d0 ∧ c0 l0 [.pointer e0, .int .i64 (IntKind.i64.wrap (f0 + (1 : Int))), .int .i64 g0, .int .i64 (IntKind.i64.wrap (Int.tdiv i0 (2 : Int)))] k0) ∧
(j0 = false →
 ∃ m0, m0 < b0 ∧ a0 m0 [.pointer e0, .int .i64 f0, .int .i64 (IntKind.i64.wrap (g0 - (1 : Int)))] k0)
def F145_j75 (B : World) (R : Po) (a0 : Lp) (b0 : Nat) (n0 o0 : Int) (p0 : Heap) : Prop :=
 R (.returned (.tuple #[.int .i64 n0, .int .i64 o0])) p0
def F145 (B : World) (R : Po) (q0 : Int) (h : Heap) : Prop :=
 Ec B 114 #[.int .i64 q0] (retE (fun r0 s0 => ∃ t0 u0 v0 w0 x0, r0 = .agg #[.bool t0, .slice u0 v0 w0, .int .i64 x0] ∧
 alW s0 (.cells #[.bool false, .slice none 0 0, .int .i64 0] 29) fun y0 z0 =>
 iP y0 0 fun a1 b1 => stC z0 a1 b1 (.bool t0) fun c1 =>
 stC c1 a1 (b1 + 1) (.slice u0 v0 w0) fun d1 =>
 stC d1 a1 (b1 + 1 + 1) (.int .i64 x0) fun e1 =>
 iP y0 0 fun f1 g1 =>
 isP (some ⟨f1, g1 + 1, none⟩) fun i1 j1 => ∃ k1 l1 m1, cS e1 i1 j1 k1 l1 m1 ∧
∃ a0 : Lp, ∃ n1, a0 n1 [.pointer (some ⟨y0, 0, none⟩), .int .i64 (0 : Int), .int .i64 (IntKind.i64.wrap ((l1 : Int) - (1 : Int)))] e1 ∧
∀ (b0 : Nat) (o1 : Heap) (p1 : OA) (q1 r1 : Int), a0 b0 [.pointer p1, .int .i64 q1, .int .i64 r1] o1 → ∀ _r : Nat → Value,
((decide ((0 : Int) ≤ r1)) = true →
 isP p1 fun s1 t1 =>
 isP (some ⟨s1, t1 + 1, none⟩) fun u1 v1 => ∃ w1 x1 y1, cS o1 u1 v1 w1 x1 y1 ∧
 ixW w1 x1 r1 1 fun z1 a2 =>
 iP z1 a2 fun b2 c2 => ∃ d2, cI o1 b2 c2 .i64 d2 ∧
∃ c0 : Lp, ∃ e2, c0 e2 [.pointer p1, .int .i64 q1, .int .i64 r1, .int .i64 d2] o1 ∧
∀ (d0 : Nat) (f2 : Heap) (g2 : OA) (i2 j2 k2 : Int), c0 d0 [.pointer g2, .int .i64 i2, .int .i64 j2, .int .i64 k2] f2 → ∀ _r : Nat → Value,
((decide ((0 : Int) < k2)) = true →
 isP g2 fun l2 m2 =>
 isP (some ⟨l2, m2 + 1, none⟩) fun n2 o2 => ∃ p2 q2 r2, cS f2 n2 o2 p2 q2 r2 ∧
 F145_j51 B R a0 b0 c0 d0 g2 i2 j2 k2 (decide (j2 = (IntKind.i64.wrap ((q2 : Int) - (1 : Int))))) f2) ∧
((decide ((0 : Int) < k2)) = false →
 F145_j51 B R a0 b0 c0 d0 g2 i2 j2 k2 false f2)) ∧
((decide ((0 : Int) ≤ r1)) = false →
 isP p1 fun s2 t2 =>
 isP (some ⟨s2, t2 + 2, none⟩) fun u2 v2 => ∃ w2, cI o1 u2 v2 .i64 w2 ∧
 isP p1 fun x2 y2 =>
 isP (some ⟨x2, y2 + 2, none⟩) fun z2 a3 => ∃ b3, cI o1 z2 a3 .i64 b3 ∧
 isP p1 fun c3 d3 =>
 isP (some ⟨c3, d3 + 1, none⟩) fun e3 f3 => ∃ g3 i3 j3, cS o1 e3 f3 g3 i3 j3 ∧
 F145_j75 B R a0 b0 w2 (IntKind.i64.wrap ((IntKind.i64.wrap (b3 + (IntKind.i64.wrap ((30 : Int) * (IntKind.i64.wrap ((i3 : Int) - (1 : Int))))))) + q1)) o1))
(pk R)) h
def F145_L : Nat → List (Nat × TypeDesc) := fun i => match i with
  | 4 => [(4, .pointer 0), (5, .int .i64), (6, .int .i64)]
  | 7 => [(4, .pointer 0), (5, .int .i64), (6, .int .i64), (7, .int .i64)]
  | _ => []
theorem F145_ok {B : World} {R : Ending → Heap → Prop} (q0 : Int) {h : Heap} (H : F145 B R q0 h) : Ec B 145 #[.int .i64 q0] R h :=
 Ek Tryz.func145 (by kernel_rfl) (by kernel_rfl) (by kernel_rfl) F145_L [] (by kernel_rfl) H

/-- (*plumb/plumbref7.row).answer -/
def F147 (B : World) (R : Po) (a0 : OA) (h : Heap) : Prop :=
 isP a0 fun b0 c0 =>
 iP b0 c0 fun d0 e0 =>
 isP (some ⟨d0, e0 + 1, none⟩) fun f0 g0 => ∃ i0, cell? h ⟨f0, g0, none⟩ = some (.bool i0) ∧
(i0 = true →
 R (.returned (.tuple #[.slice none 0 0, .int .i64 (14 : Int)])) h) ∧
(i0 = false →
 isP a0 fun j0 k0 =>
 iP j0 k0 fun l0 m0 =>
 iP l0 m0 fun n0 o0 => ∃ p0 q0 r0, cS h n0 o0 p0 q0 r0 ∧
((decide ((4096 : Int) < (q0 : Int))) = true →
 R (.returned (.tuple #[.slice none 0 0, .int .i64 (2 : Int)])) h) ∧
((decide ((4096 : Int) < (q0 : Int))) = false →
 isP a0 fun s0 t0 =>
 iP s0 t0 fun u0 v0 =>
 iP u0 v0 fun w0 x0 => ∃ y0 z0 a1, cS h w0 x0 y0 z0 a1 ∧
 R (.returned (.tuple #[.slice y0 z0 a1, .int .i64 (0 : Int)])) h))
def F147_L : Nat → List (Nat × TypeDesc) := fun _ => []
theorem F147_ok {B : World} {R : Ending → Heap → Prop} (a0 : OA) {h : Heap} (H : F147 B R a0 h) : Ec B 147 #[.pointer a0] R h :=
 Ek Tryz.func147 (by kernel_rfl) (by kernel_rfl) (by kernel_rfl) F147_L [] (by kernel_rfl) H

/-- (*plumb/plumbref7.row).add -/
def F154_j28 (B : World) (R : Po) (a0 : Heap) : Prop :=
 R (.returned (.tuple #[])) a0
def F154 (B : World) (R : Po) (b0 : OA) (c0 : Int) (h : Heap) : Prop :=
 Ec B 84 #[.int .i64 c0] (retE (fun d0 e0 => ∃ f0, d0 = .int .i64 f0 ∧
((!decide (f0 = (0 : Int))) = true →
 isP b0 fun g0 i0 =>
 iP g0 i0 fun j0 k0 =>
 iP j0 k0 fun l0 m0 => ∃ n0 o0 p0, cS e0 l0 m0 n0 o0 p0 ∧
 alW e0 (.cells #[.int .i64 c0] 3) fun q0 r0 =>
 apW r0 n0 o0 p0 (some ⟨q0, 0, none⟩) 1 1 8 3 #[.int .i64 0] fun s0 t0 u0 v0 =>
 isP b0 fun w0 x0 =>
 iP w0 x0 fun y0 z0 =>
 iP y0 z0 fun a1 b1 => stC v0 a1 b1 (.slice s0 t0 u0) fun c1 =>
 F154_j28 B R c1) ∧
((!decide (f0 = (0 : Int))) = false →
 F154_j28 B R e0))
(pk R)) h
def F154_L : Nat → List (Nat × TypeDesc) := fun _ => []
theorem F154_ok {B : World} {R : Ending → Heap → Prop} (b0 : OA) (c0 : Int) {h : Heap} (H : F154 B R b0 c0 h) : Ec B 154 #[.pointer b0, .int .i64 c0] R h :=
 Ek Tryz.func154 (by kernel_rfl) (by kernel_rfl) (by kernel_rfl) F154_L [] (by kernel_rfl) H

end Go.Proofs
namespace Go.Proofs
open Go Go.Eng
/-- plumb/plumblaw2.Lent -/
def F77 (B : World) (R : Po) (a0 : OA) (b0 c0 : Nat) (h : Heap) : Prop :=
 apW h none 0 0 a0 b0 1 8 3 #[.int .i64 0] fun d0 e0 f0 g0 =>
 alW g0 (.cells #[.int .i64 (-71 : Int), .int .i64 (-72 : Int), .int .i64 (-73 : Int)] 3) fun i0 j0 =>
 apW j0 d0 e0 f0 (some ⟨i0, 0, none⟩) 3 1 8 3 #[.int .i64 0] fun k0 l0 m0 n0 =>
 R (.returned (.slice k0 l0 m0)) n0
def F77_L : Nat → List (Nat × TypeDesc) := fun _ => []
theorem F77_ok {B : World} {R : Ending → Heap → Prop} (a0 : OA) (b0 c0 : Nat) {h : Heap} (H : F77 B R a0 b0 c0 h) : Ec B 77 #[.slice a0 b0 c0] R h :=
 Ek Tryz.func77 (by kernel_rfl) (by kernel_rfl) (by kernel_rfl) F77_L [] (by kernel_rfl) H

/-- plumb/plumblaw2.Back -/
def F81_j26 (B : World) (R : Po) (a0 : OA) (b0 c0 : Nat) (d0 : Bool) (e0 : Heap) : Prop :=
 ∃ f0 : Lp, ∃ g0, f0 g0 [.slice a0 b0 c0, .bool d0, .int .i64 (0 : Int)] e0 ∧
∀ (i0 : Nat) (j0 : Heap) (k0 : OA) (l0 m0 : Nat) (n0 : Bool) (o0 : Int), f0 i0 [.slice k0 l0 m0, .bool n0, .int .i64 o0] j0 → ∀ _r : Nat → Value,
((decide (o0 < (l0 : Int))) = true →
 ixW k0 l0 o0 1 fun p0 q0 =>
 iP p0 q0 fun r0 s0 => stC j0 r0 s0 (.int .i64 (-9 : Int)) fun t0 =>
∃ u0, u0 < i0 ∧ f0 u0 [.slice k0 l0 m0, .bool n0, .int .i64 (IntKind.i64.wrap (o0 + (1 : Int)))] t0) ∧
((decide (o0 < (l0 : Int))) = false →
 R (.returned (.bool n0)) j0)
def F81 (B : World) (R : Po) (v0 : OA) (w0 x0 : Nat) (y0 : OA) (z0 a1 : Nat) (h : Heap) : Prop :=
((decide ((w0 : Int) = (IntKind.i64.wrap ((z0 : Int) + (3 : Int))))) = true →
 slW w0 x0 none (some (.int .i64 (z0 : Int))) none fun b1 c1 d1 =>
 Ec B 76 #[.slice (slP v0 b1 d1 1) (c1 - b1) (d1 - b1), .slice y0 z0 a1] (retE (fun e1 f1 => ∃ g1, e1 = .bool g1 ∧
(g1 = true →
 ixW v0 w0 (z0 : Int) 1 fun i1 j1 =>
 iP i1 j1 fun k1 l1 => ∃ m1, cI f1 k1 l1 .i64 m1 ∧
((decide (m1 = (-71 : Int))) = true →
 ixW v0 w0 (IntKind.i64.wrap ((z0 : Int) + (1 : Int))) 1 fun n1 o1 =>
 iP n1 o1 fun p1 q1 => ∃ r1, cI f1 p1 q1 .i64 r1 ∧
((decide (r1 = (-72 : Int))) = true →
 ixW v0 w0 (IntKind.i64.wrap ((z0 : Int) + (2 : Int))) 1 fun s1 t1 =>
 iP s1 t1 fun u1 v1 => ∃ w1, cI f1 u1 v1 .i64 w1 ∧
 F81_j26 B R v0 w0 x0 (decide (w1 = (-73 : Int))) f1) ∧
((decide (r1 = (-72 : Int))) = false →
 F81_j26 B R v0 w0 x0 false f1)) ∧
((decide (m1 = (-71 : Int))) = false →
(false = true →
 ixW v0 w0 (IntKind.i64.wrap ((z0 : Int) + (2 : Int))) 1 fun x1 y1 =>
 iP x1 y1 fun z1 a2 => ∃ b2, cI f1 z1 a2 .i64 b2 ∧
 F81_j26 B R v0 w0 x0 (decide (b2 = (-73 : Int))) f1) ∧
(false = false →
 F81_j26 B R v0 w0 x0 false f1))) ∧
(g1 = false →
(false = true →
 ixW v0 w0 (IntKind.i64.wrap ((z0 : Int) + (1 : Int))) 1 fun c2 d2 =>
 iP c2 d2 fun e2 f2 => ∃ g2, cI f1 e2 f2 .i64 g2 ∧
((decide (g2 = (-72 : Int))) = true →
 ixW v0 w0 (IntKind.i64.wrap ((z0 : Int) + (2 : Int))) 1 fun i2 j2 =>
 iP i2 j2 fun k2 l2 => ∃ m2, cI f1 k2 l2 .i64 m2 ∧
 F81_j26 B R v0 w0 x0 (decide (m2 = (-73 : Int))) f1) ∧
((decide (g2 = (-72 : Int))) = false →
 F81_j26 B R v0 w0 x0 false f1)) ∧
(false = false →
(false = true →
 ixW v0 w0 (IntKind.i64.wrap ((z0 : Int) + (2 : Int))) 1 fun n2 o2 =>
 iP n2 o2 fun p2 q2 => ∃ r2, cI f1 p2 q2 .i64 r2 ∧
 F81_j26 B R v0 w0 x0 (decide (r2 = (-73 : Int))) f1) ∧
(false = false →
 F81_j26 B R v0 w0 x0 false f1))))
(pk R)) h) ∧
((decide ((w0 : Int) = (IntKind.i64.wrap ((z0 : Int) + (3 : Int))))) = false →
(false = true →
 ixW v0 w0 (z0 : Int) 1 fun s2 t2 =>
 iP s2 t2 fun u2 v2 => ∃ w2, cI h u2 v2 .i64 w2 ∧
((decide (w2 = (-71 : Int))) = true →
 ixW v0 w0 (IntKind.i64.wrap ((z0 : Int) + (1 : Int))) 1 fun x2 y2 =>
 iP x2 y2 fun z2 a3 => ∃ b3, cI h z2 a3 .i64 b3 ∧
((decide (b3 = (-72 : Int))) = true →
 ixW v0 w0 (IntKind.i64.wrap ((z0 : Int) + (2 : Int))) 1 fun c3 d3 =>
 iP c3 d3 fun e3 f3 => ∃ g3, cI h e3 f3 .i64 g3 ∧
 F81_j26 B R v0 w0 x0 (decide (g3 = (-73 : Int))) h) ∧
((decide (b3 = (-72 : Int))) = false →
 F81_j26 B R v0 w0 x0 false h)) ∧
((decide (w2 = (-71 : Int))) = false →
(false = true →
 ixW v0 w0 (IntKind.i64.wrap ((z0 : Int) + (2 : Int))) 1 fun i3 j3 =>
 iP i3 j3 fun k3 l3 => ∃ m3, cI h k3 l3 .i64 m3 ∧
 F81_j26 B R v0 w0 x0 (decide (m3 = (-73 : Int))) h) ∧
(false = false →
 F81_j26 B R v0 w0 x0 false h))) ∧
(false = false →
(false = true →
 ixW v0 w0 (IntKind.i64.wrap ((z0 : Int) + (1 : Int))) 1 fun n3 o3 =>
 iP n3 o3 fun p3 q3 => ∃ r3, cI h p3 q3 .i64 r3 ∧
((decide (r3 = (-72 : Int))) = true →
 ixW v0 w0 (IntKind.i64.wrap ((z0 : Int) + (2 : Int))) 1 fun s3 t3 =>
 iP s3 t3 fun u3 v3 => ∃ w3, cI h u3 v3 .i64 w3 ∧
 F81_j26 B R v0 w0 x0 (decide (w3 = (-73 : Int))) h) ∧
((decide (r3 = (-72 : Int))) = false →
 F81_j26 B R v0 w0 x0 false h)) ∧
(false = false →
(false = true →
 ixW v0 w0 (IntKind.i64.wrap ((z0 : Int) + (2 : Int))) 1 fun x3 y3 =>
 iP x3 y3 fun z3 a4 => ∃ b4, cI h z3 a4 .i64 b4 ∧
 F81_j26 B R v0 w0 x0 (decide (b4 = (-73 : Int))) h) ∧
(false = false →
 F81_j26 B R v0 w0 x0 false h))))
def F81_L : Nat → List (Nat × TypeDesc) := fun i => match i with
  | 4 => [(0, .slice 0), (6, .bool), (7, .int .i64)]
  | _ => []
theorem F81_ok {B : World} {R : Ending → Heap → Prop} (v0 : OA) (w0 x0 : Nat) (y0 : OA) (z0 a1 : Nat) {h : Heap} (H : F81 B R v0 w0 x0 y0 z0 a1 h) : Ec B 81 #[.slice v0 w0 x0, .slice y0 z0 a1] R h :=
 Ek Tryz.func81 (by kernel_rfl) (by kernel_rfl) (by kernel_rfl) F81_L [] (by kernel_rfl) H

/-- (*plumb/plumblaw2.Keep).Add -/
def F106_j59 (B : World) (R : Po) (a0 : OA) (b0 c0 : Nat) (d0 : OA) (e0 f0 : Nat) (g0 : Heap) : Prop :=
 Ec B 76 #[.slice a0 b0 c0, .slice d0 e0 f0] (retE (fun i0 j0 => ∃ k0, i0 = .bool k0 ∧
 R (.returned (.bool k0)) j0)
(pk R)) g0
def F106_j55 (B : World) (R : Po) (l0 : OA) (m0 n0 : Nat) (o0 : OA) (p0 q0 : Nat) (r0 : Heap) : Prop :=
 F106_j59 B R l0 m0 n0 o0 p0 q0 r0
def F106 (B : World) (R : Po) (s0 t0 : OA) (u0 v0 : Nat) (w0 : OA) (x0 y0 : Nat) (h : Heap) : Prop :=
 isP s0 fun z0 a1 =>
 iP z0 a1 fun b1 c1 =>
 iP b1 c1 fun d1 e1 => ∃ f1 g1 i1, cS h d1 e1 f1 g1 i1 ∧
((decide ((g1 : Int) < (400 : Int))) = true →
 isP s0 fun j1 k1 =>
 iP j1 k1 fun l1 m1 =>
 iP l1 m1 fun n1 o1 => ∃ p1 q1 r1, cS h n1 o1 p1 q1 r1 ∧
 alW h (.cells #[.slice t0 u0 v0] 27) fun s1 t1 =>
 apW t1 p1 q1 r1 (some ⟨s1, 0, none⟩) 1 1 24 27 #[.slice none 0 0] fun u1 v1 w1 x1 =>
 isP s0 fun y1 z1 =>
 iP y1 z1 fun a2 b2 =>
 iP a2 b2 fun c2 d2 => stC x1 c2 d2 (.slice u1 v1 w1) fun e2 =>
 isP s0 fun f2 g2 =>
 iP f2 g2 fun i2 j2 =>
 isP (some ⟨i2, j2 + 1, none⟩) fun k2 l2 => ∃ m2 n2 o2, cS e2 k2 l2 m2 n2 o2 ∧
 apW e2 none 0 0 w0 x0 1 8 3 #[.int .i64 0] fun p2 q2 r2 s2 =>
 sameCells e2 s2 k2 l2 1 ∧ alW s2 (.cells #[.slice p2 q2 r2] 27) fun t2 u2 =>
 sameCells s2 u2 k2 l2 1 ∧ apW u2 m2 n2 o2 (some ⟨t2, 0, none⟩) 1 1 24 27 #[.slice none 0 0] fun v2 w2 x2 y2 =>
 isP s0 fun z2 a3 =>
 iP z2 a3 fun b3 c3 =>
 isP (some ⟨b3, c3 + 1, none⟩) fun d3 e3 => stC y2 d3 e3 (.slice v2 w2 x2) fun f3 =>
 F106_j55 B R t0 u0 v0 w0 x0 y0 f3) ∧
((decide ((g1 : Int) < (400 : Int))) = false →
 F106_j59 B R t0 u0 v0 w0 x0 y0 h)
def F106_L : Nat → List (Nat × TypeDesc) := fun _ => []
theorem F106_ok {B : World} {R : Ending → Heap → Prop} (s0 t0 : OA) (u0 v0 : Nat) (w0 : OA) (x0 y0 : Nat) {h : Heap} (H : F106 B R s0 t0 u0 v0 w0 x0 y0 h) : Ec B 106 #[.pointer s0, .slice t0 u0 v0, .slice w0 x0 y0] R h :=
 Ek Tryz.func106 (by kernel_rfl) (by kernel_rfl) (by kernel_rfl) F106_L [] (by kernel_rfl) H
end Go.Proofs
namespace Go.Proofs
open Go Go.Eng
/-- (*plumb/plumblaw2.Keep).Apart -/
def F31_j44 (B : World) (R : Po) (a0 : Lp) (b0 : Nat) (c0 : OA) (d0 : Int) (e0 : Bool) (f0 : Heap) : Prop :=
(e0 = true →
 R (.returned (.bool false)) f0) ∧
(e0 = false →
 ∃ g0, g0 < b0 ∧ a0 g0 [.pointer c0, .int .i64 (IntKind.i64.wrap (d0 + (1 : Int)))] f0)
def F31_j130 (B : World) (R : Po) (a0 : Lp) (b0 : Nat) (i0 : Lp) (j0 : Nat) (k0 : Lp) (l0 : Nat) (m0 : Lp) (n0 : Nat) (o0 : OA) (p0 q0 r0 : Int) (s0 : Bool) (t0 : Heap) : Prop :=
(s0 = true →
 R (.returned (.bool false)) t0) ∧
(s0 = false →
 ∃ u0, u0 < n0 ∧ m0 u0 [.pointer o0, .int .i64 p0, .int .i64 q0, .int .i64 (IntKind.i64.wrap (r0 + (1 : Int)))] t0)
def F31_j107 (B : World) (R : Po) (a0 : Lp) (b0 : Nat) (i0 : Lp) (j0 : Nat) (k0 : Lp) (l0 : Nat) (m0 : Lp) (n0 : Nat) (v0 : OA) (w0 x0 y0 : Int) (z0 : Heap) : Prop :=
((decide (w0 = (2 : Int))) = true →
 isP v0 fun a1 b1 =>
 iP a1 b1 fun c1 d1 =>
 iP c1 d1 fun e1 f1 => ∃ g1 i1 j1, cS z0 e1 f1 g1 i1 j1 ∧
 ixW g1 i1 x0 1 fun k1 l1 =>
 iP k1 l1 fun m1 n1 => ∃ o1 p1 q1, cS z0 m1 n1 o1 p1 q1 ∧
 ixW o1 p1 y0 1 fun r1 s1 =>
 iP r1 s1 fun t1 u1 => ∃ v1, cI z0 t1 u1 .i64 v1 ∧
 F31_j130 B R a0 b0 i0 j0 k0 l0 m0 n0 v0 w0 x0 y0 (!decide (v1 = (IntKind.i64.wrap ((-2 : Int) - x0)))) z0) ∧
((decide (w0 = (2 : Int))) = false →
 F31_j130 B R a0 b0 i0 j0 k0 l0 m0 n0 v0 w0 x0 y0 false z0)
def F31_j146 (B : World) (R : Po) (a0 : Lp) (b0 : Nat) (i0 : Lp) (j0 : Nat) (k0 : Lp) (l0 : Nat) (m0 : Lp) (n0 : Nat) (w1 : Lp) (x1 : Nat) (y1 : OA) (z1 a2 b2 : Int) (c2 : Bool) (d2 : Heap) : Prop :=
(c2 = true →
 isP y1 fun e2 f2 =>
 iP e2 f2 fun g2 i2 =>
 iP g2 i2 fun j2 k2 => ∃ l2 m2 n2, cS d2 j2 k2 l2 m2 n2 ∧
 ixW l2 m2 a2 1 fun o2 p2 =>
 iP o2 p2 fun q2 r2 => ∃ s2 t2 u2, cS d2 q2 r2 s2 t2 u2 ∧
(17 : Int) ≠ 0 ∧
 azW d2 s2 t2 u2 (IntKind.i64.wrap (b2 + (IntKind.i64.wrap ((IntKind.i64.wrap (Int.tdiv b2 (17 : Int))) * (80 : Int))))) 1 8 3 #[.int .i64 0] fun v2 w2 x2 y2 =>
 ixW v2 w2 (IntKind.i64.wrap ((w2 : Int) - (1 : Int))) 1 fun z2 a3 =>
 iP z2 a3 fun b3 c3 => stC y2 b3 c3 (.int .i64 (7 : Int)) fun d3 =>
∃ e3, e3 < x1 ∧ w1 e3 [.pointer y1, .int .i64 z1, .int .i64 a2, .int .i64 (IntKind.i64.wrap (b2 + (1 : Int)))] d3) ∧
(c2 = false →
 ∃ f3, f3 < l0 ∧ k0 f3 [.pointer y1, .int .i64 z1, .int .i64 (IntKind.i64.wrap (a2 + (1 : Int)))] d2)
def F31 (B : World) (R : Po) (g3 : OA) (h : Heap) : Prop :=
 ∃ a0 : Lp, ∃ i3, a0 i3 [.pointer g3, .int .i64 (0 : Int)] h ∧
∀ (b0 : Nat) (j3 : Heap) (k3 : OA) (l3 : Int), a0 b0 [.pointer k3, .int .i64 l3] j3 → ∀ _r : Nat → Value,
 isP k3 fun m3 n3 =>
 iP m3 n3 fun o3 p3 =>
 iP o3 p3 fun q3 r3 => ∃ s3 t3 u3, cS j3 q3 r3 s3 t3 u3 ∧
((decide (l3 < (t3 : Int))) = true →
 isP k3 fun v3 w3 =>
 iP v3 w3 fun x3 y3 =>
 iP x3 y3 fun z3 a4 => ∃ b4 c4 d4, cS j3 z3 a4 b4 c4 d4 ∧
 ixW b4 c4 l3 1 fun e4 f4 =>
 iP e4 f4 fun g4 i4 => ∃ j4 k4 l4, cS j3 g4 i4 j4 k4 l4 ∧
 isP k3 fun m4 n4 =>
 iP m4 n4 fun o4 p4 =>
 isP (some ⟨o4, p4 + 1, none⟩) fun q4 r4 => ∃ s4 t4 u4, cS j3 q4 r4 s4 t4 u4 ∧
 ixW s4 t4 l3 1 fun v4 w4 =>
 iP v4 w4 fun x4 y4 => ∃ z4 a5 b5, cS j3 x4 y4 z4 a5 b5 ∧
 Ec B 76 #[.slice j4 k4 l4, .slice z4 a5 b5] (retE (fun c5 d5 => ∃ e5, c5 = .bool e5 ∧
 F31_j44 B R a0 b0 k3 l3 (!e5) d5)
(fun _ _ => False)) j3) ∧
((decide (l3 < (t3 : Int))) = false →
 ∃ i0 : Lp, ∃ f5, i0 f5 [.pointer k3, .int .i64 (0 : Int)] j3 ∧
∀ (j0 : Nat) (g5 : Heap) (i5 : OA) (j5 : Int), i0 j0 [.pointer i5, .int .i64 j5] g5 → ∀ _r : Nat → Value,
((decide (j5 < (3 : Int))) = true →
 ∃ k0 : Lp, ∃ k5, k0 k5 [.pointer i5, .int .i64 j5, .int .i64 (0 : Int)] g5 ∧
∀ (l0 : Nat) (l5 : Heap) (m5 : OA) (n5 o5 : Int), k0 l0 [.pointer m5, .int .i64 n5, .int .i64 o5] l5 → ∀ _r : Nat → Value,
 isP m5 fun p5 q5 =>
 iP p5 q5 fun r5 s5 =>
 iP r5 s5 fun t5 u5 => ∃ v5 w5 x5, cS l5 t5 u5 v5 w5 x5 ∧
((decide (o5 < (w5 : Int))) = true →
 ∃ m0 : Lp, ∃ y5, m0 y5 [.pointer m5, .int .i64 n5, .int .i64 o5, .int .i64 (0 : Int)] l5 ∧
∀ (n0 : Nat) (z5 : Heap) (a6 : OA) (b6 c6 d6 : Int), m0 n0 [.pointer a6, .int .i64 b6, .int .i64 c6, .int .i64 d6] z5 → ∀ _r : Nat → Value,
 isP a6 fun e6 f6 =>
 iP e6 f6 fun g6 i6 =>
 iP g6 i6 fun j6 k6 => ∃ l6 m6 n6, cS z5 j6 k6 l6 m6 n6 ∧
 ixW l6 m6 c6 1 fun o6 p6 =>
 iP o6 p6 fun q6 r6 => ∃ s6 t6 u6, cS z5 q6 r6 s6 t6 u6 ∧
((decide (d6 < (t6 : Int))) = true →
((decide (b6 = (0 : Int))) = true →
 isP a6 fun v6 w6 =>
 iP v6 w6 fun x6 y6 =>
 iP x6 y6 fun z6 a7 => ∃ b7 c7 d7, cS z5 z6 a7 b7 c7 d7 ∧
 ixW b7 c7 c6 1 fun e7 f7 =>
 iP e7 f7 fun g7 i7 => ∃ j7 k7 l7, cS z5 g7 i7 j7 k7 l7 ∧
 ixW j7 k7 d6 1 fun m7 n7 =>
 iP m7 n7 fun o7 p7 => stC z5 o7 p7 (.int .i64 (IntKind.i64.wrap ((-2 : Int) - c6))) fun q7 =>
 F31_j107 B R a0 b0 i0 j0 k0 l0 m0 n0 a6 b6 c6 d6 q7) ∧
((decide (b6 = (0 : Int))) = false →
 F31_j107 B R a0 b0 i0 j0 k0 l0 m0 n0 a6 b6 c6 d6 z5)) ∧
((decide (d6 < (t6 : Int))) = false →
 ∃ w1 : Lp, ∃ r7, w1 r7 [.pointer a6, .int .i64 b6, .int .i64 c6, .int .i64 (1 : Int)] z5 ∧
∀ (x1 : Nat) (s7 : Heap) (t7 : OA) (u7 v7 w7 : Int), w1 x1 [.pointer t7, .int .i64 u7, .int .i64 v7, .int .i64 w7] s7 → ∀ _r : Nat → Value,
((decide (w7 ≤ (17 : Int))) = true →
 F31_j146 B R a0 b0 i0 j0 k0 l0 m0 n0 w1 x1 t7 u7 v7 w7 (decide (u7 = (1 : Int))) s7) ∧
((decide (w7 ≤ (17 : Int))) = false →
 F31_j146 B R a0 b0 i0 j0 k0 l0 m0 n0 w1 x1 t7 u7 v7 w7 false s7))) ∧
((decide (o5 < (w5 : Int))) = false →
 ∃ x7, x7 < j0 ∧ i0 x7 [.pointer m5, .int .i64 (IntKind.i64.wrap (n5 + (1 : Int)))] l5)) ∧
((decide (j5 < (3 : Int))) = false →
 R (.returned (.bool true)) g5))
def F31_L : Nat → List (Nat × TypeDesc) := fun i => match i with
  | 2 => [(0, .pointer 0), (3, .int .i64)]
  | 7 => [(0, .pointer 0), (4, .int .i64)]
  | 10 => [(0, .pointer 0), (4, .int .i64), (5, .int .i64)]
  | 13 => [(0, .pointer 0), (4, .int .i64), (5, .int .i64), (6, .int .i64)]
  | 20 => [(0, .pointer 0), (4, .int .i64), (5, .int .i64), (7, .int .i64)]
  | _ => []
theorem F31_ok {B : World} {R : Ending → Heap → Prop} (g3 : OA) {h : Heap} (H : F31 B R g3 h) : Ec B 31 #[.pointer g3] R h :=
 Ek Tryz.func31 (by kernel_rfl) (by kernel_rfl) (by kernel_rfl) F31_L [] (by kernel_rfl) H
end Go.Proofs
