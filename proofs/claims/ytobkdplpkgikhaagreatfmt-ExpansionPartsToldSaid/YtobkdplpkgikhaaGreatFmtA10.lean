import Derived.Test.YtobkdplpkgikhaaGreatFmtA09
/- Here stand lemmas and contracts, in the order in which they are used. -/
set_option linter.unusedVariables false
namespace Go.Proofs
open Go Go.Eng
/-- math/big.addVV_g -/
def F138_j37 (B : World) (R : Po) (a0 : Lp) (b0 : Nat) (c0 : OA) (d0 e0 : Nat) (f0 : OA) (g0 i0 : Nat) (j0 : OA) (k0 l0 : Nat) (m0 n0 o0 p0 q0 : Int) (r0 : Heap) : Prop :=
 ixW c0 d0 m0 1 fun s0 t0 =>
 iP s0 t0 fun u0 v0 => stC r0 u0 v0 (.int .u64 n0) fun w0 =>
∃ x0, x0 < b0 ∧ a0 x0 [.slice c0 d0 e0, .slice f0 g0 i0, .slice j0 k0 l0, .int .u64 o0, .int .i64 p0, .int .i64 (IntKind.i64.wrap (q0 + (1 : Int)))] w0
def F138_j4 (B : World) (R : Po) (y0 : OA) (z0 a1 : Nat) (b1 : OA) (c1 d1 : Nat) (e1 : OA) (f1 g1 : Nat) (i1 : Int) (j1 : Bool) (k1 : Heap) : Prop :=
(j1 = true →
 R (.panicked [{ v := .iface 9 (.string ⟨#[97, 100, 100, 86, 86, 32, 108, 101, 110]⟩), recovered := false }]) k1) ∧
(j1 = false →
 ∃ a0 : Lp, ∃ l1, a0 l1 [.slice y0 z0 a1, .slice b1 c1 d1, .slice e1 f1 g1, .int .u64 i1, .int .i64 (z0 : Int), .int .i64 (0 : Int)] k1 ∧
∀ (b0 : Nat) (m1 : Heap) (n1 : OA) (o1 p1 : Nat) (q1 : OA) (r1 s1 : Nat) (t1 : OA) (u1 v1 : Nat) (w1 x1 y1 : Int), a0 b0 [.slice n1 o1 p1, .slice q1 r1 s1, .slice t1 u1 v1, .int .u64 w1, .int .i64 x1, .int .i64 y1] m1 → ∀ _r : Nat → Value,
((decide (y1 < x1)) = true →
 ixW q1 r1 y1 1 fun z1 a2 =>
 iP z1 a2 fun b2 c2 => ∃ d2, cI m1 b2 c2 .u64 d2 ∧
 ixW t1 u1 y1 1 fun e2 f2 =>
 iP e2 f2 fun g2 i2 => ∃ j2, cI m1 g2 i2 .u64 j2 ∧
 Ec B 169 #[.int .u64 d2, .int .u64 j2, .int .u64 w1] (retE (fun k2 l2 => ∃ m2 n2, k2 = .tuple #[.int .u64 m2, .int .u64 n2] ∧
 F138_j37 B R a0 b0 n1 o1 p1 q1 r1 s1 t1 u1 v1 y1 m2 n2 x1 y1 l2)
(fun _ _ => False)) m1) ∧
((decide (y1 < x1)) = false →
 R (.returned (.int .u64 w1)) m1))
def F138 (B : World) (R : Po) (o2 : OA) (p2 q2 : Nat) (r2 : OA) (s2 t2 : Nat) (u2 : OA) (v2 w2 : Nat) (h : Heap) : Prop :=
((!decide ((s2 : Int) = (p2 : Int))) = true →
 F138_j4 B R o2 p2 q2 r2 s2 t2 u2 v2 w2 (0 : Int) true h) ∧
((!decide ((s2 : Int) = (p2 : Int))) = false →
 F138_j4 B R o2 p2 q2 r2 s2 t2 u2 v2 w2 (0 : Int) (!decide ((v2 : Int) = (p2 : Int))) h)
def F138_L : Nat → List (Nat × TypeDesc) := fun i => match i with
  | 4 => [(0, .slice 0), (1, .slice 0), (2, .slice 0), (6, .int .u64), (24, .int .i64), (25, .int .i64)]
  | _ => []
theorem F138_ok {B : World} {R : Ending → Heap → Prop} (o2 : OA) (p2 q2 : Nat) (r2 : OA) (s2 t2 : Nat) (u2 : OA) (v2 w2 : Nat) {h : Heap} (H : F138 B R o2 p2 q2 r2 s2 t2 u2 v2 w2 h) : Ec B 92 #[.slice o2 p2 q2, .slice r2 s2 t2, .slice u2 v2 w2] R h :=
 Ek Tryz.func92 (by kernel_rfl) (by kernel_rfl) (by kernel_rfl) F138_L [] (by kernel_rfl) H

/-- math/big.subVV_g -/
def F139_j37 (B : World) (R : Po) (a0 : Lp) (b0 : Nat) (c0 : OA) (d0 e0 : Nat) (f0 : OA) (g0 i0 : Nat) (j0 : OA) (k0 l0 : Nat) (m0 n0 o0 p0 q0 : Int) (r0 : Heap) : Prop :=
 ixW c0 d0 m0 1 fun s0 t0 =>
 iP s0 t0 fun u0 v0 => stC r0 u0 v0 (.int .u64 n0) fun w0 =>
∃ x0, x0 < b0 ∧ a0 x0 [.slice c0 d0 e0, .slice f0 g0 i0, .slice j0 k0 l0, .int .u64 o0, .int .i64 p0, .int .i64 (IntKind.i64.wrap (q0 + (1 : Int)))] w0
def F139_j4 (B : World) (R : Po) (y0 : OA) (z0 a1 : Nat) (b1 : OA) (c1 d1 : Nat) (e1 : OA) (f1 g1 : Nat) (i1 : Int) (j1 : Bool) (k1 : Heap) : Prop :=
(j1 = true →
 R (.panicked [{ v := .iface 9 (.string ⟨#[115, 117, 98, 86, 86, 32, 108, 101, 110]⟩), recovered := false }]) k1) ∧
(j1 = false →
 ∃ a0 : Lp, ∃ l1, a0 l1 [.slice y0 z0 a1, .slice b1 c1 d1, .slice e1 f1 g1, .int .u64 i1, .int .i64 (z0 : Int), .int .i64 (0 : Int)] k1 ∧
∀ (b0 : Nat) (m1 : Heap) (n1 : OA) (o1 p1 : Nat) (q1 : OA) (r1 s1 : Nat) (t1 : OA) (u1 v1 : Nat) (w1 x1 y1 : Int), a0 b0 [.slice n1 o1 p1, .slice q1 r1 s1, .slice t1 u1 v1, .int .u64 w1, .int .i64 x1, .int .i64 y1] m1 → ∀ _r : Nat → Value,
((decide (y1 < x1)) = true →
 ixW q1 r1 y1 1 fun z1 a2 =>
 iP z1 a2 fun b2 c2 => ∃ d2, cI m1 b2 c2 .u64 d2 ∧
 ixW t1 u1 y1 1 fun e2 f2 =>
 iP e2 f2 fun g2 i2 => ∃ j2, cI m1 g2 i2 .u64 j2 ∧
 Ec B 163 #[.int .u64 d2, .int .u64 j2, .int .u64 w1] (retE (fun k2 l2 => ∃ m2 n2, k2 = .tuple #[.int .u64 m2, .int .u64 n2] ∧
 F139_j37 B R a0 b0 n1 o1 p1 q1 r1 s1 t1 u1 v1 y1 m2 n2 x1 y1 l2)
(fun _ _ => False)) m1) ∧
((decide (y1 < x1)) = false →
 R (.returned (.int .u64 w1)) m1))
def F139 (B : World) (R : Po) (o2 : OA) (p2 q2 : Nat) (r2 : OA) (s2 t2 : Nat) (u2 : OA) (v2 w2 : Nat) (h : Heap) : Prop :=
((!decide ((s2 : Int) = (p2 : Int))) = true →
 F139_j4 B R o2 p2 q2 r2 s2 t2 u2 v2 w2 (0 : Int) true h) ∧
((!decide ((s2 : Int) = (p2 : Int))) = false →
 F139_j4 B R o2 p2 q2 r2 s2 t2 u2 v2 w2 (0 : Int) (!decide ((v2 : Int) = (p2 : Int))) h)
def F139_L : Nat → List (Nat × TypeDesc) := fun i => match i with
  | 4 => [(0, .slice 0), (1, .slice 0), (2, .slice 0), (6, .int .u64), (24, .int .i64), (25, .int .i64)]
  | _ => []
theorem F139_ok {B : World} {R : Ending → Heap → Prop} (o2 : OA) (p2 q2 : Nat) (r2 : OA) (s2 t2 : Nat) (u2 : OA) (v2 w2 : Nat) {h : Heap} (H : F139 B R o2 p2 q2 r2 s2 t2 u2 v2 w2 h) : Ec B 93 #[.slice o2 p2 q2, .slice r2 s2 t2, .slice u2 v2 w2] R h :=
 Ek Tryz.func93 (by kernel_rfl) (by kernel_rfl) (by kernel_rfl) F139_L [] (by kernel_rfl) H

/-- math/big.lshVU_g -/
def F140_j36 (B : World) (R : Po) (a0 : Lp) (b0 : Nat) (c0 : OA) (d0 e0 : Nat) (f0 : OA) (g0 i0 : Nat) (j0 k0 l0 m0 : Int) (n0 : Heap) : Prop :=
 ∃ o0, o0 < b0 ∧ a0 o0 [.slice c0 d0 e0, .slice f0 g0 i0, .int .u64 j0, .int .u64 k0, .int .u64 l0, .int .i64 (IntKind.i64.wrap (m0 - (1 : Int)))] n0
def F140 (B : World) (R : Po) (p0 : OA) (q0 r0 : Nat) (s0 : OA) (t0 u0 : Nat) (v0 : Int) (h : Heap) : Prop :=
((!decide ((t0 : Int) = (q0 : Int))) = true →
 R (.panicked [{ v := .iface 9 (.string ⟨#[108, 115, 104, 86, 85, 32, 108, 101, 110]⟩), recovered := false }]) h) ∧
((!decide ((t0 : Int) = (q0 : Int))) = false →
((decide (v0 = (0 : Int))) = true →
 cpW h p0 q0 s0 t0 1 fun w0 x0 =>
 R (.returned (.int .u64 (0 : Int))) x0) ∧
((decide (v0 = (0 : Int))) = false →
((decide ((q0 : Int) = (0 : Int))) = true →
 R (.returned (.int .u64 (0 : Int))) h) ∧
((decide ((q0 : Int) = (0 : Int))) = false →
 ixW s0 t0 (IntKind.i64.wrap ((q0 : Int) - (1 : Int))) 1 fun y0 z0 =>
 iP y0 z0 fun a1 b1 => ∃ c1, cI h a1 b1 .u64 c1 ∧
0 ≤ (bitsI .and .u64 (IntKind.u64.wrap ((64 : Int) - (bitsI .and .u64 v0 (63 : Int)))) (63 : Int)) ∧
∃ a0 : Lp, ∃ d1, a0 d1 [.slice p0 q0 r0, .slice s0 t0 u0, .int .u64 (bitsI .and .u64 v0 (63 : Int)), .int .u64 (Int.fdiv c1 (2 ^ min (Int.toNat (bitsI .and .u64 (IntKind.u64.wrap ((64 : Int) - (bitsI .and .u64 v0 (63 : Int)))) (63 : Int))) IntKind.u64.bits)), .int .u64 (bitsI .and .u64 (IntKind.u64.wrap ((64 : Int) - (bitsI .and .u64 v0 (63 : Int)))) (63 : Int)), .int .i64 (IntKind.i64.wrap ((q0 : Int) - (1 : Int)))] h ∧
∀ (b0 : Nat) (e1 : Heap) (f1 : OA) (g1 i1 : Nat) (j1 : OA) (k1 l1 : Nat) (m1 n1 o1 p1 : Int), a0 b0 [.slice f1 g1 i1, .slice j1 k1 l1, .int .u64 m1, .int .u64 n1, .int .u64 o1, .int .i64 p1] e1 → ∀ _r : Nat → Value,
((decide ((0 : Int) < p1)) = true →
 ixW j1 k1 p1 1 fun q1 r1 =>
 iP q1 r1 fun s1 t1 => ∃ u1, cI e1 s1 t1 .u64 u1 ∧
0 ≤ m1 ∧
 ixW j1 k1 (IntKind.i64.wrap (p1 - (1 : Int))) 1 fun v1 w1 =>
 iP v1 w1 fun x1 y1 => ∃ z1, cI e1 x1 y1 .u64 z1 ∧
0 ≤ o1 ∧
 ixW f1 g1 p1 1 fun a2 b2 =>
 iP a2 b2 fun c2 d2 => stC e1 c2 d2 (.int .u64 (bitsI .or .u64 (IntKind.u64.wrap (u1 * 2 ^ min (Int.toNat m1) IntKind.u64.bits)) (Int.fdiv z1 (2 ^ min (Int.toNat o1) IntKind.u64.bits)))) fun e2 =>
 F140_j36 B R a0 b0 f1 g1 i1 j1 k1 l1 m1 n1 o1 p1 e2) ∧
((decide ((0 : Int) < p1)) = false →
 ixW j1 k1 (0 : Int) 1 fun f2 g2 =>
 iP f2 g2 fun i2 j2 => ∃ k2, cI e1 i2 j2 .u64 k2 ∧
0 ≤ m1 ∧
 ixW f1 g1 (0 : Int) 1 fun l2 m2 =>
 iP l2 m2 fun n2 o2 => stC e1 n2 o2 (.int .u64 (IntKind.u64.wrap (k2 * 2 ^ min (Int.toNat m1) IntKind.u64.bits))) fun p2 =>
 R (.returned (.int .u64 n1)) p2))))
def F140_L : Nat → List (Nat × TypeDesc) := fun i => match i with
  | 11 => [(0, .slice 0), (1, .slice 0), (2, .int .u64), (6, .int .u64), (7, .int .u64), (8, .int .i64)]
  | _ => []
theorem F140_ok {B : World} {R : Ending → Heap → Prop} (p0 : OA) (q0 r0 : Nat) (s0 : OA) (t0 u0 : Nat) (v0 : Int) {h : Heap} (H : F140 B R p0 q0 r0 s0 t0 u0 v0 h) : Ec B 94 #[.slice p0 q0 r0, .slice s0 t0 u0, .int .u64 v0] R h :=
 Ek Tryz.func94 (by kernel_rfl) (by kernel_rfl) (by kernel_rfl) F140_L [] (by kernel_rfl) H

/-- math/big.rshVU_g -/
def F141_j36 (B : World) (R : Po) (a0 : Lp) (b0 : Nat) (c0 : OA) (d0 e0 : Nat) (f0 : OA) (g0 i0 : Nat) (j0 k0 l0 m0 : Int) (n0 : Heap) : Prop :=
 ∃ o0, o0 < b0 ∧ a0 o0 [.slice c0 d0 e0, .slice f0 g0 i0, .int .u64 j0, .int .u64 k0, .int .u64 l0, .int .i64 (IntKind.i64.wrap (m0 + (1 : Int)))] n0
def F141 (B : World) (R : Po) (p0 : OA) (q0 r0 : Nat) (s0 : OA) (t0 u0 : Nat) (v0 : Int) (h : Heap) : Prop :=
((!decide ((t0 : Int) = (q0 : Int))) = true →
 R (.panicked [{ v := .iface 9 (.string ⟨#[114, 115, 104, 86, 85, 32, 108, 101, 110]⟩), recovered := false }]) h) ∧
((!decide ((t0 : Int) = (q0 : Int))) = false →
((decide (v0 = (0 : Int))) = true →
 cpW h p0 q0 s0 t0 1 fun w0 x0 =>
 R (.returned (.int .u64 (0 : Int))) x0) ∧
((decide (v0 = (0 : Int))) = false →
((decide ((q0 : Int) = (0 : Int))) = true →
 R (.returned (.int .u64 (0 : Int))) h) ∧
((decide ((q0 : Int) = (0 : Int))) = false →
 ixW s0 t0 (0 : Int) 1 fun y0 z0 =>
 iP y0 z0 fun a1 b1 => ∃ c1, cI h a1 b1 .u64 c1 ∧
0 ≤ (bitsI .and .u64 (IntKind.u64.wrap ((64 : Int) - (bitsI .and .u64 v0 (63 : Int)))) (63 : Int)) ∧
∃ a0 : Lp, ∃ d1, a0 d1 [.slice p0 q0 r0, .slice s0 t0 u0, .int .u64 (bitsI .and .u64 v0 (63 : Int)), .int .u64 (IntKind.u64.wrap (c1 * 2 ^ min (Int.toNat (bitsI .and .u64 (IntKind.u64.wrap ((64 : Int) - (bitsI .and .u64 v0 (63 : Int)))) (63 : Int))) IntKind.u64.bits)), .int .u64 (bitsI .and .u64 (IntKind.u64.wrap ((64 : Int) - (bitsI .and .u64 v0 (63 : Int)))) (63 : Int)), .int .i64 (1 : Int)] h ∧
∀ (b0 : Nat) (e1 : Heap) (f1 : OA) (g1 i1 : Nat) (j1 : OA) (k1 l1 : Nat) (m1 n1 o1 p1 : Int), a0 b0 [.slice f1 g1 i1, .slice j1 k1 l1, .int .u64 m1, .int .u64 n1, .int .u64 o1, .int .i64 p1] e1 → ∀ _r : Nat → Value,
((decide (p1 < (g1 : Int))) = true →
 ixW j1 k1 (IntKind.i64.wrap (p1 - (1 : Int))) 1 fun q1 r1 =>
 iP q1 r1 fun s1 t1 => ∃ u1, cI e1 s1 t1 .u64 u1 ∧
0 ≤ m1 ∧
 ixW j1 k1 p1 1 fun v1 w1 =>
 iP v1 w1 fun x1 y1 => ∃ z1, cI e1 x1 y1 .u64 z1 ∧
0 ≤ o1 ∧
 ixW f1 g1 (IntKind.i64.wrap (p1 - (1 : Int))) 1 fun a2 b2 =>
 iP a2 b2 fun c2 d2 => stC e1 c2 d2 (.int .u64 (bitsI .or .u64 (Int.fdiv u1 (2 ^ min (Int.toNat m1) IntKind.u64.bits)) (IntKind.u64.wrap (z1 * 2 ^ min (Int.toNat o1) IntKind.u64.bits)))) fun e2 =>
 F141_j36 B R a0 b0 f1 g1 i1 j1 k1 l1 m1 n1 o1 p1 e2) ∧
((decide (p1 < (g1 : Int))) = false →
 ixW j1 k1 (IntKind.i64.wrap ((g1 : Int) - (1 : Int))) 1 fun f2 g2 =>
 iP f2 g2 fun i2 j2 => ∃ k2, cI e1 i2 j2 .u64 k2 ∧
0 ≤ m1 ∧
 ixW f1 g1 (IntKind.i64.wrap ((g1 : Int) - (1 : Int))) 1 fun l2 m2 =>
 iP l2 m2 fun n2 o2 => stC e1 n2 o2 (.int .u64 (Int.fdiv k2 (2 ^ min (Int.toNat m1) IntKind.u64.bits))) fun p2 =>
 R (.returned (.int .u64 n1)) p2))))
def F141_L : Nat → List (Nat × TypeDesc) := fun i => match i with
  | 11 => [(0, .slice 0), (1, .slice 0), (2, .int .u64), (6, .int .u64), (7, .int .u64), (8, .int .i64)]
  | _ => []
theorem F141_ok {B : World} {R : Ending → Heap → Prop} (p0 : OA) (q0 r0 : Nat) (s0 : OA) (t0 u0 : Nat) (v0 : Int) {h : Heap} (H : F141 B R p0 q0 r0 s0 t0 u0 v0 h) : Ec B 95 #[.slice p0 q0 r0, .slice s0 t0 u0, .int .u64 v0] R h :=
 Ek Tryz.func95 (by kernel_rfl) (by kernel_rfl) (by kernel_rfl) F141_L [] (by kernel_rfl) H

/-- math/big.mulAddVWW_g -/
def F142 (B : World) (R : Po) (a0 : OA) (b0 c0 : Nat) (d0 : OA) (e0 f0 : Nat) (g0 i0 : Int) (h : Heap) : Prop :=
((!decide ((e0 : Int) = (b0 : Int))) = true →
 R (.panicked [{ v := .iface 9 (.string ⟨#[109, 117, 108, 65, 100, 100, 86, 87, 87, 32, 108, 101, 110]⟩), recovered := false }]) h) ∧
((!decide ((e0 : Int) = (b0 : Int))) = false →
 ∃ j0 : Lp, ∃ k0, j0 k0 [.slice a0 b0 c0, .slice d0 e0 f0, .int .u64 g0, .int .u64 i0, .int .i64 (b0 : Int), .int .i64 (0 : Int)] h ∧
∀ (l0 : Nat) (m0 : Heap) (n0 : OA) (o0 p0 : Nat) (q0 : OA) (r0 s0 : Nat) (t0 u0 v0 w0 : Int), j0 l0 [.slice n0 o0 p0, .slice q0 r0 s0, .int .u64 t0, .int .u64 u0, .int .i64 v0, .int .i64 w0] m0 → ∀ _r : Nat → Value,
((decide (w0 < v0)) = true →
 ixW q0 r0 w0 1 fun x0 y0 =>
 iP x0 y0 fun z0 a1 => ∃ b1, cI m0 z0 a1 .u64 b1 ∧
 Ec B 212 #[.int .u64 b1, .int .u64 t0, .int .u64 u0] (retE (fun c1 d1 => ∃ e1 f1, c1 = .tuple #[.int .u64 e1, .int .u64 f1] ∧
 ixW n0 o0 w0 1 fun g1 i1 =>
 iP g1 i1 fun j1 k1 => stC d1 j1 k1 (.int .u64 f1) fun l1 =>
∃ m1, m1 < l0 ∧ j0 m1 [.slice n0 o0 p0, .slice q0 r0 s0, .int .u64 t0, .int .u64 e1, .int .i64 v0, .int .i64 (IntKind.i64.wrap (w0 + (1 : Int)))] l1)
(pk R)) m0) ∧
((decide (w0 < v0)) = false →
 R (.returned (.int .u64 u0)) m0))
def F142_L : Nat → List (Nat × TypeDesc) := fun i => match i with
  | 5 => [(0, .slice 0), (1, .slice 0), (2, .int .u64), (8, .int .u64), (18, .int .i64), (19, .int .i64)]
  | _ => []
theorem F142_ok {B : World} {R : Ending → Heap → Prop} (a0 : OA) (b0 c0 : Nat) (d0 : OA) (e0 f0 : Nat) (g0 i0 : Int) {h : Heap} (H : F142 B R a0 b0 c0 d0 e0 f0 g0 i0 h) : Ec B 96 #[.slice a0 b0 c0, .slice d0 e0 f0, .int .u64 g0, .int .u64 i0] R h :=
 Ek Tryz.func96 (by kernel_rfl) (by kernel_rfl) (by kernel_rfl) F142_L [] (by kernel_rfl) H

/-- math/big.addVW -/
def F203_j40 (B : World) (R : Po) (a0 : Heap) : Prop :=
 R (.returned (.int .u64 (0 : Int))) a0
def F203_j38 (B : World) (R : Po) (b0 : Heap) : Prop :=
 F203_j40 B R b0
def F203_j25 (B : World) (R : Po) (c0 : OA) (d0 e0 : Nat) (f0 : OA) (g0 i0 : Nat) (j0 : Bool) (k0 : Heap) : Prop :=
(j0 = true →
 slW d0 e0 (some (.int .i64 (1 : Int))) none none fun l0 m0 n0 =>
 slW g0 i0 (some (.int .i64 (1 : Int))) none none fun o0 p0 q0 =>
 cpW k0 (slP c0 l0 n0 1) (m0 - l0) (slP f0 o0 q0 1) (p0 - o0) 1 fun r0 s0 =>
 F203_j38 B R s0) ∧
(j0 = false →
 F203_j40 B R k0)
def F203_j80 (B : World) (R : Po) (t0 : Lp) (u0 : Nat) (v0 : Heap) : Prop :=
 R (.returned (.int .u64 (0 : Int))) v0
def F203_j78 (B : World) (R : Po) (t0 : Lp) (u0 : Nat) (w0 : Heap) : Prop :=
 F203_j80 B R t0 u0 w0
def F203_j64 (B : World) (R : Po) (t0 : Lp) (u0 : Nat) (x0 : OA) (y0 z0 : Nat) (a1 : OA) (b1 c1 : Nat) (d1 : Int) (e1 : Bool) (f1 : Heap) : Prop :=
(e1 = true →
 slW y0 z0 (some (.int .i64 (IntKind.i64.wrap (d1 + (1 : Int))))) none none fun g1 i1 j1 =>
 slW b1 c1 (some (.int .i64 (IntKind.i64.wrap (d1 + (1 : Int))))) none none fun k1 l1 m1 =>
 cpW f1 (slP x0 g1 j1 1) (i1 - g1) (slP a1 k1 m1 1) (l1 - k1) 1 fun n1 o1 =>
 F203_j78 B R t0 u0 o1) ∧
(e1 = false →
 F203_j80 B R t0 u0 f1)
def F203 (B : World) (R : Po) (p1 : OA) (q1 r1 : Nat) (s1 : OA) (t1 u1 : Nat) (v1 : Int) (h : Heap) : Prop :=
((!decide ((t1 : Int) = (q1 : Int))) = true →
 R (.panicked [{ v := .iface 9 (.string ⟨#[97, 100, 100, 86, 87, 32, 108, 101, 110]⟩), recovered := false }]) h) ∧
((!decide ((t1 : Int) = (q1 : Int))) = false →
((decide ((q1 : Int) = (0 : Int))) = true →
 R (.returned (.int .u64 v1)) h) ∧
((decide ((q1 : Int) = (0 : Int))) = false →
 ixW s1 t1 (0 : Int) 1 fun w1 x1 =>
 iP w1 x1 fun y1 z1 => ∃ a2, cI h y1 z1 .u64 a2 ∧
 Ec B 169 #[.int .u64 a2, .int .u64 v1, .int .u64 (0 : Int)] (retE (fun b2 c2 => ∃ d2 e2, b2 = .tuple #[.int .u64 d2, .int .u64 e2] ∧
 ixW p1 q1 (0 : Int) 1 fun f2 g2 =>
 iP f2 g2 fun i2 j2 => stC c2 i2 j2 (.int .u64 d2) fun k2 =>
((decide (e2 = (0 : Int))) = true →
 ixW p1 q1 (0 : Int) 1 fun l2 m2 =>
 ixW s1 t1 (0 : Int) 1 fun n2 o2 =>
 pEq k2 (some ⟨l2, m2, none⟩) (some ⟨n2, o2, none⟩) fun p2 =>
 F203_j25 B R p1 q1 r1 s1 t1 u1 (!p2) k2) ∧
((decide (e2 = (0 : Int))) = false →
 ∃ t0 : Lp, ∃ q2, t0 q2 [.slice p1 q1 r1, .slice s1 t1 u1, .int .i64 (1 : Int)] k2 ∧
∀ (u0 : Nat) (r2 : Heap) (s2 : OA) (t2 u2 : Nat) (v2 : OA) (w2 x2 : Nat) (y2 : Int), t0 u0 [.slice s2 t2 u2, .slice v2 w2 x2, .int .i64 y2] r2 → ∀ _r : Nat → Value,
((decide (y2 < (t2 : Int))) = true →
 ixW v2 w2 y2 1 fun z2 a3 =>
 iP z2 a3 fun b3 c3 => ∃ d3, cI r2 b3 c3 .u64 d3 ∧
((!decide (d3 = (18446744073709551615 : Int))) = true →
 ixW s2 t2 y2 1 fun e3 f3 =>
 iP e3 f3 fun g3 i3 => stC r2 g3 i3 (.int .u64 (IntKind.u64.wrap (d3 + (1 : Int)))) fun j3 =>
 ixW s2 t2 (0 : Int) 1 fun k3 l3 =>
 ixW v2 w2 (0 : Int) 1 fun m3 n3 =>
 pEq j3 (some ⟨k3, l3, none⟩) (some ⟨m3, n3, none⟩) fun o3 =>
 F203_j64 B R t0 u0 s2 t2 u2 v2 w2 x2 y2 (!o3) j3) ∧
((!decide (d3 = (18446744073709551615 : Int))) = false →
 ixW s2 t2 y2 1 fun p3 q3 =>
 iP p3 q3 fun r3 s3 => stC r2 r3 s3 (.int .u64 (0 : Int)) fun t3 =>
∃ u3, u3 < u0 ∧ t0 u3 [.slice s2 t2 u2, .slice v2 w2 x2, .int .i64 (IntKind.i64.wrap (y2 + (1 : Int)))] t3)) ∧
((decide (y2 < (t2 : Int))) = false →
 R (.returned (.int .u64 (1 : Int))) r2)))
(pk R)) h))
def F203_L : Nat → List (Nat × TypeDesc) := fun i => match i with
  | 12 => [(0, .slice 0), (1, .slice 0), (9, .int .i64)]
  | _ => []
theorem F203_ok {B : World} {R : Ending → Heap → Prop} (p1 : OA) (q1 r1 : Nat) (s1 : OA) (t1 u1 : Nat) (v1 : Int) {h : Heap} (H : F203 B R p1 q1 r1 s1 t1 u1 v1 h) : Ec B 168 #[.slice p1 q1 r1, .slice s1 t1 u1, .int .u64 v1] R h :=
 Ek Tryz.func168 (by kernel_rfl) (by kernel_rfl) (by kernel_rfl) F203_L [] (by kernel_rfl) H

/-- math/big.subVW -/
def F196_j40 (B : World) (R : Po) (a0 : Heap) : Prop :=
 R (.returned (.int .u64 (0 : Int))) a0
def F196_j38 (B : World) (R : Po) (b0 : Heap) : Prop :=
 F196_j40 B R b0
def F196_j25 (B : World) (R : Po) (c0 : OA) (d0 e0 : Nat) (f0 : OA) (g0 i0 : Nat) (j0 : Bool) (k0 : Heap) : Prop :=
(j0 = true →
 slW d0 e0 (some (.int .i64 (1 : Int))) none none fun l0 m0 n0 =>
 slW g0 i0 (some (.int .i64 (1 : Int))) none none fun o0 p0 q0 =>
 cpW k0 (slP c0 l0 n0 1) (m0 - l0) (slP f0 o0 q0 1) (p0 - o0) 1 fun r0 s0 =>
 F196_j38 B R s0) ∧
(j0 = false →
 F196_j40 B R k0)
def F196_j80 (B : World) (R : Po) (t0 : Lp) (u0 : Nat) (v0 : Heap) : Prop :=
 R (.returned (.int .u64 (0 : Int))) v0
def F196_j78 (B : World) (R : Po) (t0 : Lp) (u0 : Nat) (w0 : Heap) : Prop :=
 F196_j80 B R t0 u0 w0
def F196_j64 (B : World) (R : Po) (t0 : Lp) (u0 : Nat) (x0 : OA) (y0 z0 : Nat) (a1 : OA) (b1 c1 : Nat) (d1 : Int) (e1 : Bool) (f1 : Heap) : Prop :=
(e1 = true →
 slW y0 z0 (some (.int .i64 (IntKind.i64.wrap (d1 + (1 : Int))))) none none fun g1 i1 j1 =>
 slW b1 c1 (some (.int .i64 (IntKind.i64.wrap (d1 + (1 : Int))))) none none fun k1 l1 m1 =>
 cpW f1 (slP x0 g1 j1 1) (i1 - g1) (slP a1 k1 m1 1) (l1 - k1) 1 fun n1 o1 =>
 F196_j78 B R t0 u0 o1) ∧
(e1 = false →
 F196_j80 B R t0 u0 f1)
def F196 (B : World) (R : Po) (p1 : OA) (q1 r1 : Nat) (s1 : OA) (t1 u1 : Nat) (v1 : Int) (h : Heap) : Prop :=
((!decide ((t1 : Int) = (q1 : Int))) = true →
 R (.panicked [{ v := .iface 9 (.string ⟨#[115, 117, 98, 86, 87, 32, 108, 101, 110]⟩), recovered := false }]) h) ∧
((!decide ((t1 : Int) = (q1 : Int))) = false →
((decide ((q1 : Int) = (0 : Int))) = true →
 R (.returned (.int .u64 v1)) h) ∧
((decide ((q1 : Int) = (0 : Int))) = false →
 ixW s1 t1 (0 : Int) 1 fun w1 x1 =>
 iP w1 x1 fun y1 z1 => ∃ a2, cI h y1 z1 .u64 a2 ∧
 Ec B 163 #[.int .u64 a2, .int .u64 v1, .int .u64 (0 : Int)] (retE (fun b2 c2 => ∃ d2 e2, b2 = .tuple #[.int .u64 d2, .int .u64 e2] ∧
 ixW p1 q1 (0 : Int) 1 fun f2 g2 =>
 iP f2 g2 fun i2 j2 => stC c2 i2 j2 (.int .u64 d2) fun k2 =>
((decide (e2 = (0 : Int))) = true →
 ixW p1 q1 (0 : Int) 1 fun l2 m2 =>
 ixW s1 t1 (0 : Int) 1 fun n2 o2 =>
 pEq k2 (some ⟨l2, m2, none⟩) (some ⟨n2, o2, none⟩) fun p2 =>
 F196_j25 B R p1 q1 r1 s1 t1 u1 (!p2) k2) ∧
((decide (e2 = (0 : Int))) = false →
 ∃ t0 : Lp, ∃ q2, t0 q2 [.slice p1 q1 r1, .slice s1 t1 u1, .int .i64 (1 : Int)] k2 ∧
∀ (u0 : Nat) (r2 : Heap) (s2 : OA) (t2 u2 : Nat) (v2 : OA) (w2 x2 : Nat) (y2 : Int), t0 u0 [.slice s2 t2 u2, .slice v2 w2 x2, .int .i64 y2] r2 → ∀ _r : Nat → Value,
((decide (y2 < (t2 : Int))) = true →
 ixW v2 w2 y2 1 fun z2 a3 =>
 iP z2 a3 fun b3 c3 => ∃ d3, cI r2 b3 c3 .u64 d3 ∧
((!decide (d3 = (0 : Int))) = true →
 ixW s2 t2 y2 1 fun e3 f3 =>
 iP e3 f3 fun g3 i3 => stC r2 g3 i3 (.int .u64 (IntKind.u64.wrap (d3 - (1 : Int)))) fun j3 =>
 ixW s2 t2 (0 : Int) 1 fun k3 l3 =>
 ixW v2 w2 (0 : Int) 1 fun m3 n3 =>
 pEq j3 (some ⟨k3, l3, none⟩) (some ⟨m3, n3, none⟩) fun o3 =>
 F196_j64 B R t0 u0 s2 t2 u2 v2 w2 x2 y2 (!o3) j3) ∧
((!decide (d3 = (0 : Int))) = false →
 ixW s2 t2 y2 1 fun p3 q3 =>
 iP p3 q3 fun r3 s3 => stC r2 r3 s3 (.int .u64 (18446744073709551615 : Int)) fun t3 =>
∃ u3, u3 < u0 ∧ t0 u3 [.slice s2 t2 u2, .slice v2 w2 x2, .int .i64 (IntKind.i64.wrap (y2 + (1 : Int)))] t3)) ∧
((decide (y2 < (t2 : Int))) = false →
 R (.returned (.int .u64 (1 : Int))) r2)))
(pk R)) h))
def F196_L : Nat → List (Nat × TypeDesc) := fun i => match i with
  | 12 => [(0, .slice 0), (1, .slice 0), (9, .int .i64)]
  | _ => []
theorem F196_ok {B : World} {R : Ending → Heap → Prop} (p1 : OA) (q1 r1 : Nat) (s1 : OA) (t1 u1 : Nat) (v1 : Int) {h : Heap} (H : F196 B R p1 q1 r1 s1 t1 u1 v1 h) : Ec B 161 #[.slice p1 q1 r1, .slice s1 t1 u1, .int .u64 v1] R h :=
 Ek Tryz.func161 (by kernel_rfl) (by kernel_rfl) (by kernel_rfl) F196_L [] (by kernel_rfl) H

/-- (math/big.nat).norm -/
def F197_j13 (B : World) (R : Po) (a0 : Lp) (b0 : Nat) (c0 : OA) (d0 e0 : Nat) (f0 : Int) (g0 : Bool) (i0 : Heap) : Prop :=
(g0 = true →
 ∃ j0, j0 < b0 ∧ a0 j0 [.slice c0 d0 e0, .int .i64 (IntKind.i64.wrap (f0 - (1 : Int)))] i0) ∧
(g0 = false →
 slW d0 e0 (some (.int .i64 (0 : Int))) (some (.int .i64 f0)) none fun k0 l0 m0 =>
 R (.returned (.slice (slP c0 k0 m0 1) (l0 - k0) (m0 - k0))) i0)
def F197 (B : World) (R : Po) (n0 : OA) (o0 p0 : Nat) (h : Heap) : Prop :=
 ∃ a0 : Lp, ∃ q0, a0 q0 [.slice n0 o0 p0, .int .i64 (o0 : Int)] h ∧
∀ (b0 : Nat) (r0 : Heap) (s0 : OA) (t0 u0 : Nat) (v0 : Int), a0 b0 [.slice s0 t0 u0, .int .i64 v0] r0 → ∀ _r : Nat → Value,
((decide ((0 : Int) < v0)) = true →
 ixW s0 t0 (IntKind.i64.wrap (v0 - (1 : Int))) 1 fun w0 x0 =>
 iP w0 x0 fun y0 z0 => ∃ a1, cI r0 y0 z0 .u64 a1 ∧
 F197_j13 B R a0 b0 s0 t0 u0 v0 (decide (a1 = (0 : Int))) r0) ∧
((decide ((0 : Int) < v0)) = false →
 F197_j13 B R a0 b0 s0 t0 u0 v0 false r0)
def F197_L : Nat → List (Nat × TypeDesc) := fun i => match i with
  | 2 => [(0, .slice 0), (3, .int .i64)]
  | _ => []
theorem F197_ok {B : World} {R : Ending → Heap → Prop} (n0 : OA) (o0 p0 : Nat) {h : Heap} (H : F197 B R n0 o0 p0 h) : Ec B 162 #[.slice n0 o0 p0] R h :=
 Ek Tryz.func162 (by kernel_rfl) (by kernel_rfl) (by kernel_rfl) F197_L [] (by kernel_rfl) H

/-- (math/big.nat).make -/
def F194 (B : World) (R : Po) (a0 : OA) (b0 c0 : Nat) (d0 : Int) (h : Heap) : Prop :=
((decide (d0 ≤ (c0 : Int))) = true →
 slW b0 c0 none (some (.int .i64 d0)) none fun e0 f0 g0 =>
 R (.returned (.slice (slP a0 e0 g0 1) (f0 - e0) (g0 - e0))) h) ∧
((decide (d0 ≤ (c0 : Int))) = false →
((decide (d0 = (1 : Int))) = true →
 0 ≤ (1 : Int) ∧ (1 : Int) ≤ (1 : Int) ∧ 8 * (1 : Int) ≤ 281474976710656 ∧ (1 : Int) < 9223372036854775808 ∧
 alW h (.cells (mkCells #[.int .u64 0] (Int.toNat (1 : Int) * 1)) 171) fun i0 j0 =>
 R (.returned (.slice (some ⟨i0, 0, none⟩) (Int.toNat (1 : Int)) (Int.toNat (1 : Int)))) j0) ∧
((decide (d0 = (1 : Int))) = false →
 0 ≤ d0 ∧ d0 ≤ (IntKind.i64.wrap (d0 + (4 : Int))) ∧ 8 * (IntKind.i64.wrap (d0 + (4 : Int))) ≤ 281474976710656 ∧ (IntKind.i64.wrap (d0 + (4 : Int))) < 9223372036854775808 ∧
 alW h (.cells (mkCells #[.int .u64 0] (Int.toNat (IntKind.i64.wrap (d0 + (4 : Int))) * 1)) 171) fun k0 l0 =>
 R (.returned (.slice (some ⟨k0, 0, none⟩) (Int.toNat d0) (Int.toNat (IntKind.i64.wrap (d0 + (4 : Int)))))) l0))
def F194_L : Nat → List (Nat × TypeDesc) := fun _ => []
theorem F194_ok {B : World} {R : Ending → Heap → Prop} (a0 : OA) (b0 c0 : Nat) (d0 : Int) {h : Heap} (H : F194 B R a0 b0 c0 d0 h) : Ec B 152 #[.slice a0 b0 c0, .int .i64 d0] R h :=
 Ek Tryz.func152 (by kernel_rfl) (by kernel_rfl) (by kernel_rfl) F194_L [] (by kernel_rfl) H

/-- (math/big.nat).set -/
def F182 (B : World) (R : Po) (a0 : OA) (b0 c0 : Nat) (d0 : OA) (e0 f0 : Nat) (h : Heap) : Prop :=
 Ec B 152 #[.slice a0 b0 c0, .int .i64 (e0 : Int)] (retE (fun g0 i0 => ∃ j0 k0 l0, g0 = .slice j0 k0 l0 ∧
 cpW i0 j0 k0 d0 e0 1 fun m0 n0 =>
 R (.returned (.slice j0 k0 l0)) n0)
(pk R)) h
def F182_L : Nat → List (Nat × TypeDesc) := fun _ => []
theorem F182_ok {B : World} {R : Ending → Heap → Prop} (a0 : OA) (b0 c0 : Nat) (d0 : OA) (e0 f0 : Nat) {h : Heap} (H : F182 B R a0 b0 c0 d0 e0 f0 h) : Ec B 121 #[.slice a0 b0 c0, .slice d0 e0 f0] R h :=
 Ek Tryz.func121 (by kernel_rfl) (by kernel_rfl) (by kernel_rfl) F182_L [] (by kernel_rfl) H

/-- math/bits.Sub -/
def F198 (B : World) (R : Po) (a0 b0 c0 : Int) (h : Heap) : Prop :=
(false = true →
 Ec B 180 #[.int .u32 (IntKind.u32.wrap a0), .int .u32 (IntKind.u32.wrap b0), .int .u32 (IntKind.u32.wrap c0)] (retE (fun d0 e0 => ∃ f0 g0, d0 = .tuple #[.int .u32 f0, .int .u32 g0] ∧
 R (.returned (.tuple #[.int .u64 (IntKind.u64.wrap f0), .int .u64 (IntKind.u64.wrap g0)])) e0)
(pk R)) h) ∧
(false = false →
 Ec B 181 #[.int .u64 a0, .int .u64 b0, .int .u64 c0] (retE (fun i0 j0 => ∃ k0 l0, i0 = .tuple #[.int .u64 k0, .int .u64 l0] ∧
 R (.returned (.tuple #[.int .u64 k0, .int .u64 l0])) j0)
(pk R)) h)
def F198_L : Nat → List (Nat × TypeDesc) := fun _ => []
theorem F198_ok {B : World} {R : Ending → Heap → Prop} (a0 b0 c0 : Int) {h : Heap} (H : F198 B R a0 b0 c0 h) : Ec B 163 #[.int .u64 a0, .int .u64 b0, .int .u64 c0] R h :=
 Ek Tryz.func163 (by kernel_rfl) (by kernel_rfl) (by kernel_rfl) F198_L [] (by kernel_rfl) H

/-- math/bits.Add -/
def F204 (B : World) (R : Po) (a0 b0 c0 : Int) (h : Heap) : Prop :=
(false = true →
 Ec B 182 #[.int .u32 (IntKind.u32.wrap a0), .int .u32 (IntKind.u32.wrap b0), .int .u32 (IntKind.u32.wrap c0)] (retE (fun d0 e0 => ∃ f0 g0, d0 = .tuple #[.int .u32 f0, .int .u32 g0] ∧
 R (.returned (.tuple #[.int .u64 (IntKind.u64.wrap f0), .int .u64 (IntKind.u64.wrap g0)])) e0)
(pk R)) h) ∧
(false = false →
 Ec B 183 #[.int .u64 a0, .int .u64 b0, .int .u64 c0] (retE (fun i0 j0 => ∃ k0 l0, i0 = .tuple #[.int .u64 k0, .int .u64 l0] ∧
 R (.returned (.tuple #[.int .u64 k0, .int .u64 l0])) j0)
(pk R)) h)
def F204_L : Nat → List (Nat × TypeDesc) := fun _ => []
theorem F204_ok {B : World} {R : Ending → Heap → Prop} (a0 b0 c0 : Int) {h : Heap} (H : F204 B R a0 b0 c0 h) : Ec B 169 #[.int .u64 a0, .int .u64 b0, .int .u64 c0] R h :=
 Ek Tryz.func169 (by kernel_rfl) (by kernel_rfl) (by kernel_rfl) F204_L [] (by kernel_rfl) H

/-- (math/big.nat).trailingZeroBits -/
def F163 (B : World) (R : Po) (a0 : OA) (b0 c0 : Nat) (h : Heap) : Prop :=
((decide ((b0 : Int) = (0 : Int))) = true →
 R (.returned (.int .u64 (0 : Int))) h) ∧
((decide ((b0 : Int) = (0 : Int))) = false →
 ∃ d0 : Lp, ∃ e0, d0 e0 [.slice a0 b0 c0, .int .u64 (0 : Int)] h ∧
∀ (f0 : Nat) (g0 : Heap) (i0 : OA) (j0 k0 : Nat) (l0 : Int), d0 f0 [.slice i0 j0 k0, .int .u64 l0] g0 → ∀ _r : Nat → Value,
 ixW i0 j0 l0 1 fun m0 n0 =>
 iP m0 n0 fun o0 p0 => ∃ q0, cI g0 o0 p0 .u64 q0 ∧
((decide (q0 = (0 : Int))) = true →
 ∃ r0, r0 < f0 ∧ d0 r0 [.slice i0 j0 k0, .int .u64 (IntKind.u64.wrap (l0 + (1 : Int)))] g0) ∧
((decide (q0 = (0 : Int))) = false →
 ixW i0 j0 l0 1 fun s0 t0 =>
 iP s0 t0 fun u0 v0 => ∃ w0, cI g0 u0 v0 .u64 w0 ∧
 Ec B 159 #[.int .u64 w0] (retE (fun x0 y0 => ∃ z0, x0 = .int .i64 z0 ∧
 R (.returned (.int .u64 (IntKind.u64.wrap ((IntKind.u64.wrap (l0 * (64 : Int))) + (IntKind.u64.wrap z0))))) y0)
(pk R)) g0))
def F163_L : Nat → List (Nat × TypeDesc) := fun i => match i with
  | 4 => [(0, .slice 0), (3, .int .u64)]
  | _ => []
theorem F163_ok {B : World} {R : Ending → Heap → Prop} (a0 : OA) (b0 c0 : Nat) {h : Heap} (H : F163 B R a0 b0 c0 h) : Ec B 131 #[.slice a0 b0 c0] R h :=
 Ek Tryz.func131 (by kernel_rfl) (by kernel_rfl) (by kernel_rfl) F163_L [] (by kernel_rfl) H

/-- (math/big.nat).sub -/
def F164_j53 (B : World) (R : Po) (a0 : OA) (b0 c0 : Nat) (d0 : Int) (e0 : Heap) : Prop :=
((!decide (d0 = (0 : Int))) = true →
 R (.panicked [{ v := .iface 9 (.string ⟨#[117, 110, 100, 101, 114, 102, 108, 111, 119]⟩), recovered := false }]) e0) ∧
((!decide (d0 = (0 : Int))) = false →
 Ec B 162 #[.slice a0 b0 c0] (retE (fun f0 g0 => ∃ i0 j0 k0, f0 = .slice i0 j0 k0 ∧
 R (.returned (.slice i0 j0 k0)) g0)
(pk R)) e0)
def F164_j49 (B : World) (R : Po) (l0 : OA) (m0 n0 : Nat) (o0 : Int) (p0 : Heap) : Prop :=
 F164_j53 B R l0 m0 n0 o0 p0
def F164_j31 (B : World) (R : Po) (q0 : OA) (r0 s0 : Nat) (t0 : OA) (u0 v0 : Nat) (w0 x0 y0 : Int) (z0 : Heap) : Prop :=
((decide (x0 < w0)) = true →
 slW r0 s0 (some (.int .i64 x0)) none none fun a1 b1 c1 =>
 slW u0 v0 (some (.int .i64 x0)) none none fun d1 e1 f1 =>
 Ec B 161 #[.slice (slP q0 a1 c1 1) (b1 - a1) (c1 - a1), .slice (slP t0 d1 f1 1) (e1 - d1) (f1 - d1), .int .u64 y0] (retE (fun g1 i1 => ∃ j1, g1 = .int .u64 j1 ∧
 F164_j49 B R q0 r0 s0 j1 i1)
(fun _ _ => False)) z0) ∧
((decide (x0 < w0)) = false →
 F164_j53 B R q0 r0 s0 y0 z0)
def F164 (B : World) (R : Po) (k1 : OA) (l1 m1 : Nat) (n1 : OA) (o1 p1 : Nat) (q1 : OA) (r1 s1 : Nat) (h : Heap) : Prop :=
((decide ((o1 : Int) < (r1 : Int))) = true →
 R (.panicked [{ v := .iface 9 (.string ⟨#[117, 110, 100, 101, 114, 102, 108, 111, 119]⟩), recovered := false }]) h) ∧
((decide ((o1 : Int) < (r1 : Int))) = false →
((decide ((o1 : Int) = (0 : Int))) = true →
 slW l1 m1 none (some (.int .i64 (0 : Int))) none fun t1 u1 v1 =>
 R (.returned (.slice (slP k1 t1 v1 1) (u1 - t1) (v1 - t1))) h) ∧
((decide ((o1 : Int) = (0 : Int))) = false →
((decide ((r1 : Int) = (0 : Int))) = true →
 Ec B 121 #[.slice k1 l1 m1, .slice n1 o1 p1] (retE (fun w1 x1 => ∃ y1 z1 a2, w1 = .slice y1 z1 a2 ∧
 R (.returned (.slice y1 z1 a2)) x1)
(pk R)) h) ∧
((decide ((r1 : Int) = (0 : Int))) = false →
 Ec B 152 #[.slice k1 l1 m1, .int .i64 (o1 : Int)] (retE (fun b2 c2 => ∃ d2 e2 f2, b2 = .slice d2 e2 f2 ∧
 slW e2 f2 none (some (.int .i64 (r1 : Int))) none fun g2 i2 j2 =>
 slW o1 p1 none (some (.int .i64 (r1 : Int))) none fun k2 l2 m2 =>
 slW r1 s1 none (some (.int .i64 (r1 : Int))) none fun n2 o2 p2 =>
 Ec B 160 #[.slice (slP d2 g2 j2 1) (i2 - g2) (j2 - g2), .slice (slP n1 k2 m2 1) (l2 - k2) (m2 - k2), .slice (slP q1 n2 p2 1) (o2 - n2) (p2 - n2)] (retE (fun q2 r2 => ∃ s2, q2 = .int .u64 s2 ∧
 F164_j31 B R d2 e2 f2 n1 o1 p1 (o1 : Int) (r1 : Int) s2 r2)
(fun _ _ => False)) c2)
(pk R)) h)))
def F164_L : Nat → List (Nat × TypeDesc) := fun _ => []
theorem F164_ok {B : World} {R : Ending → Heap → Prop} (k1 : OA) (l1 m1 : Nat) (n1 : OA) (o1 p1 : Nat) (q1 : OA) (r1 s1 : Nat) {h : Heap} (H : F164 B R k1 l1 m1 n1 o1 p1 q1 r1 s1 h) : Ec B 132 #[.slice k1 l1 m1, .slice n1 o1 p1, .slice q1 r1 s1] R h :=
 Ek Tryz.func132 (by kernel_rfl) (by kernel_rfl) (by kernel_rfl) F164_L [] (by kernel_rfl) H

/-- (math/big.nat).rsh -/
def F165_j37 (B : World) (R : Po) (a0 : OA) (b0 c0 : Nat) (d0 : Heap) : Prop :=
 Ec B 162 #[.slice a0 b0 c0] (retE (fun e0 f0 => ∃ g0 i0 j0, e0 = .slice g0 i0 j0 ∧
 R (.returned (.slice g0 i0 j0)) f0)
(pk R)) d0
def F165_j19 (B : World) (R : Po) (k0 : OA) (l0 m0 : Nat) (n0 : OA) (o0 p0 : Nat) (q0 : Int) (r0 : Heap) : Prop :=
(64 : Int) ≠ 0 ∧
((decide ((IntKind.i64.wrap ((o0 : Int) - (IntKind.i64.wrap (IntKind.u64.wrap (Int.tdiv q0 (64 : Int)))))) ≤ (0 : Int))) = true →
 slW l0 m0 none (some (.int .i64 (0 : Int))) none fun s0 t0 u0 =>
 R (.returned (.slice (slP k0 s0 u0 1) (t0 - s0) (u0 - s0))) r0) ∧
((decide ((IntKind.i64.wrap ((o0 : Int) - (IntKind.i64.wrap (IntKind.u64.wrap (Int.tdiv q0 (64 : Int)))))) ≤ (0 : Int))) = false →
 Ec B 152 #[.slice k0 l0 m0, .int .i64 (IntKind.i64.wrap ((o0 : Int) - (IntKind.i64.wrap (IntKind.u64.wrap (Int.tdiv q0 (64 : Int))))))] (retE (fun v0 w0 => ∃ x0 y0 z0, v0 = .slice x0 y0 z0 ∧
(64 : Int) ≠ 0 ∧
((decide ((Int.tmod q0 (64 : Int)) = (0 : Int))) = true →
 slW o0 p0 (some (.int .i64 (IntKind.i64.wrap ((o0 : Int) - (IntKind.i64.wrap ((o0 : Int) - (IntKind.i64.wrap (IntKind.u64.wrap (Int.tdiv q0 (64 : Int)))))))))) none none fun a1 b1 c1 =>
 cpW w0 x0 y0 (slP n0 a1 c1 1) (b1 - a1) 1 fun d1 e1 =>
 F165_j37 B R x0 y0 z0 e1) ∧
((decide ((Int.tmod q0 (64 : Int)) = (0 : Int))) = false →
 slW o0 p0 (some (.int .i64 (IntKind.i64.wrap ((o0 : Int) - (IntKind.i64.wrap ((o0 : Int) - (IntKind.i64.wrap (IntKind.u64.wrap (Int.tdiv q0 (64 : Int)))))))))) none none fun f1 g1 i1 =>
 Ec B 166 #[.slice x0 y0 z0, .slice (slP n0 f1 i1 1) (g1 - f1) (i1 - f1), .int .u64 (Int.tmod q0 (64 : Int))] (retE (fun j1 k1 => ∃ l1, j1 = .int .u64 l1 ∧
 F165_j37 B R x0 y0 z0 k1)
(pk R)) w0))
(pk R)) r0)
def F165 (B : World) (R : Po) (m1 : OA) (n1 o1 : Nat) (p1 : OA) (q1 r1 : Nat) (s1 : Int) (h : Heap) : Prop :=
((decide (s1 = (0 : Int))) = true →
 Ec B 164 #[.slice m1 n1 o1, .slice p1 q1 r1] (retE (fun t1 u1 => ∃ v1, t1 = .bool v1 ∧
(v1 = true →
 R (.returned (.slice m1 n1 o1)) u1) ∧
(v1 = false →
 Ec B 165 #[.slice m1 n1 o1, .slice p1 q1 r1] (retE (fun w1 x1 => ∃ y1, w1 = .bool y1 ∧
((!y1) = true →
 Ec B 121 #[.slice m1 n1 o1, .slice p1 q1 r1] (retE (fun z1 a2 => ∃ b2 c2 d2, z1 = .slice b2 c2 d2 ∧
 R (.returned (.slice b2 c2 d2)) a2)
(pk R)) x1) ∧
((!y1) = false →
 F165_j19 B R m1 n1 o1 p1 q1 r1 s1 x1))
(pk R)) u1))
(pk R)) h) ∧
((decide (s1 = (0 : Int))) = false →
 F165_j19 B R m1 n1 o1 p1 q1 r1 s1 h)
def F165_L : Nat → List (Nat × TypeDesc) := fun _ => []
theorem F165_ok {B : World} {R : Ending → Heap → Prop} (m1 : OA) (n1 o1 : Nat) (p1 : OA) (q1 r1 : Nat) (s1 : Int) {h : Heap} (H : F165 B R m1 n1 o1 p1 q1 r1 s1 h) : Ec B 133 #[.slice m1 n1 o1, .slice p1 q1 r1, .int .u64 s1] R h :=
 Ek Tryz.func133 (by kernel_rfl) (by kernel_rfl) (by kernel_rfl) F165_L [] (by kernel_rfl) H

/-- (math/big.nat).add -/
def F166_j59 (B : World) (R : Po) (a0 : OA) (b0 c0 : Nat) (d0 e0 : Int) (f0 : Heap) : Prop :=
 ixW a0 b0 d0 1 fun g0 i0 =>
 iP g0 i0 fun j0 k0 => stC f0 j0 k0 (.int .u64 e0) fun l0 =>
 Ec B 162 #[.slice a0 b0 c0] (retE (fun m0 n0 => ∃ o0 p0 q0, m0 = .slice o0 p0 q0 ∧
 R (.returned (.slice o0 p0 q0)) n0)
(pk R)) l0
def F166_j54 (B : World) (R : Po) (r0 : OA) (s0 t0 : Nat) (u0 v0 : Int) (w0 : Heap) : Prop :=
 F166_j59 B R r0 s0 t0 u0 v0 w0
def F166_j36 (B : World) (R : Po) (x0 : OA) (y0 z0 : Nat) (a1 : OA) (b1 c1 : Nat) (d1 e1 f1 : Int) (g1 : Heap) : Prop :=
((decide (e1 < d1)) = true →
 slW y0 z0 (some (.int .i64 e1)) (some (.int .i64 d1)) none fun i1 j1 k1 =>
 slW b1 c1 (some (.int .i64 e1)) none none fun l1 m1 n1 =>
 Ec B 168 #[.slice (slP x0 i1 k1 1) (j1 - i1) (k1 - i1), .slice (slP a1 l1 n1 1) (m1 - l1) (n1 - l1), .int .u64 f1] (retE (fun o1 p1 => ∃ q1, o1 = .int .u64 q1 ∧
 F166_j54 B R x0 y0 z0 d1 q1 p1)
(fun _ _ => False)) g1) ∧
((decide (e1 < d1)) = false →
 F166_j59 B R x0 y0 z0 d1 f1 g1)
def F166 (B : World) (R : Po) (r1 : OA) (s1 t1 : Nat) (u1 : OA) (v1 w1 : Nat) (x1 : OA) (y1 z1 : Nat) (h : Heap) : Prop :=
((decide ((v1 : Int) < (y1 : Int))) = true →
 Ec B 134 #[.slice r1 s1 t1, .slice x1 y1 z1, .slice u1 v1 w1] (retE (fun a2 b2 => ∃ c2 d2 e2, a2 = .slice c2 d2 e2 ∧
 R (.returned (.slice c2 d2 e2)) b2)
(pk R)) h) ∧
((decide ((v1 : Int) < (y1 : Int))) = false →
((decide ((v1 : Int) = (0 : Int))) = true →
 slW s1 t1 none (some (.int .i64 (0 : Int))) none fun f2 g2 i2 =>
 R (.returned (.slice (slP r1 f2 i2 1) (g2 - f2) (i2 - f2))) h) ∧
((decide ((v1 : Int) = (0 : Int))) = false →
((decide ((y1 : Int) = (0 : Int))) = true →
 Ec B 121 #[.slice r1 s1 t1, .slice u1 v1 w1] (retE (fun j2 k2 => ∃ l2 m2 n2, j2 = .slice l2 m2 n2 ∧
 R (.returned (.slice l2 m2 n2)) k2)
(pk R)) h) ∧
((decide ((y1 : Int) = (0 : Int))) = false →
 Ec B 152 #[.slice r1 s1 t1, .int .i64 (IntKind.i64.wrap ((v1 : Int) + (1 : Int)))] (retE (fun o2 p2 => ∃ q2 r2 s2, o2 = .slice q2 r2 s2 ∧
 slW r2 s2 none (some (.int .i64 (y1 : Int))) none fun t2 u2 v2 =>
 slW v1 w1 none (some (.int .i64 (y1 : Int))) none fun w2 x2 y2 =>
 slW y1 z1 none (some (.int .i64 (y1 : Int))) none fun z2 a3 b3 =>
 Ec B 167 #[.slice (slP q2 t2 v2 1) (u2 - t2) (v2 - t2), .slice (slP u1 w2 y2 1) (x2 - w2) (y2 - w2), .slice (slP x1 z2 b3 1) (a3 - z2) (b3 - z2)] (retE (fun c3 d3 => ∃ e3, c3 = .int .u64 e3 ∧
 F166_j36 B R q2 r2 s2 u1 v1 w1 (v1 : Int) (y1 : Int) e3 d3)
(fun _ _ => False)) p2)
(pk R)) h)))
def F166_L : Nat → List (Nat × TypeDesc) := fun _ => []
theorem F166_ok {B : World} {R : Ending → Heap → Prop} (r1 : OA) (s1 t1 : Nat) (u1 : OA) (v1 w1 : Nat) (x1 : OA) (y1 z1 : Nat) {h : Heap} (H : F166 B R r1 s1 t1 u1 v1 w1 x1 y1 z1 h) : Ec B 134 #[.slice r1 s1 t1, .slice u1 v1 w1, .slice x1 y1 z1] R h :=
 Ek Tryz.func134 (by kernel_rfl) (by kernel_rfl) (by kernel_rfl) F166_L [] (by kernel_rfl) H

/-- (math/big.nat).bitLen -/
def F167 (B : World) (R : Po) (a0 : OA) (b0 c0 : Nat) (h : Heap) : Prop :=
((decide ((0 : Int) ≤ (IntKind.i64.wrap ((b0 : Int) - (1 : Int))))) = true →
 ixW a0 b0 (IntKind.i64.wrap ((b0 : Int) - (1 : Int))) 1 fun d0 e0 =>
 iP d0 e0 fun f0 g0 => ∃ i0, cI h f0 g0 .u64 i0 ∧
0 ≤ (1 : Int) ∧
0 ≤ (2 : Int) ∧
0 ≤ (4 : Int) ∧
0 ≤ (8 : Int) ∧
0 ≤ (16 : Int) ∧
0 ≤ (16 : Int) ∧
0 ≤ (16 : Int) ∧
 Ec B 170 #[.int .u64 (bitsI .or .u64 (bitsI .or .u64 (bitsI .or .u64 (bitsI .or .u64 (bitsI .or .u64 (bitsI .or .u64 i0 (Int.fdiv i0 (2 ^ min (Int.toNat (1 : Int)) IntKind.u64.bits))) (Int.fdiv (bitsI .or .u64 i0 (Int.fdiv i0 (2 ^ min (Int.toNat (1 : Int)) IntKind.u64.bits))) (2 ^ min (Int.toNat (2 : Int)) IntKind.u64.bits))) (Int.fdiv (bitsI .or .u64 (bitsI .or .u64 i0 (Int.fdiv i0 (2 ^ min (Int.toNat (1 : Int)) IntKind.u64.bits))) (Int.fdiv (bitsI .or .u64 i0 (Int.fdiv i0 (2 ^ min (Int.toNat (1 : Int)) IntKind.u64.bits))) (2 ^ min (Int.toNat (2 : Int)) IntKind.u64.bits))) (2 ^ min (Int.toNat (4 : Int)) IntKind.u64.bits))) (Int.fdiv (bitsI .or .u64 (bitsI .or .u64 (bitsI .or .u64 i0 (Int.fdiv i0 (2 ^ min (Int.toNat (1 : Int)) IntKind.u64.bits))) (Int.fdiv (bitsI .or .u64 i0 (Int.fdiv i0 (2 ^ min (Int.toNat (1 : Int)) IntKind.u64.bits))) (2 ^ min (Int.toNat (2 : Int)) IntKind.u64.bits))) (Int.fdiv (bitsI .or .u64 (bitsI .or .u64 i0 (Int.fdiv i0 (2 ^ min (Int.toNat (1 : Int)) IntKind.u64.bits))) (Int.fdiv (bitsI .or .u64 i0 (Int.fdiv i0 (2 ^ min (Int.toNat (1 : Int)) IntKind.u64.bits))) (2 ^ min (Int.toNat (2 : Int)) IntKind.u64.bits))) (2 ^ min (Int.toNat (4 : Int)) IntKind.u64.bits))) (2 ^ min (Int.toNat (8 : Int)) IntKind.u64.bits))) (Int.fdiv (bitsI .or .u64 (bitsI .or .u64 (bitsI .or .u64 (bitsI .or .u64 i0 (Int.fdiv i0 (2 ^ min (Int.toNat (1 : Int)) IntKind.u64.bits))) (Int.fdiv (bitsI .or .u64 i0 (Int.fdiv i0 (2 ^ min (Int.toNat (1 : Int)) IntKind.u64.bits))) (2 ^ min (Int.toNat (2 : Int)) IntKind.u64.bits))) (Int.fdiv (bitsI .or .u64 (bitsI .or .u64 i0 (Int.fdiv i0 (2 ^ min (Int.toNat (1 : Int)) IntKind.u64.bits))) (Int.fdiv (bitsI .or .u64 i0 (Int.fdiv i0 (2 ^ min (Int.toNat (1 : Int)) IntKind.u64.bits))) (2 ^ min (Int.toNat (2 : Int)) IntKind.u64.bits))) (2 ^ min (Int.toNat (4 : Int)) IntKind.u64.bits))) (Int.fdiv (bitsI .or .u64 (bitsI .or .u64 (bitsI .or .u64 i0 (Int.fdiv i0 (2 ^ min (Int.toNat (1 : Int)) IntKind.u64.bits))) (Int.fdiv (bitsI .or .u64 i0 (Int.fdiv i0 (2 ^ min (Int.toNat (1 : Int)) IntKind.u64.bits))) (2 ^ min (Int.toNat (2 : Int)) IntKind.u64.bits))) (Int.fdiv (bitsI .or .u64 (bitsI .or .u64 i0 (Int.fdiv i0 (2 ^ min (Int.toNat (1 : Int)) IntKind.u64.bits))) (Int.fdiv (bitsI .or .u64 i0 (Int.fdiv i0 (2 ^ min (Int.toNat (1 : Int)) IntKind.u64.bits))) (2 ^ min (Int.toNat (2 : Int)) IntKind.u64.bits))) (2 ^ min (Int.toNat (4 : Int)) IntKind.u64.bits))) (2 ^ min (Int.toNat (8 : Int)) IntKind.u64.bits))) (2 ^ min (Int.toNat (16 : Int)) IntKind.u64.bits))) (Int.fdiv (Int.fdiv (bitsI .or .u64 (bitsI .or .u64 (bitsI .or .u64 (bitsI .or .u64 (bitsI .or .u64 i0 (Int.fdiv i0 (2 ^ min (Int.toNat (1 : Int)) IntKind.u64.bits))) (Int.fdiv (bitsI .or .u64 i0 (Int.fdiv i0 (2 ^ min (Int.toNat (1 : Int)) IntKind.u64.bits))) (2 ^ min (Int.toNat (2 : Int)) IntKind.u64.bits))) (Int.fdiv (bitsI .or .u64 (bitsI .or .u64 i0 (Int.fdiv i0 (2 ^ min (Int.toNat (1 : Int)) IntKind.u64.bits))) (Int.fdiv (bitsI .or .u64 i0 (Int.fdiv i0 (2 ^ min (Int.toNat (1 : Int)) IntKind.u64.bits))) (2 ^ min (Int.toNat (2 : Int)) IntKind.u64.bits))) (2 ^ min (Int.toNat (4 : Int)) IntKind.u64.bits))) (Int.fdiv (bitsI .or .u64 (bitsI .or .u64 (bitsI .or .u64 i0 (Int.fdiv i0 (2 ^ min (Int.toNat (1 : Int)) IntKind.u64.bits))) (Int.fdiv (bitsI .or .u64 i0 (Int.fdiv i0 (2 ^ min (Int.toNat (1 : Int)) IntKind.u64.bits))) (2 ^ min (Int.toNat (2 : Int)) IntKind.u64.bits))) (Int.fdiv (bitsI .or .u64 (bitsI .or .u64 i0 (Int.fdiv i0 (2 ^ min (Int.toNat (1 : Int)) IntKind.u64.bits))) (Int.fdiv (bitsI .or .u64 i0 (Int.fdiv i0 (2 ^ min (Int.toNat (1 : Int)) IntKind.u64.bits))) (2 ^ min (Int.toNat (2 : Int)) IntKind.u64.bits))) (2 ^ min (Int.toNat (4 : Int)) IntKind.u64.bits))) (2 ^ min (Int.toNat (8 : Int)) IntKind.u64.bits))) (Int.fdiv (bitsI .or .u64 (bitsI .or .u64 (bitsI .or .u64 (bitsI .or .u64 i0 (Int.fdiv i0 (2 ^ min (Int.toNat (1 : Int)) IntKind.u64.bits))) (Int.fdiv (bitsI .or .u64 i0 (Int.fdiv i0 (2 ^ min (Int.toNat (1 : Int)) IntKind.u64.bits))) (2 ^ min (Int.toNat (2 : Int)) IntKind.u64.bits))) (Int.fdiv (bitsI .or .u64 (bitsI .or .u64 i0 (Int.fdiv i0 (2 ^ min (Int.toNat (1 : Int)) IntKind.u64.bits))) (Int.fdiv (bitsI .or .u64 i0 (Int.fdiv i0 (2 ^ min (Int.toNat (1 : Int)) IntKind.u64.bits))) (2 ^ min (Int.toNat (2 : Int)) IntKind.u64.bits))) (2 ^ min (Int.toNat (4 : Int)) IntKind.u64.bits))) (Int.fdiv (bitsI .or .u64 (bitsI .or .u64 (bitsI .or .u64 i0 (Int.fdiv i0 (2 ^ min (Int.toNat (1 : Int)) IntKind.u64.bits))) (Int.fdiv (bitsI .or .u64 i0 (Int.fdiv i0 (2 ^ min (Int.toNat (1 : Int)) IntKind.u64.bits))) (2 ^ min (Int.toNat (2 : Int)) IntKind.u64.bits))) (Int.fdiv (bitsI .or .u64 (bitsI .or .u64 i0 (Int.fdiv i0 (2 ^ min (Int.toNat (1 : Int)) IntKind.u64.bits))) (Int.fdiv (bitsI .or .u64 i0 (Int.fdiv i0 (2 ^ min (Int.toNat (1 : Int)) IntKind.u64.bits))) (2 ^ min (Int.toNat (2 : Int)) IntKind.u64.bits))) (2 ^ min (Int.toNat (4 : Int)) IntKind.u64.bits))) (2 ^ min (Int.toNat (8 : Int)) IntKind.u64.bits))) (2 ^ min (Int.toNat (16 : Int)) IntKind.u64.bits))) (2 ^ min (Int.toNat (16 : Int)) IntKind.u64.bits)) (2 ^ min (Int.toNat (16 : Int)) IntKind.u64.bits)))] (retE (fun j0 k0 => ∃ l0, j0 = .int .i64 l0 ∧
 R (.returned (.int .i64 (IntKind.i64.wrap ((IntKind.i64.wrap ((IntKind.i64.wrap ((b0 : Int) - (1 : Int))) * (64 : Int))) + l0)))) k0)
(pk R)) h) ∧
((decide ((0 : Int) ≤ (IntKind.i64.wrap ((b0 : Int) - (1 : Int))))) = false →
 R (.returned (.int .i64 (0 : Int))) h)
def F167_L : Nat → List (Nat × TypeDesc) := fun _ => []
theorem F167_ok {B : World} {R : Ending → Heap → Prop} (a0 : OA) (b0 c0 : Nat) {h : Heap} (H : F167 B R a0 b0 c0 h) : Ec B 135 #[.slice a0 b0 c0] R h :=
 Ek Tryz.func135 (by kernel_rfl) (by kernel_rfl) (by kernel_rfl) F167_L [] (by kernel_rfl) H

/-- (math/big.nat).or -/
def F168_j43 (B : World) (R : Po) (a0 : Lp) (b0 : Nat) (c0 : OA) (d0 e0 : Nat) (f0 : OA) (g0 i0 : Nat) (j0 : OA) (k0 l0 : Nat) (m0 n0 : Int) (o0 : OA) (p0 q0 : Nat) (r0 : Int) (s0 : Heap) : Prop :=
 ∃ t0, t0 < b0 ∧ a0 t0 [.slice c0 d0 e0, .slice f0 g0 i0, .slice j0 k0 l0, .int .i64 m0, .int .i64 n0, .slice o0 p0 q0, .int .i64 (IntKind.i64.wrap (r0 + (1 : Int)))] s0
def F168_j61 (B : World) (R : Po) (a0 : Lp) (b0 : Nat) (u0 : OA) (v0 w0 : Nat) (x0 : Heap) : Prop :=
 Ec B 162 #[.slice u0 v0 w0] (retE (fun y0 z0 => ∃ a1 b1 c1, y0 = .slice a1 b1 c1 ∧
 R (.returned (.slice a1 b1 c1)) z0)
(pk R)) x0
def F168_j4 (B : World) (R : Po) (d1 : OA) (e1 f1 : Nat) (g1 : OA) (i1 j1 : Nat) (k1 : OA) (l1 m1 : Nat) (n1 o1 : Int) (p1 : OA) (q1 r1 : Nat) (s1 : Heap) : Prop :=
 Ec B 152 #[.slice d1 e1 f1, .int .i64 n1] (retE (fun t1 u1 => ∃ v1 w1 x1, t1 = .slice v1 w1 x1 ∧
∃ a0 : Lp, ∃ y1, a0 y1 [.slice v1 w1 x1, .slice g1 i1 j1, .slice k1 l1 m1, .int .i64 n1, .int .i64 o1, .slice p1 q1 r1, .int .i64 (0 : Int)] u1 ∧
∀ (b0 : Nat) (z1 : Heap) (a2 : OA) (b2 c2 : Nat) (d2 : OA) (e2 f2 : Nat) (g2 : OA) (i2 j2 : Nat) (k2 l2 : Int) (m2 : OA) (n2 o2 : Nat) (p2 : Int), a0 b0 [.slice a2 b2 c2, .slice d2 e2 f2, .slice g2 i2 j2, .int .i64 k2, .int .i64 l2, .slice m2 n2 o2, .int .i64 p2] z1 → ∀ _r : Nat → Value,
((decide (p2 < l2)) = true →
 ixW d2 e2 p2 1 fun q2 r2 =>
 iP q2 r2 fun s2 t2 => ∃ u2, cI z1 s2 t2 .u64 u2 ∧
 ixW g2 i2 p2 1 fun v2 w2 =>
 iP v2 w2 fun x2 y2 => ∃ z2, cI z1 x2 y2 .u64 z2 ∧
 ixW a2 b2 p2 1 fun a3 b3 =>
 iP a3 b3 fun c3 d3 => stC z1 c3 d3 (.int .u64 (bitsI .or .u64 u2 z2)) fun e3 =>
 F168_j43 B R a0 b0 a2 b2 c2 d2 e2 f2 g2 i2 j2 k2 l2 m2 n2 o2 p2 e3) ∧
((decide (p2 < l2)) = false →
 slW b2 c2 (some (.int .i64 l2)) (some (.int .i64 k2)) none fun f3 g3 i3 =>
 slW n2 o2 (some (.int .i64 l2)) (some (.int .i64 k2)) none fun j3 k3 l3 =>
 cpW z1 (slP a2 f3 i3 1) (g3 - f3) (slP m2 j3 l3 1) (k3 - j3) 1 fun m3 n3 =>
 F168_j61 B R a0 b0 a2 b2 c2 n3))
(pk R)) s1
def F168 (B : World) (R : Po) (o3 : OA) (p3 q3 : Nat) (r3 : OA) (s3 t3 : Nat) (u3 : OA) (v3 w3 : Nat) (h : Heap) : Prop :=
((decide ((s3 : Int) < (v3 : Int))) = true →
 F168_j4 B R o3 p3 q3 r3 s3 t3 u3 v3 w3 (v3 : Int) (s3 : Int) u3 v3 w3 h) ∧
((decide ((s3 : Int) < (v3 : Int))) = false →
 F168_j4 B R o3 p3 q3 r3 s3 t3 u3 v3 w3 (s3 : Int) (v3 : Int) r3 s3 t3 h)
def F168_L : Nat → List (Nat × TypeDesc) := fun i => match i with
  | 9 => [(0, .slice 0), (1, .slice 0), (2, .slice 0), (7, .int .i64), (8, .int .i64), (9, .slice 0), (10, .int .i64)]
  | _ => []
theorem F168_ok {B : World} {R : Ending → Heap → Prop} (o3 : OA) (p3 q3 : Nat) (r3 : OA) (s3 t3 : Nat) (u3 : OA) (v3 w3 : Nat) {h : Heap} (H : F168 B R o3 p3 q3 r3 s3 t3 u3 v3 w3 h) : Ec B 136 #[.slice o3 p3 q3, .slice r3 s3 t3, .slice u3 v3 w3] R h :=
 Ek Tryz.func136 (by kernel_rfl) (by kernel_rfl) (by kernel_rfl) F168_L [] (by kernel_rfl) H

/-- (math/big.nat).and -/
def F169_j39 (B : World) (R : Po) (a0 : Lp) (b0 : Nat) (c0 : OA) (d0 e0 : Nat) (f0 : OA) (g0 i0 : Nat) (j0 : OA) (k0 l0 : Nat) (m0 n0 : Int) (o0 : Heap) : Prop :=
 ∃ p0, p0 < b0 ∧ a0 p0 [.slice c0 d0 e0, .slice f0 g0 i0, .slice j0 k0 l0, .int .i64 m0, .int .i64 (IntKind.i64.wrap (n0 + (1 : Int)))] o0
def F169_j4 (B : World) (R : Po) (q0 : OA) (r0 s0 : Nat) (t0 : OA) (u0 v0 : Nat) (w0 : OA) (x0 y0 : Nat) (z0 : Int) (a1 : Heap) : Prop :=
 Ec B 152 #[.slice q0 r0 s0, .int .i64 z0] (retE (fun b1 c1 => ∃ d1 e1 f1, b1 = .slice d1 e1 f1 ∧
∃ a0 : Lp, ∃ g1, a0 g1 [.slice d1 e1 f1, .slice t0 u0 v0, .slice w0 x0 y0, .int .i64 z0, .int .i64 (0 : Int)] c1 ∧
∀ (b0 : Nat) (i1 : Heap) (j1 : OA) (k1 l1 : Nat) (m1 : OA) (n1 o1 : Nat) (p1 : OA) (q1 r1 : Nat) (s1 t1 : Int), a0 b0 [.slice j1 k1 l1, .slice m1 n1 o1, .slice p1 q1 r1, .int .i64 s1, .int .i64 t1] i1 → ∀ _r : Nat → Value,
((decide (t1 < s1)) = true →
 ixW m1 n1 t1 1 fun u1 v1 =>
 iP u1 v1 fun w1 x1 => ∃ y1, cI i1 w1 x1 .u64 y1 ∧
 ixW p1 q1 t1 1 fun z1 a2 =>
 iP z1 a2 fun b2 c2 => ∃ d2, cI i1 b2 c2 .u64 d2 ∧
 ixW j1 k1 t1 1 fun e2 f2 =>
 iP e2 f2 fun g2 i2 => stC i1 g2 i2 (.int .u64 (bitsI .and .u64 y1 d2)) fun j2 =>
 F169_j39 B R a0 b0 j1 k1 l1 m1 n1 o1 p1 q1 r1 s1 t1 j2) ∧
((decide (t1 < s1)) = false →
 Ec B 162 #[.slice j1 k1 l1] (retE (fun k2 l2 => ∃ m2 n2 o2, k2 = .slice m2 n2 o2 ∧
 R (.returned (.slice m2 n2 o2)) l2)
(pk R)) i1))
(pk R)) a1
def F169 (B : World) (R : Po) (p2 : OA) (q2 r2 : Nat) (s2 : OA) (t2 u2 : Nat) (v2 : OA) (w2 x2 : Nat) (h : Heap) : Prop :=
((decide ((w2 : Int) < (t2 : Int))) = true →
 F169_j4 B R p2 q2 r2 s2 t2 u2 v2 w2 x2 (w2 : Int) h) ∧
((decide ((w2 : Int) < (t2 : Int))) = false →
 F169_j4 B R p2 q2 r2 s2 t2 u2 v2 w2 x2 (t2 : Int) h)
def F169_L : Nat → List (Nat × TypeDesc) := fun i => match i with
  | 7 => [(0, .slice 0), (1, .slice 0), (2, .slice 0), (7, .int .i64), (9, .int .i64)]
  | _ => []
theorem F169_ok {B : World} {R : Ending → Heap → Prop} (p2 : OA) (q2 r2 : Nat) (s2 : OA) (t2 u2 : Nat) (v2 : OA) (w2 x2 : Nat) {h : Heap} (H : F169 B R p2 q2 r2 s2 t2 u2 v2 w2 x2 h) : Ec B 137 #[.slice p2 q2 r2, .slice s2 t2 u2, .slice v2 w2 x2] R h :=
 Ek Tryz.func137 (by kernel_rfl) (by kernel_rfl) (by kernel_rfl) F169_L [] (by kernel_rfl) H

/-- (math/big.nat).cmp -/
def F172_j11 (B : World) (R : Po) (a0 : Int) (b0 : Heap) : Prop :=
 R (.returned (.int .i64 a0)) b0
def F172_j14 (B : World) (R : Po) (c0 : Int) (d0 : Heap) : Prop :=
 F172_j11 B R c0 d0
def F172_j60 (B : World) (R : Po) (e0 : Lp) (f0 : Nat) (g0 : Int) (i0 : Heap) : Prop :=
 R (.returned (.int .i64 g0)) i0
def F172_j77 (B : World) (R : Po) (e0 : Lp) (f0 : Nat) (j0 : Int) (k0 : Heap) : Prop :=
 F172_j60 B R e0 f0 j0 k0
def F172_j73 (B : World) (R : Po) (e0 : Lp) (f0 : Nat) (l0 : Int) (m0 : Bool) (n0 : Heap) : Prop :=
(m0 = true →
 F172_j77 B R e0 f0 (1 : Int) n0) ∧
(m0 = false →
 F172_j77 B R e0 f0 l0 n0)
def F172_j53 (B : World) (R : Po) (e0 : Lp) (f0 : Nat) (o0 : OA) (p0 q0 : Nat) (r0 : OA) (s0 t0 : Nat) (u0 v0 : Int) (w0 : Bool) (x0 : Heap) : Prop :=
(w0 = true →
 F172_j60 B R e0 f0 (-1 : Int) x0) ∧
(w0 = false →
 ixW o0 p0 v0 1 fun y0 z0 =>
 iP y0 z0 fun a1 b1 => ∃ c1, cI x0 a1 b1 .u64 c1 ∧
 ixW r0 s0 v0 1 fun d1 e1 =>
 iP d1 e1 fun f1 g1 => ∃ i1, cI x0 f1 g1 .u64 i1 ∧
 F172_j73 B R e0 f0 u0 (decide (i1 < c1)) x0)
def F172_j35 (B : World) (R : Po) (e0 : Lp) (f0 : Nat) (j1 : OA) (k1 l1 : Nat) (m1 : OA) (n1 o1 : Nat) (p1 q1 : Int) (r1 : Bool) (s1 : Heap) : Prop :=
(r1 = true →
 ∃ t1, t1 < f0 ∧ e0 t1 [.slice j1 k1 l1, .slice m1 n1 o1, .int .i64 p1, .int .i64 (IntKind.i64.wrap (q1 - (1 : Int)))] s1) ∧
(r1 = false →
 ixW j1 k1 q1 1 fun u1 v1 =>
 iP u1 v1 fun w1 x1 => ∃ y1, cI s1 w1 x1 .u64 y1 ∧
 ixW m1 n1 q1 1 fun z1 a2 =>
 iP z1 a2 fun b2 c2 => ∃ d2, cI s1 b2 c2 .u64 d2 ∧
 F172_j53 B R e0 f0 j1 k1 l1 m1 n1 o1 p1 q1 (decide (y1 < d2)) s1)
def F172_j3 (B : World) (R : Po) (e2 : OA) (f2 g2 : Nat) (i2 : OA) (j2 k2 : Nat) (l2 m2 n2 : Int) (o2 : Bool) (p2 : Heap) : Prop :=
(o2 = true →
((decide (m2 < n2)) = true →
 F172_j11 B R (-1 : Int) p2) ∧
((decide (m2 < n2)) = false →
((decide (n2 < m2)) = true →
 F172_j14 B R (1 : Int) p2) ∧
((decide (n2 < m2)) = false →
 F172_j14 B R l2 p2))) ∧
(o2 = false →
 ∃ e0 : Lp, ∃ q2, e0 q2 [.slice e2 f2 g2, .slice i2 j2 k2, .int .i64 l2, .int .i64 (IntKind.i64.wrap (m2 - (1 : Int)))] p2 ∧
∀ (f0 : Nat) (r2 : Heap) (s2 : OA) (t2 u2 : Nat) (v2 : OA) (w2 x2 : Nat) (y2 z2 : Int), e0 f0 [.slice s2 t2 u2, .slice v2 w2 x2, .int .i64 y2, .int .i64 z2] r2 → ∀ _r : Nat → Value,
((decide ((0 : Int) < z2)) = true →
 ixW s2 t2 z2 1 fun a3 b3 =>
 iP a3 b3 fun c3 d3 => ∃ e3, cI r2 c3 d3 .u64 e3 ∧
 ixW v2 w2 z2 1 fun f3 g3 =>
 iP f3 g3 fun i3 j3 => ∃ k3, cI r2 i3 j3 .u64 k3 ∧
 F172_j35 B R e0 f0 s2 t2 u2 v2 w2 x2 y2 z2 (decide (e3 = k3)) r2) ∧
((decide ((0 : Int) < z2)) = false →
 F172_j35 B R e0 f0 s2 t2 u2 v2 w2 x2 y2 z2 false r2))
def F172 (B : World) (R : Po) (l3 : OA) (m3 n3 : Nat) (o3 : OA) (p3 q3 : Nat) (h : Heap) : Prop :=
((!decide ((m3 : Int) = (p3 : Int))) = true →
 F172_j3 B R l3 m3 n3 o3 p3 q3 (0 : Int) (m3 : Int) (p3 : Int) true h) ∧
((!decide ((m3 : Int) = (p3 : Int))) = false →
 F172_j3 B R l3 m3 n3 o3 p3 q3 (0 : Int) (m3 : Int) (p3 : Int) (decide ((m3 : Int) = (0 : Int))) h)
def F172_L : Nat → List (Nat × TypeDesc) := fun i => match i with
  | 9 => [(0, .slice 0), (1, .slice 0), (4, .int .i64), (7, .int .i64)]
  | _ => []
theorem F172_ok {B : World} {R : Ending → Heap → Prop} (l3 : OA) (m3 n3 : Nat) (o3 : OA) (p3 q3 : Nat) {h : Heap} (H : F172 B R l3 m3 n3 o3 p3 q3 h) : Ec B 140 #[.slice l3 m3 n3, .slice o3 p3 q3] R h :=
 Ek Tryz.func140 (by kernel_rfl) (by kernel_rfl) (by kernel_rfl) F172_L [] (by kernel_rfl) H

/-- (math/big.nat).lsh -/
def F173_j42 (B : World) (R : Po) (a0 : OA) (b0 c0 : Nat) (d0 e0 : Int) (f0 : Heap) : Prop :=
 slW b0 c0 (some (.int .i64 (0 : Int))) (some (.int .i64 (IntKind.i64.wrap (e0 - d0)))) none fun g0 i0 j0 =>
 clW f0 (slP a0 g0 j0 1) (i0 - g0) 1 #[.int .u64 0] fun k0 =>
 Ec B 162 #[.slice a0 b0 c0] (retE (fun l0 m0 => ∃ n0 o0 p0, l0 = .slice n0 o0 p0 ∧
 R (.returned (.slice n0 o0 p0)) m0)
(pk R)) k0
def F173_j19 (B : World) (R : Po) (q0 : OA) (r0 s0 : Nat) (t0 : OA) (u0 v0 : Nat) (w0 : Int) (x0 : Heap) : Prop :=
((decide ((u0 : Int) = (0 : Int))) = true →
 slW r0 s0 none (some (.int .i64 (0 : Int))) none fun y0 z0 a1 =>
 R (.returned (.slice (slP q0 y0 a1 1) (z0 - y0) (a1 - y0))) x0) ∧
((decide ((u0 : Int) = (0 : Int))) = false →
(64 : Int) ≠ 0 ∧
 Ec B 152 #[.slice q0 r0 s0, .int .i64 (IntKind.i64.wrap ((IntKind.i64.wrap ((u0 : Int) + (IntKind.i64.wrap (IntKind.u64.wrap (Int.tdiv w0 (64 : Int)))))) + (1 : Int)))] (retE (fun b1 c1 => ∃ d1 e1 f1, b1 = .slice d1 e1 f1 ∧
(64 : Int) ≠ 0 ∧
((decide ((Int.tmod w0 (64 : Int)) = (0 : Int))) = true →
 slW e1 f1 (some (.int .i64 (IntKind.i64.wrap ((IntKind.i64.wrap ((u0 : Int) + (IntKind.i64.wrap (IntKind.u64.wrap (Int.tdiv w0 (64 : Int)))))) - (u0 : Int))))) (some (.int .i64 (IntKind.i64.wrap ((u0 : Int) + (IntKind.i64.wrap (IntKind.u64.wrap (Int.tdiv w0 (64 : Int)))))))) none fun g1 i1 j1 =>
 cpW c1 (slP d1 g1 j1 1) (i1 - g1) t0 u0 1 fun k1 l1 =>
 ixW d1 e1 (IntKind.i64.wrap ((u0 : Int) + (IntKind.i64.wrap (IntKind.u64.wrap (Int.tdiv w0 (64 : Int)))))) 1 fun m1 n1 =>
 iP m1 n1 fun o1 p1 => stC l1 o1 p1 (.int .u64 (0 : Int)) fun q1 =>
 F173_j42 B R d1 e1 f1 (u0 : Int) (IntKind.i64.wrap ((u0 : Int) + (IntKind.i64.wrap (IntKind.u64.wrap (Int.tdiv w0 (64 : Int)))))) q1) ∧
((decide ((Int.tmod w0 (64 : Int)) = (0 : Int))) = false →
 slW e1 f1 (some (.int .i64 (IntKind.i64.wrap ((IntKind.i64.wrap ((u0 : Int) + (IntKind.i64.wrap (IntKind.u64.wrap (Int.tdiv w0 (64 : Int)))))) - (u0 : Int))))) (some (.int .i64 (IntKind.i64.wrap ((u0 : Int) + (IntKind.i64.wrap (IntKind.u64.wrap (Int.tdiv w0 (64 : Int)))))))) none fun r1 s1 t1 =>
 Ec B 154 #[.slice (slP d1 r1 t1 1) (s1 - r1) (t1 - r1), .slice t0 u0 v0, .int .u64 (Int.tmod w0 (64 : Int))] (retE (fun u1 v1 => ∃ w1, u1 = .int .u64 w1 ∧
 ixW d1 e1 (IntKind.i64.wrap ((u0 : Int) + (IntKind.i64.wrap (IntKind.u64.wrap (Int.tdiv w0 (64 : Int)))))) 1 fun x1 y1 =>
 iP x1 y1 fun z1 a2 => stC v1 z1 a2 (.int .u64 w1) fun b2 =>
 F173_j42 B R d1 e1 f1 (u0 : Int) (IntKind.i64.wrap ((u0 : Int) + (IntKind.i64.wrap (IntKind.u64.wrap (Int.tdiv w0 (64 : Int)))))) b2)
(pk R)) c1))
(pk R)) x0)
def F173 (B : World) (R : Po) (c2 : OA) (d2 e2 : Nat) (f2 : OA) (g2 i2 : Nat) (j2 : Int) (h : Heap) : Prop :=
((decide (j2 = (0 : Int))) = true →
 Ec B 164 #[.slice c2 d2 e2, .slice f2 g2 i2] (retE (fun k2 l2 => ∃ m2, k2 = .bool m2 ∧
(m2 = true →
 R (.returned (.slice c2 d2 e2)) l2) ∧
(m2 = false →
 Ec B 165 #[.slice c2 d2 e2, .slice f2 g2 i2] (retE (fun n2 o2 => ∃ p2, n2 = .bool p2 ∧
((!p2) = true →
 Ec B 121 #[.slice c2 d2 e2, .slice f2 g2 i2] (retE (fun q2 r2 => ∃ s2 t2 u2, q2 = .slice s2 t2 u2 ∧
 R (.returned (.slice s2 t2 u2)) r2)
(pk R)) o2) ∧
((!p2) = false →
 F173_j19 B R c2 d2 e2 f2 g2 i2 j2 o2))
(pk R)) l2))
(pk R)) h) ∧
((decide (j2 = (0 : Int))) = false →
 F173_j19 B R c2 d2 e2 f2 g2 i2 j2 h)
def F173_L : Nat → List (Nat × TypeDesc) := fun _ => []
theorem F173_ok {B : World} {R : Ending → Heap → Prop} (c2 : OA) (d2 e2 : Nat) (f2 : OA) (g2 i2 : Nat) (j2 : Int) {h : Heap} (H : F173 B R c2 d2 e2 f2 g2 i2 j2 h) : Ec B 141 #[.slice c2 d2 e2, .slice f2 g2 i2, .int .u64 j2] R h :=
 Ek Tryz.func141 (by kernel_rfl) (by kernel_rfl) (by kernel_rfl) F173_L [] (by kernel_rfl) H

/-- math/big.same -/
def F199_j8 (B : World) (R : Po) (a0 : Bool) (b0 : Heap) : Prop :=
 R (.returned (.bool a0)) b0
def F199 (B : World) (R : Po) (c0 : OA) (d0 e0 : Nat) (f0 : OA) (g0 i0 : Nat) (h : Heap) : Prop :=
((decide ((d0 : Int) = (g0 : Int))) = true →
((decide ((0 : Int) < (d0 : Int))) = true →
 ixW c0 d0 (0 : Int) 1 fun j0 k0 =>
 ixW f0 g0 (0 : Int) 1 fun l0 m0 =>
 pEq h (some ⟨j0, k0, none⟩) (some ⟨l0, m0, none⟩) fun n0 =>
 F199_j8 B R n0 h) ∧
((decide ((0 : Int) < (d0 : Int))) = false →
 F199_j8 B R false h)) ∧
((decide ((d0 : Int) = (g0 : Int))) = false →
(false = true →
 ixW c0 d0 (0 : Int) 1 fun o0 p0 =>
 ixW f0 g0 (0 : Int) 1 fun q0 r0 =>
 pEq h (some ⟨o0, p0, none⟩) (some ⟨q0, r0, none⟩) fun s0 =>
 F199_j8 B R s0 h) ∧
(false = false →
 F199_j8 B R false h))
def F199_L : Nat → List (Nat × TypeDesc) := fun _ => []
theorem F199_ok {B : World} {R : Ending → Heap → Prop} (c0 : OA) (d0 e0 : Nat) (f0 : OA) (g0 i0 : Nat) {h : Heap} (H : F199 B R c0 d0 e0 f0 g0 i0 h) : Ec B 164 #[.slice c0 d0 e0, .slice f0 g0 i0] R h :=
 Ek Tryz.func164 (by kernel_rfl) (by kernel_rfl) (by kernel_rfl) F199_L [] (by kernel_rfl) H

/-- math/big.alias -/
def F200_j14 (B : World) (R : Po) (a0 : Bool) (b0 : Heap) : Prop :=
 R (.returned (.bool a0)) b0
def F200 (B : World) (R : Po) (c0 : OA) (d0 e0 : Nat) (f0 : OA) (g0 i0 : Nat) (h : Heap) : Prop :=
((decide ((0 : Int) < (e0 : Int))) = true →
((decide ((0 : Int) < (i0 : Int))) = true →
 slW d0 e0 (some (.int .i64 (0 : Int))) (some (.int .i64 (e0 : Int))) none fun j0 k0 l0 =>
 ixW (slP c0 j0 l0 1) (k0 - j0) (IntKind.i64.wrap ((e0 : Int) - (1 : Int))) 1 fun m0 n0 =>
 slW g0 i0 (some (.int .i64 (0 : Int))) (some (.int .i64 (i0 : Int))) none fun o0 p0 q0 =>
 ixW (slP f0 o0 q0 1) (p0 - o0) (IntKind.i64.wrap ((i0 : Int) - (1 : Int))) 1 fun r0 s0 =>
 pEq h (some ⟨m0, n0, none⟩) (some ⟨r0, s0, none⟩) fun t0 =>
 F200_j14 B R t0 h) ∧
((decide ((0 : Int) < (i0 : Int))) = false →
 F200_j14 B R false h)) ∧
((decide ((0 : Int) < (e0 : Int))) = false →
(false = true →
 slW d0 e0 (some (.int .i64 (0 : Int))) (some (.int .i64 (e0 : Int))) none fun u0 v0 w0 =>
 ixW (slP c0 u0 w0 1) (v0 - u0) (IntKind.i64.wrap ((e0 : Int) - (1 : Int))) 1 fun x0 y0 =>
 slW g0 i0 (some (.int .i64 (0 : Int))) (some (.int .i64 (i0 : Int))) none fun z0 a1 b1 =>
 ixW (slP f0 z0 b1 1) (a1 - z0) (IntKind.i64.wrap ((i0 : Int) - (1 : Int))) 1 fun c1 d1 =>
 pEq h (some ⟨x0, y0, none⟩) (some ⟨c1, d1, none⟩) fun e1 =>
 F200_j14 B R e1 h) ∧
(false = false →
 F200_j14 B R false h))
def F200_L : Nat → List (Nat × TypeDesc) := fun _ => []
theorem F200_ok {B : World} {R : Ending → Heap → Prop} (c0 : OA) (d0 e0 : Nat) (f0 : OA) (g0 i0 : Nat) {h : Heap} (H : F200 B R c0 d0 e0 f0 g0 i0 h) : Ec B 165 #[.slice c0 d0 e0, .slice f0 g0 i0] R h :=
 Ek Tryz.func165 (by kernel_rfl) (by kernel_rfl) (by kernel_rfl) F200_L [] (by kernel_rfl) H

/-- math/bits.TrailingZeros -/
def F193 (B : World) (R : Po) (a0 : Int) (h : Heap) : Prop :=
(false = true →
 Ec B 178 #[.int .u32 (IntKind.u32.wrap a0)] (retE (fun b0 c0 => ∃ d0, b0 = .int .i64 d0 ∧
 R (.returned (.int .i64 d0)) c0)
(pk R)) h) ∧
(false = false →
 Ec B 179 #[.int .u64 a0] (retE (fun e0 f0 => ∃ g0, e0 = .int .i64 g0 ∧
 R (.returned (.int .i64 g0)) f0)
(pk R)) h)
def F193_L : Nat → List (Nat × TypeDesc) := fun _ => []
theorem F193_ok {B : World} {R : Ending → Heap → Prop} (a0 : Int) {h : Heap} (H : F193 B R a0 h) : Ec B 159 #[.int .u64 a0] R h :=
 Ek Tryz.func159 (by kernel_rfl) (by kernel_rfl) (by kernel_rfl) F193_L [] (by kernel_rfl) H

/-- math/bits.TrailingZeros64 -/
def F215 (B : World) (R : Po) (a0 : Int) (h : Heap) : Prop :=
((decide (a0 = (0 : Int))) = true →
 R (.returned (.int .i64 (64 : Int))) h) ∧
((decide (a0 = (0 : Int))) = false →
 0 ≤ (58 : Int) ∧
 ixW (some ⟨3, 0, none⟩) 64 (Int.fdiv (IntKind.u64.wrap ((bitsI .and .u64 a0 (IntKind.u64.wrap (0 - a0))) * (285870213051353865 : Int))) (2 ^ min (Int.toNat (58 : Int)) IntKind.u64.bits)) 1 fun b0 c0 =>
 iP b0 c0 fun d0 e0 => ∃ f0, cI h d0 e0 .u8 f0 ∧
 R (.returned (.int .i64 (IntKind.i64.wrap f0))) h)
def F215_L : Nat → List (Nat × TypeDesc) := fun _ => []
theorem F215_ok {B : World} {R : Ending → Heap → Prop} (a0 : Int) {h : Heap} (H : F215 B R a0 h) : Ec B 179 #[.int .u64 a0] R h :=
 Ek Tryz.func179 (by kernel_rfl) (by kernel_rfl) (by kernel_rfl) F215_L [] (by kernel_rfl) H

/-- math/bits.Len -/
def F205 (B : World) (R : Po) (a0 : Int) (h : Heap) : Prop :=
(false = true →
 Ec B 184 #[.int .u32 (IntKind.u32.wrap a0)] (retE (fun b0 c0 => ∃ d0, b0 = .int .i64 d0 ∧
 R (.returned (.int .i64 d0)) c0)
(pk R)) h) ∧
(false = false →
 Ec B 185 #[.int .u64 a0] (retE (fun e0 f0 => ∃ g0, e0 = .int .i64 g0 ∧
 R (.returned (.int .i64 g0)) f0)
(pk R)) h)
def F205_L : Nat → List (Nat × TypeDesc) := fun _ => []
theorem F205_ok {B : World} {R : Ending → Heap → Prop} (a0 : Int) {h : Heap} (H : F205 B R a0 h) : Ec B 170 #[.int .u64 a0] R h :=
 Ek Tryz.func170 (by kernel_rfl) (by kernel_rfl) (by kernel_rfl) F205_L [] (by kernel_rfl) H

/-- math/bits.Len64 -/
def F221_j10 (B : World) (R : Po) (a0 b0 : Int) (c0 : Heap) : Prop :=
(0 : Int) ≤ (IntKind.u8.wrap a0) ∧ ∃ d0 : UInt8, (⟨#[0, 1, 2, 2, 3, 3, 3, 3, 4, 4, 4, 4, 4, 4, 4, 4, 5, 5, 5, 5, 5, 5, 5, 5, 5, 5, 5, 5, 5, 5, 5, 5, 6, 6, 6, 6, 6, 6, 6, 6, 6, 6, 6, 6, 6, 6, 6, 6, 6, 6, 6, 6, 6, 6, 6, 6, 6, 6, 6, 6, 6, 6, 6, 6, 7, 7, 7, 7, 7, 7, 7, 7, 7, 7, 7, 7, 7, 7, 7, 7, 7, 7, 7, 7, 7, 7, 7, 7, 7, 7, 7, 7, 7, 7, 7, 7, 7, 7, 7, 7, 7, 7, 7, 7, 7, 7, 7, 7, 7, 7, 7, 7, 7, 7, 7, 7, 7, 7, 7, 7, 7, 7, 7, 7, 7, 7, 7, 7, 8, 8, 8, 8, 8, 8, 8, 8, 8, 8, 8, 8, 8, 8, 8, 8, 8, 8, 8, 8, 8, 8, 8, 8, 8, 8, 8, 8, 8, 8, 8, 8, 8, 8, 8, 8, 8, 8, 8, 8, 8, 8, 8, 8, 8, 8, 8, 8, 8, 8, 8, 8, 8, 8, 8, 8, 8, 8, 8, 8, 8, 8, 8, 8, 8, 8, 8, 8, 8, 8, 8, 8, 8, 8, 8, 8, 8, 8, 8, 8, 8, 8, 8, 8, 8, 8, 8, 8, 8, 8, 8, 8, 8, 8, 8, 8, 8, 8, 8, 8, 8, 8, 8, 8, 8, 8, 8, 8, 8, 8, 8, 8, 8, 8, 8, 8, 8, 8, 8, 8, 8, 8, 8, 8, 8, 8, 8, 8]⟩ : ByteArray)[((IntKind.u8.wrap a0)).toNat]? = some d0 ∧
 R (.returned (.int .i64 (IntKind.i64.wrap (b0 + (IntKind.i64.wrap ((d0.toNat : Nat) : Int)))))) c0
def F221_j6 (B : World) (R : Po) (e0 f0 : Int) (g0 : Heap) : Prop :=
((decide ((256 : Int) ≤ e0)) = true →
 0 ≤ (8 : Int) ∧
 F221_j10 B R (Int.fdiv e0 (2 ^ min (Int.toNat (8 : Int)) IntKind.u64.bits)) (IntKind.i64.wrap (f0 + (8 : Int))) g0) ∧
((decide ((256 : Int) ≤ e0)) = false →
 F221_j10 B R e0 f0 g0)
def F221_j2 (B : World) (R : Po) (i0 j0 : Int) (k0 : Heap) : Prop :=
((decide ((65536 : Int) ≤ i0)) = true →
 0 ≤ (16 : Int) ∧
 F221_j6 B R (Int.fdiv i0 (2 ^ min (Int.toNat (16 : Int)) IntKind.u64.bits)) (IntKind.i64.wrap (j0 + (16 : Int))) k0) ∧
((decide ((65536 : Int) ≤ i0)) = false →
 F221_j6 B R i0 j0 k0)
def F221 (B : World) (R : Po) (l0 : Int) (h : Heap) : Prop :=
((decide ((4294967296 : Int) ≤ l0)) = true →
 0 ≤ (32 : Int) ∧
 F221_j2 B R (Int.fdiv l0 (2 ^ min (Int.toNat (32 : Int)) IntKind.u64.bits)) (32 : Int) h) ∧
((decide ((4294967296 : Int) ≤ l0)) = false →
 F221_j2 B R l0 (0 : Int) h)
def F221_L : Nat → List (Nat × TypeDesc) := fun _ => []
theorem F221_ok {B : World} {R : Ending → Heap → Prop} (l0 : Int) {h : Heap} (H : F221 B R l0 h) : Ec B 185 #[.int .u64 l0] R h :=
 Ek Tryz.func185 (by kernel_rfl) (by kernel_rfl) (by kernel_rfl) F221_L [] (by kernel_rfl) H

/-- math/bits.Mul -/
def F240 (B : World) (R : Po) (a0 b0 : Int) (h : Heap) : Prop :=
(false = true →
 Ec B 234 #[.int .u32 (IntKind.u32.wrap a0), .int .u32 (IntKind.u32.wrap b0)] (retE (fun c0 d0 => ∃ e0 f0, c0 = .tuple #[.int .u32 e0, .int .u32 f0] ∧
 R (.returned (.tuple #[.int .u64 (IntKind.u64.wrap e0), .int .u64 (IntKind.u64.wrap f0)])) d0)
(pk R)) h) ∧
(false = false →
 Ec B 235 #[.int .u64 a0, .int .u64 b0] (retE (fun g0 i0 => ∃ j0 k0, g0 = .tuple #[.int .u64 j0, .int .u64 k0] ∧
 R (.returned (.tuple #[.int .u64 j0, .int .u64 k0])) i0)
(pk R)) h)
def F240_L : Nat → List (Nat × TypeDesc) := fun _ => []
theorem F240_ok {B : World} {R : Ending → Heap → Prop} (a0 b0 : Int) {h : Heap} (H : F240 B R a0 b0 h) : Ec B 210 #[.int .u64 a0, .int .u64 b0] R h :=
 Ek Tryz.func210 (by kernel_rfl) (by kernel_rfl) (by kernel_rfl) F240_L [] (by kernel_rfl) H

/-- math/bits.Mul64 -/
def F260 (B : World) (R : Po) (a0 b0 : Int) (h : Heap) : Prop :=
  0 ≤ (32 : Int) ∧
0 ≤ (32 : Int) ∧
0 ≤ (32 : Int) ∧
0 ≤ (32 : Int) ∧
0 ≤ (32 : Int) ∧
 R (.returned (.tuple #[.int .u64 (IntKind.u64.wrap ((IntKind.u64.wrap ((IntKind.u64.wrap ((Int.fdiv a0 (2 ^ min (Int.toNat (32 : Int)) IntKind.u64.bits)) * (Int.fdiv b0 (2 ^ min (Int.toNat (32 : Int)) IntKind.u64.bits)))) + (Int.fdiv (IntKind.u64.wrap ((IntKind.u64.wrap ((Int.fdiv a0 (2 ^ min (Int.toNat (32 : Int)) IntKind.u64.bits)) * (bitsI .and .u64 b0 (4294967295 : Int)))) + (Int.fdiv (IntKind.u64.wrap ((bitsI .and .u64 a0 (4294967295 : Int)) * (bitsI .and .u64 b0 (4294967295 : Int)))) (2 ^ min (Int.toNat (32 : Int)) IntKind.u64.bits)))) (2 ^ min (Int.toNat (32 : Int)) IntKind.u64.bits)))) + (Int.fdiv (IntKind.u64.wrap ((bitsI .and .u64 (IntKind.u64.wrap ((IntKind.u64.wrap ((Int.fdiv a0 (2 ^ min (Int.toNat (32 : Int)) IntKind.u64.bits)) * (bitsI .and .u64 b0 (4294967295 : Int)))) + (Int.fdiv (IntKind.u64.wrap ((bitsI .and .u64 a0 (4294967295 : Int)) * (bitsI .and .u64 b0 (4294967295 : Int)))) (2 ^ min (Int.toNat (32 : Int)) IntKind.u64.bits)))) (4294967295 : Int)) + (IntKind.u64.wrap ((bitsI .and .u64 a0 (4294967295 : Int)) * (Int.fdiv b0 (2 ^ min (Int.toNat (32 : Int)) IntKind.u64.bits)))))) (2 ^ min (Int.toNat (32 : Int)) IntKind.u64.bits)))), .int .u64 (IntKind.u64.wrap (a0 * b0))])) h
def F260_L : Nat → List (Nat × TypeDesc) := fun _ => []
theorem F260_ok {B : World} {R : Ending → Heap → Prop} (a0 b0 : Int) {h : Heap} (H : F260 B R a0 b0 h) : Ec B 235 #[.int .u64 a0, .int .u64 b0] R h :=
 Ek Tryz.func235 (by kernel_rfl) (by kernel_rfl) (by kernel_rfl) F260_L [] (by kernel_rfl) H

/-- math/big.mulAddWWW_g -/
def F242 (B : World) (R : Po) (a0 b0 c0 : Int) (h : Heap) : Prop :=
 Ec B 210 #[.int .u64 a0, .int .u64 b0] (retE (fun d0 e0 => ∃ f0 g0, d0 = .tuple #[.int .u64 f0, .int .u64 g0] ∧
 Ec B 169 #[.int .u64 g0, .int .u64 c0, .int .u64 (0 : Int)] (retE (fun i0 j0 => ∃ k0 l0, i0 = .tuple #[.int .u64 k0, .int .u64 l0] ∧
 R (.returned (.tuple #[.int .u64 (IntKind.u64.wrap (f0 + l0)), .int .u64 k0])) j0)
(pk R)) e0)
(pk R)) h
def F242_L : Nat → List (Nat × TypeDesc) := fun _ => []
theorem F242_ok {B : World} {R : Ending → Heap → Prop} (a0 b0 c0 : Int) {h : Heap} (H : F242 B R a0 b0 c0 h) : Ec B 212 #[.int .u64 a0, .int .u64 b0, .int .u64 c0] R h :=
 Ek Tryz.func212 (by kernel_rfl) (by kernel_rfl) (by kernel_rfl) F242_L [] (by kernel_rfl) H

/-- (math/big.nat).mulAddWW -/
def F228_j5 (B : World) (R : Po) (a0 : OA) (b0 c0 : Nat) (d0 : OA) (e0 f0 : Nat) (g0 i0 j0 : Int) (k0 : Bool) (l0 : Heap) : Prop :=
(k0 = true →
 Ec B 216 #[.slice a0 b0 c0, .int .u64 i0] (retE (fun m0 n0 => ∃ o0 p0 q0, m0 = .slice o0 p0 q0 ∧
 R (.returned (.slice o0 p0 q0)) n0)
(pk R)) l0) ∧
(k0 = false →
 Ec B 152 #[.slice a0 b0 c0, .int .i64 (IntKind.i64.wrap (j0 + (1 : Int)))] (retE (fun r0 s0 => ∃ t0 u0 v0, r0 = .slice t0 u0 v0 ∧
 slW u0 v0 (some (.int .i64 (0 : Int))) (some (.int .i64 j0)) none fun w0 x0 y0 =>
 Ec B 217 #[.slice (slP t0 w0 y0 1) (x0 - w0) (y0 - w0), .slice d0 e0 f0, .int .u64 g0, .int .u64 i0] (retE (fun z0 a1 => ∃ b1, z0 = .int .u64 b1 ∧
 ixW t0 u0 j0 1 fun c1 d1 =>
 iP c1 d1 fun e1 f1 => stC a1 e1 f1 (.int .u64 b1) fun g1 =>
 Ec B 162 #[.slice t0 u0 v0] (retE (fun i1 j1 => ∃ k1 l1 m1, i1 = .slice k1 l1 m1 ∧
 R (.returned (.slice k1 l1 m1)) j1)
(pk R)) g1)
(pk R)) s0)
(pk R)) l0)
def F228 (B : World) (R : Po) (n1 : OA) (o1 p1 : Nat) (q1 : OA) (r1 s1 : Nat) (t1 u1 : Int) (h : Heap) : Prop :=
((decide ((r1 : Int) = (0 : Int))) = true →
 F228_j5 B R n1 o1 p1 q1 r1 s1 t1 u1 (r1 : Int) true h) ∧
((decide ((r1 : Int) = (0 : Int))) = false →
 F228_j5 B R n1 o1 p1 q1 r1 s1 t1 u1 (r1 : Int) (decide (t1 = (0 : Int))) h)
def F228_L : Nat → List (Nat × TypeDesc) := fun _ => []
theorem F228_ok {B : World} {R : Ending → Heap → Prop} (n1 : OA) (o1 p1 : Nat) (q1 : OA) (r1 s1 : Nat) (t1 u1 : Int) {h : Heap} (H : F228 B R n1 o1 p1 q1 r1 s1 t1 u1 h) : Ec B 196 #[.slice n1 o1 p1, .slice q1 r1 s1, .int .u64 t1, .int .u64 u1] R h :=
 Ek Tryz.func196 (by kernel_rfl) (by kernel_rfl) (by kernel_rfl) F228_L [] (by kernel_rfl) H

/-- math/big.low64 -/
def F171_j7 (B : World) (R : Po) (a0 : OA) (b0 c0 : Nat) (d0 : Int) (e0 : Bool) (f0 : Heap) : Prop :=
(e0 = true →
 ixW a0 b0 (1 : Int) 1 fun g0 i0 =>
 iP g0 i0 fun j0 k0 => ∃ l0, cI f0 j0 k0 .u64 l0 ∧
0 ≤ (32 : Int) ∧
 R (.returned (.int .u64 (bitsI .or .u64 (IntKind.u64.wrap (l0 * 2 ^ min (Int.toNat (32 : Int)) IntKind.u64.bits)) d0))) f0) ∧
(e0 = false →
 R (.returned (.int .u64 d0)) f0)
def F171 (B : World) (R : Po) (m0 : OA) (n0 o0 : Nat) (h : Heap) : Prop :=
((decide ((n0 : Int) = (0 : Int))) = true →
 R (.returned (.int .u64 (0 : Int))) h) ∧
((decide ((n0 : Int) = (0 : Int))) = false →
 ixW m0 n0 (0 : Int) 1 fun p0 q0 =>
 iP p0 q0 fun r0 s0 => ∃ t0, cI h r0 s0 .u64 t0 ∧
(false = true →
 F171_j7 B R m0 n0 o0 t0 (decide ((1 : Int) < (n0 : Int))) h) ∧
(false = false →
 F171_j7 B R m0 n0 o0 t0 false h))
def F171_L : Nat → List (Nat × TypeDesc) := fun _ => []
theorem F171_ok {B : World} {R : Ending → Heap → Prop} (m0 : OA) (n0 o0 : Nat) {h : Heap} (H : F171 B R m0 n0 o0 h) : Ec B 139 #[.slice m0 n0 o0] R h :=
 Ek Tryz.func139 (by kernel_rfl) (by kernel_rfl) (by kernel_rfl) F171_L [] (by kernel_rfl) H

/-- (math/big.nat).mul -/
def F208_j44 (B : World) (R : Po) (a0 : OA) (b0 c0 : Nat) (d0 : OA) (e0 f0 : Nat) (g0 : OA) (i0 j0 : Nat) (k0 l0 : Int) (m0 : Heap) : Prop :=
 Ec B 152 #[.slice a0 b0 c0, .int .i64 (IntKind.i64.wrap (k0 + l0))] (retE (fun n0 o0 => ∃ p0 q0 r0, n0 = .slice p0 q0 r0 ∧
 iP 6 0 fun s0 t0 => ∃ u0, cI o0 s0 t0 .i64 u0 ∧
((decide (l0 < u0)) = true →
 Ec B 191 #[.slice p0 q0 r0, .slice d0 e0 f0, .slice g0 i0 j0] (retE (fun v0 w0 => v0 = .tuple #[] ∧
 Ec B 162 #[.slice p0 q0 r0] (retE (fun x0 y0 => ∃ z0 a1 b1, x0 = .slice z0 a1 b1 ∧
 R (.returned (.slice z0 a1 b1)) y0)
(pk R)) w0)
(pk R)) o0) ∧
((decide (l0 < u0)) = false →
 False))
(pk R)) m0
def F208_j36 (B : World) (R : Po) (c1 : OA) (d1 e1 : Nat) (f1 : OA) (g1 i1 : Nat) (j1 : OA) (k1 l1 : Nat) (m1 n1 : Int) (o1 : Bool) (p1 : Heap) : Prop :=
(o1 = true →
 F208_j44 B R none 0 0 f1 g1 i1 j1 k1 l1 m1 n1 p1) ∧
(o1 = false →
 F208_j44 B R c1 d1 e1 f1 g1 i1 j1 k1 l1 m1 n1 p1)
def F208_j10 (B : World) (R : Po) (q1 : OA) (r1 s1 : Nat) (t1 : OA) (u1 v1 : Nat) (w1 : OA) (x1 y1 : Nat) (z1 a2 : Int) (b2 : Bool) (c2 : Heap) : Prop :=
(b2 = true →
 slW r1 s1 none (some (.int .i64 (0 : Int))) none fun d2 e2 f2 =>
 R (.returned (.slice (slP q1 d2 f2 1) (e2 - d2) (f2 - d2))) c2) ∧
(b2 = false →
((decide (a2 = (1 : Int))) = true →
 ixW w1 x1 (0 : Int) 1 fun g2 i2 =>
 iP g2 i2 fun j2 k2 => ∃ l2, cI c2 j2 k2 .u64 l2 ∧
 Ec B 196 #[.slice q1 r1 s1, .slice t1 u1 v1, .int .u64 l2, .int .u64 (0 : Int)] (retE (fun m2 n2 => ∃ o2 p2 q2, m2 = .slice o2 p2 q2 ∧
 R (.returned (.slice o2 p2 q2)) n2)
(pk R)) c2) ∧
((decide (a2 = (1 : Int))) = false →
 Ec B 165 #[.slice q1 r1 s1, .slice t1 u1 v1] (retE (fun r2 s2 => ∃ t2, r2 = .bool t2 ∧
(t2 = true →
 F208_j36 B R q1 r1 s1 t1 u1 v1 w1 x1 y1 z1 a2 true s2) ∧
(t2 = false →
 Ec B 165 #[.slice q1 r1 s1, .slice w1 x1 y1] (retE (fun u2 v2 => ∃ w2, u2 = .bool w2 ∧
 F208_j36 B R q1 r1 s1 t1 u1 v1 w1 x1 y1 z1 a2 w2 v2)
(pk R)) s2))
(pk R)) c2))
def F208 (B : World) (R : Po) (x2 : OA) (y2 z2 : Nat) (a3 b3 : OA) (c3 d3 : Nat) (e3 : OA) (f3 g3 : Nat) (h : Heap) : Prop :=
((decide ((c3 : Int) < (f3 : Int))) = true →
 Ec B 188 #[.slice x2 y2 z2, .pointer a3, .slice e3 f3 g3, .slice b3 c3 d3] (retE (fun i3 j3 => ∃ k3 l3 m3, i3 = .slice k3 l3 m3 ∧
 R (.returned (.slice k3 l3 m3)) j3)
(pk R)) h) ∧
((decide ((c3 : Int) < (f3 : Int))) = false →
((decide ((c3 : Int) = (0 : Int))) = true →
 F208_j10 B R x2 y2 z2 b3 c3 d3 e3 f3 g3 (c3 : Int) (f3 : Int) true h) ∧
((decide ((c3 : Int) = (0 : Int))) = false →
 F208_j10 B R x2 y2 z2 b3 c3 d3 e3 f3 g3 (c3 : Int) (f3 : Int) (decide ((f3 : Int) = (0 : Int))) h))
def F208_L : Nat → List (Nat × TypeDesc) := fun _ => []
theorem F208_ok {B : World} {R : Ending → Heap → Prop} (x2 : OA) (y2 z2 : Nat) (a3 b3 : OA) (c3 d3 : Nat) (e3 : OA) (f3 g3 : Nat) {h : Heap} (H : F208 B R x2 y2 z2 a3 b3 c3 d3 e3 f3 g3 h) : Ec B 188 #[.slice x2 y2 z2, .pointer a3, .slice b3 c3 d3, .slice e3 f3 g3] R h :=
 Ek Tryz.func188 (by kernel_rfl) (by kernel_rfl) (by kernel_rfl) F208_L [15, 16, 17, 18, 19, 20, 21, 22, 23, 24, 25, 26, 27, 28] (by kernel_rfl) H

/-- (*math/big.Int).Neg -/
def F74_j29 (B : World) (R : Po) (a0 : OA) (b0 : Heap) : Prop :=
 R (.returned (.pointer a0)) b0
def F74 (B : World) (R : Po) (c0 d0 : OA) (h : Heap) : Prop :=
 Ec B 98 #[.pointer c0, .pointer d0] (retE (fun e0 f0 => ∃ g0, e0 = .pointer g0 ∧
 isP c0 fun i0 j0 =>
 iP i0 j0 fun k0 l0 =>
 isP (some ⟨k0, l0 + 1, none⟩) fun m0 n0 => ∃ o0 p0 q0, cS f0 m0 n0 o0 p0 q0 ∧
((decide ((0 : Int) < (p0 : Int))) = true →
 isP c0 fun r0 s0 =>
 iP r0 s0 fun t0 u0 =>
 iP t0 u0 fun v0 w0 => ∃ x0, cell? f0 ⟨v0, w0, none⟩ = some (.bool x0) ∧
 isP c0 fun y0 z0 =>
 iP y0 z0 fun a1 b1 =>
 iP a1 b1 fun c1 d1 => stC f0 c1 d1 (.bool (!x0)) fun e1 =>
 F74_j29 B R c0 e1) ∧
((decide ((0 : Int) < (p0 : Int))) = false →
 isP c0 fun f1 g1 =>
 iP f1 g1 fun i1 j1 =>
 iP i1 j1 fun k1 l1 => stC f0 k1 l1 (.bool false) fun m1 =>
 F74_j29 B R c0 m1))
(pk R)) h
def F74_L : Nat → List (Nat × TypeDesc) := fun _ => []
theorem F74_ok {B : World} {R : Ending → Heap → Prop} (c0 d0 : OA) {h : Heap} (H : F74 B R c0 d0 h) : Ec B 55 #[.pointer c0, .pointer d0] R h :=
 Ek Tryz.func55 (by kernel_rfl) (by kernel_rfl) (by kernel_rfl) F74_L [] (by kernel_rfl) H

/-- (*math/big.Int).Sign -/
def F75 (B : World) (R : Po) (a0 : OA) (h : Heap) : Prop :=
 isP a0 fun b0 c0 =>
 iP b0 c0 fun d0 e0 =>
 isP (some ⟨d0, e0 + 1, none⟩) fun f0 g0 => ∃ i0 j0 k0, cS h f0 g0 i0 j0 k0 ∧
((decide ((j0 : Int) = (0 : Int))) = true →
 R (.returned (.int .i64 (0 : Int))) h) ∧
((decide ((j0 : Int) = (0 : Int))) = false →
 isP a0 fun l0 m0 =>
 iP l0 m0 fun n0 o0 =>
 iP n0 o0 fun p0 q0 => ∃ r0, cell? h ⟨p0, q0, none⟩ = some (.bool r0) ∧
(r0 = true →
 R (.returned (.int .i64 (-1 : Int))) h) ∧
(r0 = false →
 R (.returned (.int .i64 (1 : Int))) h))
def F75_L : Nat → List (Nat × TypeDesc) := fun _ => []
theorem F75_ok {B : World} {R : Ending → Heap → Prop} (a0 : OA) {h : Heap} (H : F75 B R a0 h) : Ec B 86 #[.pointer a0] R h :=
 Ek Tryz.func86 (by kernel_rfl) (by kernel_rfl) (by kernel_rfl) F75_L [] (by kernel_rfl) H

/-- math/big.NewInt -/
def F120_j6 (B : World) (R : Po) (a0 : Int) (b0 : OA) (c0 d0 : Nat) (e0 : Heap) : Prop :=
 alW e0 (.cells #[.bool (decide (a0 < (0 : Int))), .slice b0 c0 d0] 148) fun f0 g0 =>
 R (.returned (.pointer (some ⟨f0, 0, none⟩))) g0
def F120_j19 (B : World) (R : Po) (i0 : Int) (j0 : OA) (k0 l0 : Nat) (m0 : Heap) : Prop :=
 F120_j6 B R i0 j0 k0 l0 m0
def F120_j12 (B : World) (R : Po) (n0 o0 : Int) (p0 : Bool) (q0 : Heap) : Prop :=
(p0 = true →
 0 ≤ (32 : Int) ∧
 alW q0 (.cells #[.int .u64 o0, .int .u64 (Int.fdiv o0 (2 ^ min (Int.toNat (32 : Int)) IntKind.u64.bits))] 171) fun r0 s0 =>
 F120_j19 B R n0 (some ⟨r0, 0, none⟩) 2 2 s0) ∧
(p0 = false →
 alW q0 (.cells #[.int .u64 o0] 171) fun t0 u0 =>
 F120_j19 B R n0 (some ⟨t0, 0, none⟩) 1 1 u0)
def F120_j2 (B : World) (R : Po) (v0 w0 : Int) (x0 : Heap) : Prop :=
((decide (v0 = (0 : Int))) = true →
 F120_j6 B R v0 none 0 0 x0) ∧
((decide (v0 = (0 : Int))) = false →
(false = true →
 0 ≤ (32 : Int) ∧
 F120_j12 B R v0 w0 (!decide ((Int.fdiv w0 (2 ^ min (Int.toNat (32 : Int)) IntKind.u64.bits)) = (0 : Int))) x0) ∧
(false = false →
 F120_j12 B R v0 w0 false x0))
def F120 (B : World) (R : Po) (y0 : Int) (h : Heap) : Prop :=
((decide (y0 < (0 : Int))) = true →
 F120_j2 B R y0 (IntKind.u64.wrap (0 - (IntKind.u64.wrap y0))) h) ∧
((decide (y0 < (0 : Int))) = false →
 F120_j2 B R y0 (IntKind.u64.wrap y0) h)
def F120_L : Nat → List (Nat × TypeDesc) := fun _ => []
theorem F120_ok {B : World} {R : Ending → Heap → Prop} (y0 : Int) {h : Heap} (H : F120 B R y0 h) : Ec B 90 #[.int .i64 y0] R h :=
 Ek Tryz.func90 (by kernel_rfl) (by kernel_rfl) (by kernel_rfl) F120_L [] (by kernel_rfl) H

/-- (*math/big.Int).TrailingZeroBits -/
def F121 (B : World) (R : Po) (a0 : OA) (h : Heap) : Prop :=
 isP a0 fun b0 c0 =>
 iP b0 c0 fun d0 e0 =>
 isP (some ⟨d0, e0 + 1, none⟩) fun f0 g0 => ∃ i0 j0 k0, cS h f0 g0 i0 j0 k0 ∧
 Ec B 131 #[.slice i0 j0 k0] (retE (fun l0 m0 => ∃ n0, l0 = .int .u64 n0 ∧
 R (.returned (.int .u64 n0)) m0)
(pk R)) h
def F121_L : Nat → List (Nat × TypeDesc) := fun _ => []
theorem F121_ok {B : World} {R : Ending → Heap → Prop} (a0 : OA) {h : Heap} (H : F121 B R a0 h) : Ec B 99 #[.pointer a0] R h :=
 Ek Tryz.func99 (by kernel_rfl) (by kernel_rfl) (by kernel_rfl) F121_L [] (by kernel_rfl) H

/-- (*math/big.Int).Rsh -/
def F122_j33 (B : World) (R : Po) (a0 : OA) (b0 : Int) (c0 : OA) (d0 e0 : Nat) (f0 : Heap) : Prop :=
 Ec B 133 #[.slice c0 d0 e0, .slice c0 d0 e0, .int .u64 b0] (retE (fun g0 i0 => ∃ j0 k0 l0, g0 = .slice j0 k0 l0 ∧
 iP 1 0 fun m0 n0 => ∃ o0 p0 q0, cS i0 m0 n0 o0 p0 q0 ∧
 Ec B 134 #[.slice j0 k0 l0, .slice j0 k0 l0, .slice o0 p0 q0] (retE (fun r0 s0 => ∃ t0 u0 v0, r0 = .slice t0 u0 v0 ∧
 isP a0 fun w0 x0 =>
 iP w0 x0 fun y0 z0 =>
 isP (some ⟨y0, z0 + 1, none⟩) fun a1 b1 => stC s0 a1 b1 (.slice t0 u0 v0) fun c1 =>
 isP a0 fun d1 e1 =>
 iP d1 e1 fun f1 g1 =>
 iP f1 g1 fun i1 j1 => stC c1 i1 j1 (.bool true) fun k1 =>
 R (.returned (.pointer a0)) k1)
(pk R)) i0)
(pk R)) f0
def F122_j91 (B : World) (R : Po) (l1 : OA) (m1 : Heap) : Prop :=
 isP l1 fun n1 o1 =>
 iP n1 o1 fun p1 q1 =>
 iP p1 q1 fun r1 s1 => stC m1 r1 s1 (.bool false) fun t1 =>
 R (.returned (.pointer l1)) t1
def F122 (B : World) (R : Po) (u1 v1 : OA) (w1 : Int) (h : Heap) : Prop :=
 isP v1 fun x1 y1 =>
 iP x1 y1 fun z1 a2 =>
 iP z1 a2 fun b2 c2 => ∃ d2, cell? h ⟨b2, c2, none⟩ = some (.bool d2) ∧
(d2 = true →
 isP u1 fun e2 f2 =>
 iP e2 f2 fun g2 i2 =>
 isP (some ⟨g2, i2 + 1, none⟩) fun j2 k2 => ∃ l2 m2 n2, cS h j2 k2 l2 m2 n2 ∧
 isP v1 fun o2 p2 =>
 iP o2 p2 fun q2 r2 =>
 isP (some ⟨q2, r2 + 1, none⟩) fun s2 t2 => ∃ u2 v2 w2, cS h s2 t2 u2 v2 w2 ∧
 iP 1 0 fun x2 y2 => ∃ z2 a3 b3, cS h x2 y2 z2 a3 b3 ∧
 Ec B 132 #[.slice l2 m2 n2, .slice u2 v2 w2, .slice z2 a3 b3] (retE (fun c3 d3 => ∃ e3 f3 g3, c3 = .slice e3 f3 g3 ∧
 F122_j33 B R u1 w1 e3 f3 g3 d3)
(fun _ _ => False)) h) ∧
(d2 = false →
 isP u1 fun i3 j3 =>
 iP i3 j3 fun k3 l3 =>
 isP (some ⟨k3, l3 + 1, none⟩) fun m3 n3 => ∃ o3 p3 q3, cS h m3 n3 o3 p3 q3 ∧
 isP v1 fun r3 s3 =>
 iP r3 s3 fun t3 u3 =>
 isP (some ⟨t3, u3 + 1, none⟩) fun v3 w3 => ∃ x3 y3 z3, cS h v3 w3 x3 y3 z3 ∧
 Ec B 133 #[.slice o3 p3 q3, .slice x3 y3 z3, .int .u64 w1] (retE (fun a4 b4 => ∃ c4 d4 e4, a4 = .slice c4 d4 e4 ∧
 isP u1 fun f4 g4 =>
 iP f4 g4 fun i4 j4 =>
 isP (some ⟨i4, j4 + 1, none⟩) fun k4 l4 => stC b4 k4 l4 (.slice c4 d4 e4) fun m4 =>
 F122_j91 B R u1 m4)
(fun _ _ => False)) h)
def F122_L : Nat → List (Nat × TypeDesc) := fun _ => []
theorem F122_ok {B : World} {R : Ending → Heap → Prop} (u1 v1 : OA) (w1 : Int) {h : Heap} (H : F122 B R u1 v1 w1 h) : Ec B 100 #[.pointer u1, .pointer v1, .int .u64 w1] R h :=
 Ek Tryz.func100 (by kernel_rfl) (by kernel_rfl) (by kernel_rfl) F122_L [] (by kernel_rfl) H

/-- (*math/big.Int).Abs -/
def F123 (B : World) (R : Po) (a0 b0 : OA) (h : Heap) : Prop :=
 Ec B 98 #[.pointer a0, .pointer b0] (retE (fun c0 d0 => ∃ e0, c0 = .pointer e0 ∧
 isP a0 fun f0 g0 =>
 iP f0 g0 fun i0 j0 =>
 iP i0 j0 fun k0 l0 => stC d0 k0 l0 (.bool false) fun m0 =>
 R (.returned (.pointer a0)) m0)
(pk R)) h
def F123_L : Nat → List (Nat × TypeDesc) := fun _ => []
theorem F123_ok {B : World} {R : Ending → Heap → Prop} (a0 b0 : OA) {h : Heap} (H : F123 B R a0 b0 h) : Ec B 101 #[.pointer a0, .pointer b0] R h :=
 Ek Tryz.func101 (by kernel_rfl) (by kernel_rfl) (by kernel_rfl) F123_L [] (by kernel_rfl) H

/-- (*math/big.Int).BitLen -/
def F124 (B : World) (R : Po) (a0 : OA) (h : Heap) : Prop :=
 isP a0 fun b0 c0 =>
 iP b0 c0 fun d0 e0 =>
 isP (some ⟨d0, e0 + 1, none⟩) fun f0 g0 => ∃ i0 j0 k0, cS h f0 g0 i0 j0 k0 ∧
 Ec B 135 #[.slice i0 j0 k0] (retE (fun l0 m0 => ∃ n0, l0 = .int .i64 n0 ∧
 R (.returned (.int .i64 n0)) m0)
(pk R)) h
def F124_L : Nat → List (Nat × TypeDesc) := fun _ => []
theorem F124_ok {B : World} {R : Ending → Heap → Prop} (a0 : OA) {h : Heap} (H : F124 B R a0 h) : Ec B 102 #[.pointer a0] R h :=
 Ek Tryz.func102 (by kernel_rfl) (by kernel_rfl) (by kernel_rfl) F124_L [] (by kernel_rfl) H

/-- (*math/big.Int).And -/
def F125_j105 (B : World) (R : Po) (a0 : OA) (b0 : Heap) : Prop :=
 isP a0 fun c0 d0 =>
 iP c0 d0 fun e0 f0 =>
 iP e0 f0 fun g0 i0 => stC b0 g0 i0 (.bool true) fun j0 =>
 R (.returned (.pointer a0)) j0
def F125_j66 (B : World) (R : Po) (k0 l0 : OA) (m0 n0 : Nat) (o0 : OA) (p0 q0 : Nat) (r0 : Heap) : Prop :=
 isP k0 fun s0 t0 =>
 iP s0 t0 fun u0 v0 =>
 isP (some ⟨u0, v0 + 1, none⟩) fun w0 x0 => ∃ y0 z0 a1, cS r0 w0 x0 y0 z0 a1 ∧
 isP k0 fun b1 c1 =>
 iP b1 c1 fun d1 e1 =>
 isP (some ⟨d1, e1 + 1, none⟩) fun f1 g1 => ∃ i1 j1 k1, cS r0 f1 g1 i1 j1 k1 ∧
 iP 1 0 fun l1 m1 => ∃ n1 o1 p1, cS r0 l1 m1 n1 o1 p1 ∧
 Ec B 136 #[.slice i1 j1 k1, .slice l0 m0 n0, .slice o0 p0 q0] (retE (fun q1 r1 => ∃ s1 t1 u1, q1 = .slice s1 t1 u1 ∧
 sameCells r0 r1 l1 m1 1 ∧ sameCells r0 r1 w0 x0 1 ∧ Ec B 134 #[.slice y0 z0 a1, .slice s1 t1 u1, .slice n1 o1 p1] (retE (fun v1 w1 => ∃ x1 y1 z1, v1 = .slice x1 y1 z1 ∧
 isP k0 fun a2 b2 =>
 iP a2 b2 fun c2 d2 =>
 isP (some ⟨c2, d2 + 1, none⟩) fun e2 f2 => stC w1 e2 f2 (.slice x1 y1 z1) fun g2 =>
 F125_j105 B R k0 g2)
(fun _ _ => False)) r1)
(fun _ _ => False)) r0
def F125_j46 (B : World) (R : Po) (i2 j2 k2 : OA) (l2 m2 : Nat) (n2 : Heap) : Prop :=
 isP j2 fun o2 p2 =>
 iP o2 p2 fun q2 r2 =>
 isP (some ⟨q2, r2 + 1, none⟩) fun s2 t2 => ∃ u2 v2 w2, cS n2 s2 t2 u2 v2 w2 ∧
 iP 1 0 fun x2 y2 => ∃ z2 a3 b3, cS n2 x2 y2 z2 a3 b3 ∧
 Ec B 132 #[.slice none 0 0, .slice u2 v2 w2, .slice z2 a3 b3] (retE (fun c3 d3 => ∃ e3 f3 g3, c3 = .slice e3 f3 g3 ∧
 F125_j66 B R i2 k2 l2 m2 e3 f3 g3 d3)
(fun _ _ => False)) n2
def F125_j148 (B : World) (R : Po) (i3 : OA) (j3 : Heap) : Prop :=
 isP i3 fun k3 l3 =>
 iP k3 l3 fun m3 n3 =>
 iP m3 n3 fun o3 p3 => stC j3 o3 p3 (.bool false) fun q3 =>
 R (.returned (.pointer i3)) q3
def F125_j216 (B : World) (R : Po) (r3 : OA) (s3 : Heap) : Prop :=
 isP r3 fun t3 u3 =>
 iP t3 u3 fun v3 w3 =>
 iP v3 w3 fun x3 y3 => stC s3 x3 y3 (.bool false) fun z3 =>
 R (.returned (.pointer r3)) z3
def F125_j185 (B : World) (R : Po) (a4 b4 c4 : OA) (d4 e4 : Nat) (f4 : Heap) : Prop :=
 isP a4 fun g4 i4 =>
 iP g4 i4 fun j4 k4 =>
 isP (some ⟨j4, k4 + 1, none⟩) fun l4 m4 => ∃ n4 o4 p4, cS f4 l4 m4 n4 o4 p4 ∧
 isP b4 fun q4 r4 =>
 iP q4 r4 fun s4 t4 =>
 isP (some ⟨s4, t4 + 1, none⟩) fun u4 v4 => ∃ w4 x4 y4, cS f4 u4 v4 w4 x4 y4 ∧
 Ec B 138 #[.slice n4 o4 p4, .slice w4 x4 y4, .slice c4 d4 e4] (retE (fun z4 a5 => ∃ b5 c5 d5, z4 = .slice b5 c5 d5 ∧
 isP a4 fun e5 f5 =>
 iP e5 f5 fun g5 i5 =>
 isP (some ⟨g5, i5 + 1, none⟩) fun j5 k5 => stC a5 j5 k5 (.slice b5 c5 d5) fun l5 =>
 F125_j216 B R a4 l5)
(fun _ _ => False)) f4
def F125_j165 (B : World) (R : Po) (m5 n5 o5 : OA) (p5 : Heap) : Prop :=
 isP o5 fun q5 r5 =>
 iP q5 r5 fun s5 t5 =>
 isP (some ⟨s5, t5 + 1, none⟩) fun u5 v5 => ∃ w5 x5 y5, cS p5 u5 v5 w5 x5 y5 ∧
 iP 1 0 fun z5 a6 => ∃ b6 c6 d6, cS p5 z5 a6 b6 c6 d6 ∧
 Ec B 132 #[.slice none 0 0, .slice w5 x5 y5, .slice b6 c6 d6] (retE (fun e6 f6 => ∃ g6 i6 j6, e6 = .slice g6 i6 j6 ∧
 F125_j185 B R m5 n5 g6 i6 j6 f6)
(fun _ _ => False)) p5
def F125_j18 (B : World) (R : Po) (k6 l6 m6 : OA) (n6 : Bool) (o6 : Heap) : Prop :=
(n6 = true →
 isP l6 fun p6 q6 =>
 iP p6 q6 fun r6 s6 =>
 iP r6 s6 fun t6 u6 => ∃ v6, cell? o6 ⟨t6, u6, none⟩ = some (.bool v6) ∧
(v6 = true →
 isP l6 fun w6 x6 =>
 iP w6 x6 fun y6 z6 =>
 isP (some ⟨y6, z6 + 1, none⟩) fun a7 b7 => ∃ c7 d7 e7, cS o6 a7 b7 c7 d7 e7 ∧
 iP 1 0 fun f7 g7 => ∃ i7 j7 k7, cS o6 f7 g7 i7 j7 k7 ∧
 Ec B 132 #[.slice none 0 0, .slice c7 d7 e7, .slice i7 j7 k7] (retE (fun l7 m7 => ∃ n7 o7 p7, l7 = .slice n7 o7 p7 ∧
 F125_j46 B R k6 m6 n7 o7 p7 m7)
(fun _ _ => False)) o6) ∧
(v6 = false →
 isP k6 fun q7 r7 =>
 iP q7 r7 fun s7 t7 =>
 isP (some ⟨s7, t7 + 1, none⟩) fun u7 v7 => ∃ w7 x7 y7, cS o6 u7 v7 w7 x7 y7 ∧
 isP l6 fun z7 a8 =>
 iP z7 a8 fun b8 c8 =>
 isP (some ⟨b8, c8 + 1, none⟩) fun d8 e8 => ∃ f8 g8 i8, cS o6 d8 e8 f8 g8 i8 ∧
 isP m6 fun j8 k8 =>
 iP j8 k8 fun l8 m8 =>
 isP (some ⟨l8, m8 + 1, none⟩) fun n8 o8 => ∃ p8 q8 r8, cS o6 n8 o8 p8 q8 r8 ∧
 Ec B 137 #[.slice w7 x7 y7, .slice f8 g8 i8, .slice p8 q8 r8] (retE (fun s8 t8 => ∃ u8 v8 w8, s8 = .slice u8 v8 w8 ∧
 isP k6 fun x8 y8 =>
 iP x8 y8 fun z8 a9 =>
 isP (some ⟨z8, a9 + 1, none⟩) fun b9 c9 => stC t8 b9 c9 (.slice u8 v8 w8) fun d9 =>
 F125_j148 B R k6 d9)
(fun _ _ => False)) o6)) ∧
(n6 = false →
 isP l6 fun e9 f9 =>
 iP e9 f9 fun g9 i9 =>
 iP g9 i9 fun j9 k9 => ∃ l9, cell? o6 ⟨j9, k9, none⟩ = some (.bool l9) ∧
(l9 = true →
 F125_j165 B R k6 m6 l6 o6) ∧
(l9 = false →
 F125_j165 B R k6 l6 m6 o6))
def F125 (B : World) (R : Po) (m9 n9 o9 : OA) (h : Heap) : Prop :=
 isP n9 fun p9 q9 =>
 iP p9 q9 fun r9 s9 =>
 iP r9 s9 fun t9 u9 => ∃ v9, cell? h ⟨t9, u9, none⟩ = some (.bool v9) ∧
 isP o9 fun w9 x9 =>
 iP w9 x9 fun y9 z9 =>
 iP y9 z9 fun a10 b10 => ∃ c10, cell? h ⟨a10, b10, none⟩ = some (.bool c10) ∧
 F125_j18 B R m9 n9 o9 (v9 == c10) h
def F125_L : Nat → List (Nat × TypeDesc) := fun _ => []
theorem F125_ok {B : World} {R : Ending → Heap → Prop} (m9 n9 o9 : OA) {h : Heap} (H : F125 B R m9 n9 o9 h) : Ec B 103 #[.pointer m9, .pointer n9, .pointer o9] R h :=
 Ek Tryz.func103 (by kernel_rfl) (by kernel_rfl) (by kernel_rfl) F125_L [] (by kernel_rfl) H

/-- (*math/big.Int).Int64 -/
def F126_j21 (B : World) (R : Po) (a0 : Int) (b0 : Heap) : Prop :=
 R (.returned (.int .i64 a0)) b0
def F126 (B : World) (R : Po) (c0 : OA) (h : Heap) : Prop :=
 isP c0 fun d0 e0 =>
 iP d0 e0 fun f0 g0 =>
 isP (some ⟨f0, g0 + 1, none⟩) fun i0 j0 => ∃ k0 l0 m0, cS h i0 j0 k0 l0 m0 ∧
 Ec B 139 #[.slice k0 l0 m0] (retE (fun n0 o0 => ∃ p0, n0 = .int .u64 p0 ∧
 isP c0 fun q0 r0 =>
 iP q0 r0 fun s0 t0 =>
 iP s0 t0 fun u0 v0 => ∃ w0, cell? o0 ⟨u0, v0, none⟩ = some (.bool w0) ∧
(w0 = true →
 F126_j21 B R (IntKind.i64.wrap (0 - (IntKind.i64.wrap p0))) o0) ∧
(w0 = false →
 F126_j21 B R (IntKind.i64.wrap p0) o0))
(pk R)) h
def F126_L : Nat → List (Nat × TypeDesc) := fun _ => []
theorem F126_ok {B : World} {R : Ending → Heap → Prop} (c0 : OA) {h : Heap} (H : F126 B R c0 h) : Ec B 104 #[.pointer c0] R h :=
 Ek Tryz.func104 (by kernel_rfl) (by kernel_rfl) (by kernel_rfl) F126_L [] (by kernel_rfl) H

/-- (*math/big.Int).Add -/
def F127_j87 (B : World) (R : Po) (a0 : OA) (b0 : Heap) : Prop :=
 R (.returned (.pointer a0)) b0
def F127_j69 (B : World) (R : Po) (c0 : OA) (d0 : Bool) (e0 : Heap) : Prop :=
 isP c0 fun f0 g0 =>
 iP f0 g0 fun i0 j0 =>
 isP (some ⟨i0, j0 + 1, none⟩) fun k0 l0 => ∃ m0 n0 o0, cS e0 k0 l0 m0 n0 o0 ∧
((decide ((0 : Int) < (n0 : Int))) = true →
 isP c0 fun p0 q0 =>
 iP p0 q0 fun r0 s0 =>
 iP r0 s0 fun t0 u0 => stC e0 t0 u0 (.bool d0) fun v0 =>
 F127_j87 B R c0 v0) ∧
((decide ((0 : Int) < (n0 : Int))) = false →
 isP c0 fun w0 x0 =>
 iP w0 x0 fun y0 z0 =>
 iP y0 z0 fun a1 b1 => stC e0 a1 b1 (.bool false) fun c1 =>
 F127_j87 B R c0 c1)
def F127_j65 (B : World) (R : Po) (d1 : OA) (e1 : Bool) (f1 : Heap) : Prop :=
 F127_j69 B R d1 e1 f1
def F127_j160 (B : World) (R : Po) (g1 : OA) (i1 : Bool) (j1 : Heap) : Prop :=
 F127_j69 B R g1 i1 j1
def F127_j156 (B : World) (R : Po) (k1 : OA) (l1 : Bool) (m1 : Heap) : Prop :=
 F127_j160 B R k1 l1 m1
def F127_j197 (B : World) (R : Po) (n1 : OA) (o1 : Bool) (p1 : Heap) : Prop :=
 F127_j160 B R n1 o1 p1
def F127_j116 (B : World) (R : Po) (q1 r1 s1 : OA) (t1 u1 : Bool) (v1 : Heap) : Prop :=
(u1 = true →
 isP q1 fun w1 x1 =>
 iP w1 x1 fun y1 z1 =>
 isP (some ⟨y1, z1 + 1, none⟩) fun a2 b2 => ∃ c2 d2 e2, cS v1 a2 b2 c2 d2 e2 ∧
 isP r1 fun f2 g2 =>
 iP f2 g2 fun i2 j2 =>
 isP (some ⟨i2, j2 + 1, none⟩) fun k2 l2 => ∃ m2 n2 o2, cS v1 k2 l2 m2 n2 o2 ∧
 isP s1 fun p2 q2 =>
 iP p2 q2 fun r2 s2 =>
 isP (some ⟨r2, s2 + 1, none⟩) fun t2 u2 => ∃ v2 w2 x2, cS v1 t2 u2 v2 w2 x2 ∧
 Ec B 132 #[.slice c2 d2 e2, .slice m2 n2 o2, .slice v2 w2 x2] (retE (fun y2 z2 => ∃ a3 b3 c3, y2 = .slice a3 b3 c3 ∧
 isP q1 fun d3 e3 =>
 iP d3 e3 fun f3 g3 =>
 isP (some ⟨f3, g3 + 1, none⟩) fun i3 j3 => stC z2 i3 j3 (.slice a3 b3 c3) fun k3 =>
 F127_j156 B R q1 t1 k3)
(fun _ _ => False)) v1) ∧
(u1 = false →
 isP q1 fun l3 m3 =>
 iP l3 m3 fun n3 o3 =>
 isP (some ⟨n3, o3 + 1, none⟩) fun p3 q3 => ∃ r3 s3 t3, cS v1 p3 q3 r3 s3 t3 ∧
 isP s1 fun u3 v3 =>
 iP u3 v3 fun w3 x3 =>
 isP (some ⟨w3, x3 + 1, none⟩) fun y3 z3 => ∃ a4 b4 c4, cS v1 y3 z3 a4 b4 c4 ∧
 isP r1 fun d4 e4 =>
 iP d4 e4 fun f4 g4 =>
 isP (some ⟨f4, g4 + 1, none⟩) fun i4 j4 => ∃ k4 l4 m4, cS v1 i4 j4 k4 l4 m4 ∧
 Ec B 132 #[.slice r3 s3 t3, .slice a4 b4 c4, .slice k4 l4 m4] (retE (fun n4 o4 => ∃ p4 q4 r4, n4 = .slice p4 q4 r4 ∧
 isP q1 fun s4 t4 =>
 iP s4 t4 fun u4 v4 =>
 isP (some ⟨u4, v4 + 1, none⟩) fun w4 x4 => stC o4 w4 x4 (.slice p4 q4 r4) fun y4 =>
 F127_j197 B R q1 (!t1) y4)
(fun _ _ => False)) v1)
def F127_j25 (B : World) (R : Po) (z4 a5 b5 : OA) (c5 d5 : Bool) (e5 : Heap) : Prop :=
(d5 = true →
 isP z4 fun f5 g5 =>
 iP f5 g5 fun i5 j5 =>
 isP (some ⟨i5, j5 + 1, none⟩) fun k5 l5 => ∃ m5 n5 o5, cS e5 k5 l5 m5 n5 o5 ∧
 isP a5 fun p5 q5 =>
 iP p5 q5 fun r5 s5 =>
 isP (some ⟨r5, s5 + 1, none⟩) fun t5 u5 => ∃ v5 w5 x5, cS e5 t5 u5 v5 w5 x5 ∧
 isP b5 fun y5 z5 =>
 iP y5 z5 fun a6 b6 =>
 isP (some ⟨a6, b6 + 1, none⟩) fun c6 d6 => ∃ e6 f6 g6, cS e5 c6 d6 e6 f6 g6 ∧
 Ec B 134 #[.slice m5 n5 o5, .slice v5 w5 x5, .slice e6 f6 g6] (retE (fun i6 j6 => ∃ k6 l6 m6, i6 = .slice k6 l6 m6 ∧
 isP z4 fun n6 o6 =>
 iP n6 o6 fun p6 q6 =>
 isP (some ⟨p6, q6 + 1, none⟩) fun r6 s6 => stC j6 r6 s6 (.slice k6 l6 m6) fun t6 =>
 F127_j65 B R z4 c5 t6)
(fun _ _ => False)) e5) ∧
(d5 = false →
 isP a5 fun u6 v6 =>
 iP u6 v6 fun w6 x6 =>
 isP (some ⟨w6, x6 + 1, none⟩) fun y6 z6 => ∃ a7 b7 c7, cS e5 y6 z6 a7 b7 c7 ∧
 isP b5 fun d7 e7 =>
 iP d7 e7 fun f7 g7 =>
 isP (some ⟨f7, g7 + 1, none⟩) fun i7 j7 => ∃ k7 l7 m7, cS e5 i7 j7 k7 l7 m7 ∧
 Ec B 140 #[.slice a7 b7 c7, .slice k7 l7 m7] (retE (fun n7 o7 => ∃ p7, n7 = .int .i64 p7 ∧
 F127_j116 B R z4 a5 b5 c5 (decide ((0 : Int) ≤ p7)) o7)
(fun _ _ => False)) e5)
def F127 (B : World) (R : Po) (q7 r7 s7 : OA) (h : Heap) : Prop :=
 isP r7 fun t7 u7 =>
 iP t7 u7 fun v7 w7 =>
 iP v7 w7 fun x7 y7 => ∃ z7, cell? h ⟨x7, y7, none⟩ = some (.bool z7) ∧
 isP r7 fun a8 b8 =>
 iP a8 b8 fun c8 d8 =>
 iP c8 d8 fun e8 f8 => ∃ g8, cell? h ⟨e8, f8, none⟩ = some (.bool g8) ∧
 isP s7 fun i8 j8 =>
 iP i8 j8 fun k8 l8 =>
 iP k8 l8 fun m8 n8 => ∃ o8, cell? h ⟨m8, n8, none⟩ = some (.bool o8) ∧
 F127_j25 B R q7 r7 s7 z7 (g8 == o8) h
def F127_L : Nat → List (Nat × TypeDesc) := fun _ => []
theorem F127_ok {B : World} {R : Ending → Heap → Prop} (q7 r7 s7 : OA) {h : Heap} (H : F127 B R q7 r7 s7 h) : Ec B 105 #[.pointer q7, .pointer r7, .pointer s7] R h :=
 Ek Tryz.func105 (by kernel_rfl) (by kernel_rfl) (by kernel_rfl) F127_L [] (by kernel_rfl) H

/-- (*math/big.Int).Lsh -/
def F128_j30 (B : World) (R : Po) (a0 b0 : OA) (c0 : Heap) : Prop :=
 isP b0 fun d0 e0 =>
 iP d0 e0 fun f0 g0 =>
 iP f0 g0 fun i0 j0 => ∃ k0, cell? c0 ⟨i0, j0, none⟩ = some (.bool k0) ∧
 isP a0 fun l0 m0 =>
 iP l0 m0 fun n0 o0 =>
 iP n0 o0 fun p0 q0 => stC c0 p0 q0 (.bool k0) fun r0 =>
 R (.returned (.pointer a0)) r0
def F128 (B : World) (R : Po) (s0 t0 : OA) (u0 : Int) (h : Heap) : Prop :=
 isP s0 fun v0 w0 =>
 iP v0 w0 fun x0 y0 =>
 isP (some ⟨x0, y0 + 1, none⟩) fun z0 a1 => ∃ b1 c1 d1, cS h z0 a1 b1 c1 d1 ∧
 isP t0 fun e1 f1 =>
 iP e1 f1 fun g1 i1 =>
 isP (some ⟨g1, i1 + 1, none⟩) fun j1 k1 => ∃ l1 m1 n1, cS h j1 k1 l1 m1 n1 ∧
 Ec B 141 #[.slice b1 c1 d1, .slice l1 m1 n1, .int .u64 u0] (retE (fun o1 p1 => ∃ q1 r1 s1, o1 = .slice q1 r1 s1 ∧
 isP s0 fun t1 u1 =>
 iP t1 u1 fun v1 w1 =>
 isP (some ⟨v1, w1 + 1, none⟩) fun x1 y1 => stC p1 x1 y1 (.slice q1 r1 s1) fun z1 =>
 F128_j30 B R s0 t0 z1)
(fun _ _ => False)) h
def F128_L : Nat → List (Nat × TypeDesc) := fun _ => []
theorem F128_ok {B : World} {R : Ending → Heap → Prop} (s0 t0 : OA) (u0 : Int) {h : Heap} (H : F128 B R s0 t0 u0 h) : Ec B 106 #[.pointer s0, .pointer t0, .int .u64 u0] R h :=
 Ek Tryz.func106 (by kernel_rfl) (by kernel_rfl) (by kernel_rfl) F128_L [] (by kernel_rfl) H

/-- (*math/big.Int).Mul -/
def F131 (B : World) (R : Po) (a0 b0 c0 : OA) (h : Heap) : Prop :=
 Ec B 173 #[.pointer a0, .pointer none, .pointer b0, .pointer c0] (retE (fun d0 e0 => d0 = .tuple #[] ∧
 R (.returned (.pointer a0)) e0)
(pk R)) h
def F131_L : Nat → List (Nat × TypeDesc) := fun _ => []
theorem F131_ok {B : World} {R : Ending → Heap → Prop} (a0 b0 c0 : OA) {h : Heap} (H : F131 B R a0 b0 c0 h) : Ec B 147 #[.pointer a0, .pointer b0, .pointer c0] R h :=
 Ek Tryz.func147 (by kernel_rfl) (by kernel_rfl) (by kernel_rfl) F131_L [] (by kernel_rfl) H

/-- (*math/big.Int).Set -/
def F144_j48 (B : World) (R : Po) (a0 : OA) (b0 : Heap) : Prop :=
 R (.returned (.pointer a0)) b0
def F144_j30 (B : World) (R : Po) (c0 d0 : OA) (e0 : Heap) : Prop :=
 isP d0 fun f0 g0 =>
 iP f0 g0 fun i0 j0 =>
 iP i0 j0 fun k0 l0 => ∃ m0, cell? e0 ⟨k0, l0, none⟩ = some (.bool m0) ∧
 isP c0 fun n0 o0 =>
 iP n0 o0 fun p0 q0 =>
 iP p0 q0 fun r0 s0 => stC e0 r0 s0 (.bool m0) fun t0 =>
 F144_j48 B R c0 t0
def F144 (B : World) (R : Po) (u0 v0 : OA) (h : Heap) : Prop :=
 pEq h u0 v0 fun w0 =>
((!w0) = true →
 isP u0 fun x0 y0 =>
 iP x0 y0 fun z0 a1 =>
 isP (some ⟨z0, a1 + 1, none⟩) fun b1 c1 => ∃ d1 e1 f1, cS h b1 c1 d1 e1 f1 ∧
 isP v0 fun g1 i1 =>
 iP g1 i1 fun j1 k1 =>
 isP (some ⟨j1, k1 + 1, none⟩) fun l1 m1 => ∃ n1 o1 p1, cS h l1 m1 n1 o1 p1 ∧
 Ec B 121 #[.slice d1 e1 f1, .slice n1 o1 p1] (retE (fun q1 r1 => ∃ s1 t1 u1, q1 = .slice s1 t1 u1 ∧
 isP u0 fun v1 w1 =>
 iP v1 w1 fun x1 y1 =>
 isP (some ⟨x1, y1 + 1, none⟩) fun z1 a2 => stC r1 z1 a2 (.slice s1 t1 u1) fun b2 =>
 F144_j30 B R u0 v0 b2)
(fun _ _ => False)) h) ∧
((!w0) = false →
 F144_j48 B R u0 h)
def F144_L : Nat → List (Nat × TypeDesc) := fun _ => []
theorem F144_ok {B : World} {R : Ending → Heap → Prop} (u0 v0 : OA) {h : Heap} (H : F144 B R u0 v0 h) : Ec B 98 #[.pointer u0, .pointer v0] R h :=
 Ek Tryz.func98 (by kernel_rfl) (by kernel_rfl) (by kernel_rfl) F144_L [] (by kernel_rfl) H

/-- (*math/big.Int).Or -/
def F175_j105 (B : World) (R : Po) (a0 : OA) (b0 : Heap) : Prop :=
 isP a0 fun c0 d0 =>
 iP c0 d0 fun e0 f0 =>
 iP e0 f0 fun g0 i0 => stC b0 g0 i0 (.bool true) fun j0 =>
 R (.returned (.pointer a0)) j0
def F175_j66 (B : World) (R : Po) (k0 l0 : OA) (m0 n0 : Nat) (o0 : OA) (p0 q0 : Nat) (r0 : Heap) : Prop :=
 isP k0 fun s0 t0 =>
 iP s0 t0 fun u0 v0 =>
 isP (some ⟨u0, v0 + 1, none⟩) fun w0 x0 => ∃ y0 z0 a1, cS r0 w0 x0 y0 z0 a1 ∧
 isP k0 fun b1 c1 =>
 iP b1 c1 fun d1 e1 =>
 isP (some ⟨d1, e1 + 1, none⟩) fun f1 g1 => ∃ i1 j1 k1, cS r0 f1 g1 i1 j1 k1 ∧
 iP 1 0 fun l1 m1 => ∃ n1 o1 p1, cS r0 l1 m1 n1 o1 p1 ∧
 Ec B 137 #[.slice i1 j1 k1, .slice l0 m0 n0, .slice o0 p0 q0] (retE (fun q1 r1 => ∃ s1 t1 u1, q1 = .slice s1 t1 u1 ∧
 sameCells r0 r1 l1 m1 1 ∧ sameCells r0 r1 w0 x0 1 ∧ Ec B 134 #[.slice y0 z0 a1, .slice s1 t1 u1, .slice n1 o1 p1] (retE (fun v1 w1 => ∃ x1 y1 z1, v1 = .slice x1 y1 z1 ∧
 isP k0 fun a2 b2 =>
 iP a2 b2 fun c2 d2 =>
 isP (some ⟨c2, d2 + 1, none⟩) fun e2 f2 => stC w1 e2 f2 (.slice x1 y1 z1) fun g2 =>
 F175_j105 B R k0 g2)
(fun _ _ => False)) r1)
(fun _ _ => False)) r0
def F175_j46 (B : World) (R : Po) (i2 j2 k2 : OA) (l2 m2 : Nat) (n2 : Heap) : Prop :=
 isP j2 fun o2 p2 =>
 iP o2 p2 fun q2 r2 =>
 isP (some ⟨q2, r2 + 1, none⟩) fun s2 t2 => ∃ u2 v2 w2, cS n2 s2 t2 u2 v2 w2 ∧
 iP 1 0 fun x2 y2 => ∃ z2 a3 b3, cS n2 x2 y2 z2 a3 b3 ∧
 Ec B 132 #[.slice none 0 0, .slice u2 v2 w2, .slice z2 a3 b3] (retE (fun c3 d3 => ∃ e3 f3 g3, c3 = .slice e3 f3 g3 ∧
 F175_j66 B R i2 k2 l2 m2 e3 f3 g3 d3)
(fun _ _ => False)) n2
def F175_j148 (B : World) (R : Po) (i3 : OA) (j3 : Heap) : Prop :=
 isP i3 fun k3 l3 =>
 iP k3 l3 fun m3 n3 =>
 iP m3 n3 fun o3 p3 => stC j3 o3 p3 (.bool false) fun q3 =>
 R (.returned (.pointer i3)) q3
def F175_j231 (B : World) (R : Po) (r3 : OA) (s3 : Heap) : Prop :=
 isP r3 fun t3 u3 =>
 iP t3 u3 fun v3 w3 =>
 iP v3 w3 fun x3 y3 => stC s3 x3 y3 (.bool true) fun z3 =>
 R (.returned (.pointer r3)) z3
def F175_j185 (B : World) (R : Po) (a4 b4 c4 : OA) (d4 e4 : Nat) (f4 : Heap) : Prop :=
 isP a4 fun g4 i4 =>
 iP g4 i4 fun j4 k4 =>
 isP (some ⟨j4, k4 + 1, none⟩) fun l4 m4 => ∃ n4 o4 p4, cS f4 l4 m4 n4 o4 p4 ∧
 isP a4 fun q4 r4 =>
 iP q4 r4 fun s4 t4 =>
 isP (some ⟨s4, t4 + 1, none⟩) fun u4 v4 => ∃ w4 x4 y4, cS f4 u4 v4 w4 x4 y4 ∧
 isP b4 fun z4 a5 =>
 iP z4 a5 fun b5 c5 =>
 isP (some ⟨b5, c5 + 1, none⟩) fun d5 e5 => ∃ f5 g5 i5, cS f4 d5 e5 f5 g5 i5 ∧
 iP 1 0 fun j5 k5 => ∃ l5 m5 n5, cS f4 j5 k5 l5 m5 n5 ∧
 Ec B 138 #[.slice w4 x4 y4, .slice c4 d4 e4, .slice f5 g5 i5] (retE (fun o5 p5 => ∃ q5 r5 s5, o5 = .slice q5 r5 s5 ∧
 sameCells f4 p5 j5 k5 1 ∧ sameCells f4 p5 l4 m4 1 ∧ Ec B 134 #[.slice n4 o4 p4, .slice q5 r5 s5, .slice l5 m5 n5] (retE (fun t5 u5 => ∃ v5 w5 x5, t5 = .slice v5 w5 x5 ∧
 isP a4 fun y5 z5 =>
 iP y5 z5 fun a6 b6 =>
 isP (some ⟨a6, b6 + 1, none⟩) fun c6 d6 => stC u5 c6 d6 (.slice v5 w5 x5) fun e6 =>
 F175_j231 B R a4 e6)
(fun _ _ => False)) p5)
(fun _ _ => False)) f4
def F175_j165 (B : World) (R : Po) (f6 g6 i6 : OA) (j6 : Heap) : Prop :=
 isP i6 fun k6 l6 =>
 iP k6 l6 fun m6 n6 =>
 isP (some ⟨m6, n6 + 1, none⟩) fun o6 p6 => ∃ q6 r6 s6, cS j6 o6 p6 q6 r6 s6 ∧
 iP 1 0 fun t6 u6 => ∃ v6 w6 x6, cS j6 t6 u6 v6 w6 x6 ∧
 Ec B 132 #[.slice none 0 0, .slice q6 r6 s6, .slice v6 w6 x6] (retE (fun y6 z6 => ∃ a7 b7 c7, y6 = .slice a7 b7 c7 ∧
 F175_j185 B R f6 g6 a7 b7 c7 z6)
(fun _ _ => False)) j6
def F175_j18 (B : World) (R : Po) (d7 e7 f7 : OA) (g7 : Bool) (i7 : Heap) : Prop :=
(g7 = true →
 isP e7 fun j7 k7 =>
 iP j7 k7 fun l7 m7 =>
 iP l7 m7 fun n7 o7 => ∃ p7, cell? i7 ⟨n7, o7, none⟩ = some (.bool p7) ∧
(p7 = true →
 isP e7 fun q7 r7 =>
 iP q7 r7 fun s7 t7 =>
 isP (some ⟨s7, t7 + 1, none⟩) fun u7 v7 => ∃ w7 x7 y7, cS i7 u7 v7 w7 x7 y7 ∧
 iP 1 0 fun z7 a8 => ∃ b8 c8 d8, cS i7 z7 a8 b8 c8 d8 ∧
 Ec B 132 #[.slice none 0 0, .slice w7 x7 y7, .slice b8 c8 d8] (retE (fun e8 f8 => ∃ g8 i8 j8, e8 = .slice g8 i8 j8 ∧
 F175_j46 B R d7 f7 g8 i8 j8 f8)
(fun _ _ => False)) i7) ∧
(p7 = false →
 isP d7 fun k8 l8 =>
 iP k8 l8 fun m8 n8 =>
 isP (some ⟨m8, n8 + 1, none⟩) fun o8 p8 => ∃ q8 r8 s8, cS i7 o8 p8 q8 r8 s8 ∧
 isP e7 fun t8 u8 =>
 iP t8 u8 fun v8 w8 =>
 isP (some ⟨v8, w8 + 1, none⟩) fun x8 y8 => ∃ z8 a9 b9, cS i7 x8 y8 z8 a9 b9 ∧
 isP f7 fun c9 d9 =>
 iP c9 d9 fun e9 f9 =>
 isP (some ⟨e9, f9 + 1, none⟩) fun g9 i9 => ∃ j9 k9 l9, cS i7 g9 i9 j9 k9 l9 ∧
 Ec B 136 #[.slice q8 r8 s8, .slice z8 a9 b9, .slice j9 k9 l9] (retE (fun m9 n9 => ∃ o9 p9 q9, m9 = .slice o9 p9 q9 ∧
 isP d7 fun r9 s9 =>
 iP r9 s9 fun t9 u9 =>
 isP (some ⟨t9, u9 + 1, none⟩) fun v9 w9 => stC n9 v9 w9 (.slice o9 p9 q9) fun x9 =>
 F175_j148 B R d7 x9)
(fun _ _ => False)) i7)) ∧
(g7 = false →
 isP e7 fun y9 z9 =>
 iP y9 z9 fun a10 b10 =>
 iP a10 b10 fun c10 d10 => ∃ e10, cell? i7 ⟨c10, d10, none⟩ = some (.bool e10) ∧
(e10 = true →
 F175_j165 B R d7 f7 e7 i7) ∧
(e10 = false →
 F175_j165 B R d7 e7 f7 i7))
def F175 (B : World) (R : Po) (f10 g10 i10 : OA) (h : Heap) : Prop :=
 isP g10 fun j10 k10 =>
 iP j10 k10 fun l10 m10 =>
 iP l10 m10 fun n10 o10 => ∃ p10, cell? h ⟨n10, o10, none⟩ = some (.bool p10) ∧
 isP i10 fun q10 r10 =>
 iP q10 r10 fun s10 t10 =>
 iP s10 t10 fun u10 v10 => ∃ w10, cell? h ⟨u10, v10, none⟩ = some (.bool w10) ∧
 F175_j18 B R f10 g10 i10 (p10 == w10) h
def F175_L : Nat → List (Nat × TypeDesc) := fun _ => []
theorem F175_ok {B : World} {R : Ending → Heap → Prop} (f10 g10 i10 : OA) {h : Heap} (H : F175 B R f10 g10 i10 h) : Ec B 120 #[.pointer f10, .pointer g10, .pointer i10] R h :=
 Ek Tryz.func120 (by kernel_rfl) (by kernel_rfl) (by kernel_rfl) F175_L [] (by kernel_rfl) H

/-- (*math/big.Int).mul -/
def F176_j32 (B : World) (R : Po) (a0 : OA) (b0 : Heap) : Prop :=
 isP a0 fun c0 d0 =>
 iP c0 d0 fun e0 f0 =>
 iP e0 f0 fun g0 i0 => stC b0 g0 i0 (.bool false) fun j0 =>
 R (.returned (.tuple #[])) j0
def F176_j108 (B : World) (R : Po) (k0 : Heap) : Prop :=
 R (.returned (.tuple #[])) k0
def F176_j75 (B : World) (R : Po) (l0 m0 n0 : OA) (o0 : Heap) : Prop :=
 isP l0 fun p0 q0 =>
 iP p0 q0 fun r0 s0 =>
 isP (some ⟨r0, s0 + 1, none⟩) fun t0 u0 => ∃ v0 w0 x0, cS o0 t0 u0 v0 w0 x0 ∧
((decide ((0 : Int) < (w0 : Int))) = true →
 isP m0 fun y0 z0 =>
 iP y0 z0 fun a1 b1 =>
 iP a1 b1 fun c1 d1 => ∃ e1, cell? o0 ⟨c1, d1, none⟩ = some (.bool e1) ∧
 isP n0 fun f1 g1 =>
 iP f1 g1 fun i1 j1 =>
 iP i1 j1 fun k1 l1 => ∃ m1, cell? o0 ⟨k1, l1, none⟩ = some (.bool m1) ∧
 isP l0 fun n1 o1 =>
 iP n1 o1 fun p1 q1 =>
 iP p1 q1 fun r1 s1 => stC o0 r1 s1 (.bool (!(e1 == m1))) fun t1 =>
 F176_j108 B R t1) ∧
((decide ((0 : Int) < (w0 : Int))) = false →
 isP l0 fun u1 v1 =>
 iP u1 v1 fun w1 x1 =>
 iP w1 x1 fun y1 z1 => stC o0 y1 z1 (.bool false) fun a2 =>
 F176_j108 B R a2)
def F176 (B : World) (R : Po) (b2 c2 d2 e2 : OA) (h : Heap) : Prop :=
 pEq h d2 e2 fun f2 =>
(f2 = true →
 isP b2 fun g2 i2 =>
 iP g2 i2 fun j2 k2 =>
 isP (some ⟨j2, k2 + 1, none⟩) fun l2 m2 => ∃ n2 o2 p2, cS h l2 m2 n2 o2 p2 ∧
 isP d2 fun q2 r2 =>
 iP q2 r2 fun s2 t2 =>
 isP (some ⟨s2, t2 + 1, none⟩) fun u2 v2 => ∃ w2 x2 y2, cS h u2 v2 w2 x2 y2 ∧
 Ec B 187 #[.slice n2 o2 p2, .pointer c2, .slice w2 x2 y2] (retE (fun z2 a3 => ∃ b3 c3 d3, z2 = .slice b3 c3 d3 ∧
 isP b2 fun e3 f3 =>
 iP e3 f3 fun g3 i3 =>
 isP (some ⟨g3, i3 + 1, none⟩) fun j3 k3 => stC a3 j3 k3 (.slice b3 c3 d3) fun l3 =>
 F176_j32 B R b2 l3)
(fun _ _ => False)) h) ∧
(f2 = false →
 isP b2 fun m3 n3 =>
 iP m3 n3 fun o3 p3 =>
 isP (some ⟨o3, p3 + 1, none⟩) fun q3 r3 => ∃ s3 t3 u3, cS h q3 r3 s3 t3 u3 ∧
 isP d2 fun v3 w3 =>
 iP v3 w3 fun x3 y3 =>
 isP (some ⟨x3, y3 + 1, none⟩) fun z3 a4 => ∃ b4 c4 d4, cS h z3 a4 b4 c4 d4 ∧
 isP e2 fun e4 f4 =>
 iP e4 f4 fun g4 i4 =>
 isP (some ⟨g4, i4 + 1, none⟩) fun j4 k4 => ∃ l4 m4 n4, cS h j4 k4 l4 m4 n4 ∧
 Ec B 188 #[.slice s3 t3 u3, .pointer c2, .slice b4 c4 d4, .slice l4 m4 n4] (retE (fun o4 p4 => ∃ q4 r4 s4, o4 = .slice q4 r4 s4 ∧
 isP b2 fun t4 u4 =>
 iP t4 u4 fun v4 w4 =>
 isP (some ⟨v4, w4 + 1, none⟩) fun x4 y4 => stC p4 x4 y4 (.slice q4 r4 s4) fun z4 =>
 F176_j75 B R b2 d2 e2 z4)
(fun _ _ => False)) h)
def F176_L : Nat → List (Nat × TypeDesc) := fun _ => []
theorem F176_ok {B : World} {R : Ending → Heap → Prop} (b2 c2 d2 e2 : OA) {h : Heap} (H : F176 B R b2 c2 d2 e2 h) : Ec B 173 #[.pointer b2, .pointer c2, .pointer d2, .pointer e2] R h :=
 Ek Tryz.func173 (by kernel_rfl) (by kernel_rfl) (by kernel_rfl) F176_L [] (by kernel_rfl) H
end Go.Proofs
