import Derived.Test.YtpnfpefcjeafbaaGreatFmtA09
/- Here stand lemmas and contracts, in the order in which they are used. -/
set_option linter.unusedVariables false
namespace Go.Proofs
open Go Go.Eng
/-- plumb/dyadic.Valid -/
def F129_j21 (B : World) (R : Po) (a0 : Bool) (b0 : Heap) : Prop :=
 R (.returned (.bool a0)) b0
def F129_j54 (B : World) (R : Po) (c0 : Bool) (d0 : Heap) : Prop :=
 R (.returned (.bool c0)) d0
def F129 (B : World) (R : Po) (e0 : Bool) (f0 : OA) (g0 i0 : Nat) (j0 : Int) (h : Heap) : Prop :=
 alW h (.cells #[.bool e0, .slice f0 g0 i0, .int .i64 j0] 38) fun k0 l0 =>
 iP k0 0 fun m0 n0 =>
 isP (some ⟨m0, n0 + 1, none⟩) fun o0 p0 => ∃ q0 r0 s0, cS l0 o0 p0 q0 r0 s0 ∧
((decide ((r0 : Int) = (0 : Int))) = true →
 iP k0 0 fun t0 u0 =>
 iP t0 u0 fun v0 w0 => ∃ x0, cell? l0 ⟨v0, w0, none⟩ = some (.bool x0) ∧
((!x0) = true →
 iP k0 0 fun y0 z0 =>
 isP (some ⟨y0, z0 + 2, none⟩) fun a1 b1 => ∃ c1, cI l0 a1 b1 .i64 c1 ∧
 F129_j21 B R (decide (c1 = (0 : Int))) l0) ∧
((!x0) = false →
 F129_j21 B R false l0)) ∧
((decide ((r0 : Int) = (0 : Int))) = false →
 iP k0 0 fun d1 e1 =>
 isP (some ⟨d1, e1 + 1, none⟩) fun f1 g1 => ∃ i1 j1 k1, cS l0 f1 g1 i1 j1 k1 ∧
 Ec B 117 #[.slice i1 j1 k1] (retE (fun l1 m1 => ∃ n1, l1 = .bool n1 ∧
(n1 = true →
 iP k0 0 fun o1 p1 =>
 isP (some ⟨o1, p1 + 1, none⟩) fun q1 r1 => ∃ s1 t1 u1, cS m1 q1 r1 s1 t1 u1 ∧
 ixW s1 t1 (0 : Int) 1 fun v1 w1 =>
 iP v1 w1 fun x1 y1 => ∃ z1, cI m1 x1 y1 .i64 z1 ∧
((decide ((bitsI .and .i64 z1 (1 : Int)) = (1 : Int))) = true →
 iP k0 0 fun a2 b2 =>
 isP (some ⟨a2, b2 + 2, none⟩) fun c2 d2 => ∃ e2, cI m1 c2 d2 .i64 e2 ∧
((decide ((-1048576 : Int) ≤ e2)) = true →
 iP k0 0 fun f2 g2 =>
 isP (some ⟨f2, g2 + 2, none⟩) fun i2 j2 => ∃ k2, cI m1 i2 j2 .i64 k2 ∧
 F129_j54 B R (decide (k2 ≤ (1048576 : Int))) m1) ∧
((decide ((-1048576 : Int) ≤ e2)) = false →
 F129_j54 B R false m1)) ∧
((decide ((bitsI .and .i64 z1 (1 : Int)) = (1 : Int))) = false →
(false = true →
 iP k0 0 fun l2 m2 =>
 isP (some ⟨l2, m2 + 2, none⟩) fun n2 o2 => ∃ p2, cI m1 n2 o2 .i64 p2 ∧
 F129_j54 B R (decide (p2 ≤ (1048576 : Int))) m1) ∧
(false = false →
 F129_j54 B R false m1))) ∧
(n1 = false →
(false = true →
 iP k0 0 fun q2 r2 =>
 isP (some ⟨q2, r2 + 2, none⟩) fun s2 t2 => ∃ u2, cI m1 s2 t2 .i64 u2 ∧
((decide ((-1048576 : Int) ≤ u2)) = true →
 iP k0 0 fun v2 w2 =>
 isP (some ⟨v2, w2 + 2, none⟩) fun x2 y2 => ∃ z2, cI m1 x2 y2 .i64 z2 ∧
 F129_j54 B R (decide (z2 ≤ (1048576 : Int))) m1) ∧
((decide ((-1048576 : Int) ≤ u2)) = false →
 F129_j54 B R false m1)) ∧
(false = false →
(false = true →
 iP k0 0 fun a3 b3 =>
 isP (some ⟨a3, b3 + 2, none⟩) fun c3 d3 => ∃ e3, cI m1 c3 d3 .i64 e3 ∧
 F129_j54 B R (decide (e3 ≤ (1048576 : Int))) m1) ∧
(false = false →
 F129_j54 B R false m1))))
(pk R)) l0)
def F129_L : Nat → List (Nat × TypeDesc) := fun _ => []
theorem F129_ok {B : World} {R : Ending → Heap → Prop} (e0 : Bool) (f0 : OA) (g0 i0 : Nat) (j0 : Int) {h : Heap} (H : F129 B R e0 f0 g0 i0 j0 h) : Ec B 78 #[.agg #[.bool e0, .slice f0 g0 i0, .int .i64 j0]] R h :=
 Ek Tryz.func78 (by kernel_rfl) (by kernel_rfl) (by kernel_rfl) F129_L [] (by kernel_rfl) H

/-- plumb/nat.Valid -/
def F174_j15 (B : World) (R : Po) (a0 : Lp) (b0 : Nat) (c0 : OA) (d0 e0 : Nat) (f0 : OA) (g0 i0 : Nat) (j0 k0 : Int) (l0 : Bool) (m0 : Heap) : Prop :=
(l0 = true →
 R (.returned (.bool false)) m0) ∧
(l0 = false →
 ∃ n0, n0 < b0 ∧ a0 n0 [.slice c0 d0 e0, .slice f0 g0 i0, .int .i64 j0, .int .i64 (IntKind.i64.wrap (k0 + (1 : Int)))] m0)
def F174_j23 (B : World) (R : Po) (a0 : Lp) (b0 : Nat) (o0 : Bool) (p0 : Heap) : Prop :=
 R (.returned (.bool o0)) p0
def F174 (B : World) (R : Po) (q0 : OA) (r0 s0 : Nat) (h : Heap) : Prop :=
 ∃ a0 : Lp, ∃ t0, a0 t0 [.slice q0 r0 s0, .slice q0 r0 s0, .int .i64 (r0 : Int), .int .i64 (0 : Int)] h ∧
∀ (b0 : Nat) (u0 : Heap) (v0 : OA) (w0 x0 : Nat) (y0 : OA) (z0 a1 : Nat) (b1 c1 : Int), a0 b0 [.slice v0 w0 x0, .slice y0 z0 a1, .int .i64 b1, .int .i64 c1] u0 → ∀ _r : Nat → Value,
((decide (c1 < b1)) = true →
 ixW y0 z0 c1 1 fun d1 e1 =>
 iP d1 e1 fun f1 g1 => ∃ i1, cI u0 f1 g1 .i64 i1 ∧
((decide (i1 < (0 : Int))) = true →
 F174_j15 B R a0 b0 v0 w0 x0 y0 z0 a1 b1 c1 true u0) ∧
((decide (i1 < (0 : Int))) = false →
 F174_j15 B R a0 b0 v0 w0 x0 y0 z0 a1 b1 c1 (decide ((1073741824 : Int) ≤ i1)) u0)) ∧
((decide (c1 < b1)) = false →
((decide ((w0 : Int) ≤ (2000 : Int))) = true →
((decide ((w0 : Int) = (0 : Int))) = true →
 F174_j23 B R a0 b0 true u0) ∧
((decide ((w0 : Int) = (0 : Int))) = false →
 ixW v0 w0 (IntKind.i64.wrap ((w0 : Int) - (1 : Int))) 1 fun j1 k1 =>
 iP j1 k1 fun l1 m1 => ∃ n1, cI u0 l1 m1 .i64 n1 ∧
 F174_j23 B R a0 b0 (!decide (n1 = (0 : Int))) u0)) ∧
((decide ((w0 : Int) ≤ (2000 : Int))) = false →
 F174_j23 B R a0 b0 false u0))
def F174_L : Nat → List (Nat × TypeDesc) := fun i => match i with
  | 2 => [(0, .slice 0), (5, .slice 0), (6, .int .i64), (7, .int .i64)]
  | _ => []
theorem F174_ok {B : World} {R : Ending → Heap → Prop} (q0 : OA) (r0 s0 : Nat) {h : Heap} (H : F174 B R q0 r0 s0 h) : Ec B 117 #[.slice q0 r0 s0] R h :=
 Ek Tryz.func117 (by kernel_rfl) (by kernel_rfl) (by kernel_rfl) F174_L [] (by kernel_rfl) H

/-- plumb/bits.Class -/
def F17 (B : World) (R : Po) (a0 : Int) (h : Heap) : Prop :=
  0 ≤ (52 : Int) ∧
 Ec B 44 #[.int .i64 (bitsI .and .i64 (Int.fdiv a0 (2 ^ min (Int.toNat (52 : Int)) IntKind.i64.bits)) (2047 : Int)), .int .i64 (bitsI .and .i64 a0 (4503599627370495 : Int)), .int .i64 (2047 : Int)] (retE (fun b0 c0 => ∃ d0, b0 = .int .i64 d0 ∧
 R (.returned (.int .i64 d0)) c0)
(pk R)) h
def F17_L : Nat → List (Nat × TypeDesc) := fun _ => []
theorem F17_ok {B : World} {R : Ending → Heap → Prop} (a0 : Int) {h : Heap} (H : F17 B R a0 h) : Ec B 36 #[.int .i64 a0] R h :=
 Ek Tryz.func36 (by kernel_rfl) (by kernel_rfl) (by kernel_rfl) F17_L [] (by kernel_rfl) H

/-- plumb/bits.classed -/
def F53_j11 (B : World) (R : Po) (a0 : Int) (b0 : Heap) : Prop :=
 R (.returned (.int .i64 a0)) b0
def F53_j14 (B : World) (R : Po) (c0 : Int) (d0 : Heap) : Prop :=
 F53_j11 B R c0 d0
def F53_j22 (B : World) (R : Po) (e0 : Int) (f0 : Heap) : Prop :=
 F53_j14 B R e0 f0
def F53_j25 (B : World) (R : Po) (g0 : Int) (i0 : Heap) : Prop :=
 F53_j22 B R g0 i0
def F53_j17 (B : World) (R : Po) (j0 k0 : Int) (l0 : Bool) (m0 : Heap) : Prop :=
(l0 = true →
 F53_j22 B R (0 : Int) m0) ∧
(l0 = false →
((decide (j0 = (0 : Int))) = true →
 F53_j25 B R (1 : Int) m0) ∧
((decide (j0 = (0 : Int))) = false →
 F53_j25 B R k0 m0))
def F53_j4 (B : World) (R : Po) (n0 o0 p0 q0 : Int) (r0 : Bool) (s0 : Heap) : Prop :=
(r0 = true →
 F53_j11 B R (4 : Int) s0) ∧
(r0 = false →
((decide (n0 = p0)) = true →
 F53_j14 B R (3 : Int) s0) ∧
((decide (n0 = p0)) = false →
((decide (n0 = (0 : Int))) = true →
 F53_j17 B R n0 q0 (decide (o0 = (0 : Int))) s0) ∧
((decide (n0 = (0 : Int))) = false →
 F53_j17 B R n0 q0 false s0)))
def F53 (B : World) (R : Po) (t0 u0 v0 : Int) (h : Heap) : Prop :=
((decide (t0 = v0)) = true →
 F53_j4 B R t0 u0 v0 (2 : Int) (!decide (u0 = (0 : Int))) h) ∧
((decide (t0 = v0)) = false →
 F53_j4 B R t0 u0 v0 (2 : Int) false h)
def F53_L : Nat → List (Nat × TypeDesc) := fun _ => []
theorem F53_ok {B : World} {R : Ending → Heap → Prop} (t0 u0 v0 : Int) {h : Heap} (H : F53 B R t0 u0 v0 h) : Ec B 44 #[.int .i64 t0, .int .i64 u0, .int .i64 v0] R h :=
 Ek Tryz.func44 (by kernel_rfl) (by kernel_rfl) (by kernel_rfl) F53_L [] (by kernel_rfl) H

/-- plumb/bits.Float -/
def F54 (B : World) (R : Po) (a0 : Int) (h : Heap) : Prop :=
 Ec B 64 #[.int .u64 (IntKind.u64.wrap a0)] (retE (fun b0 c0 => ∃ d0, b0 = .float .f64 d0 ∧
 R (.returned (.float .f64 d0)) c0)
(pk R)) h
def F54_L : Nat → List (Nat × TypeDesc) := fun _ => []
theorem F54_ok {B : World} {R : Ending → Heap → Prop} (a0 : Int) {h : Heap} (H : F54 B R a0 h) : Ec B 31 #[.int .i64 a0] R h :=
 Ek Tryz.func31 (by kernel_rfl) (by kernel_rfl) (by kernel_rfl) F54_L [] (by kernel_rfl) H

/-- plumb/bits.Of -/
def F56 (B : World) (R : Po) (a0 : Nat) (h : Heap) : Prop :=
((FloatKind.f64.format.order a0 a0 != some .eq) = true →
 R (.returned (.int .i64 (9221120237041090561 : Int))) h) ∧
((FloatKind.f64.format.order a0 a0 != some .eq) = false →
 Ec B 56 #[.float .f64 a0] (retE (fun b0 c0 => ∃ d0, b0 = .int .u64 d0 ∧
 R (.returned (.int .i64 (IntKind.i64.wrap d0))) c0)
(pk R)) h)
def F56_L : Nat → List (Nat × TypeDesc) := fun _ => []
theorem F56_ok {B : World} {R : Ending → Heap → Prop} (a0 : Nat) {h : Heap} (H : F56 B R a0 h) : Ec B 25 #[.float .f64 a0] R h :=
 Ek Tryz.func25 (by kernel_rfl) (by kernel_rfl) (by kernel_rfl) F56_L [] (by kernel_rfl) H

/-- plumb/bits.Neg -/
def F99 (B : World) (R : Po) (a0 : Int) (h : Heap) : Prop :=
 Ec B 36 #[.int .i64 a0] (retE (fun b0 c0 => ∃ d0, b0 = .int .i64 d0 ∧
((decide (d0 = (4 : Int))) = true →
 R (.returned (.int .i64 (9221120237041090561 : Int))) c0) ∧
((decide (d0 = (4 : Int))) = false →
 R (.returned (.int .i64 (bitsI .xor .i64 a0 (-9223372036854775808 : Int)))) c0))
(pk R)) h
def F99_L : Nat → List (Nat × TypeDesc) := fun _ => []
theorem F99_ok {B : World} {R : Ending → Heap → Prop} (a0 : Int) {h : Heap} (H : F99 B R a0 h) : Ec B 15 #[.int .i64 a0] R h :=
 Ek Tryz.func15 (by kernel_rfl) (by kernel_rfl) (by kernel_rfl) F99_L [] (by kernel_rfl) H

/-- math.IsInf -/
def F118_j8 (B : World) (R : Po) (a0 : Nat) (b0 : Heap) : Prop :=
 R (.returned (.bool (FloatKind.f64.format.order a0 9218868437227405311 == some .gt))) b0
def F118_j11 (B : World) (R : Po) (c0 : Nat) (d0 : Heap) : Prop :=
 F118_j8 B R c0 d0
def F118 (B : World) (R : Po) (e0 : Nat) (f0 : Int) (h : Heap) : Prop :=
((decide (f0 = (0 : Int))) = true →
 Ec B 35 #[.float .f64 e0] (retE (fun g0 i0 => ∃ j0, g0 = .float .f64 j0 ∧
 F118_j8 B R j0 i0)
(pk R)) h) ∧
((decide (f0 = (0 : Int))) = false →
((decide (f0 < (0 : Int))) = true →
 F118_j11 B R (Op.negFloat .f64 e0) h) ∧
((decide (f0 < (0 : Int))) = false →
 F118_j11 B R e0 h))
def F118_L : Nat → List (Nat × TypeDesc) := fun _ => []
theorem F118_ok {B : World} {R : Ending → Heap → Prop} (e0 : Nat) (f0 : Int) {h : Heap} (H : F118 B R e0 f0 h) : Ec B 65 #[.float .f64 e0, .int .i64 f0] R h :=
 Ek Tryz.func65 (by kernel_rfl) (by kernel_rfl) (by kernel_rfl) F118_L [] (by kernel_rfl) H
end Go.Proofs
