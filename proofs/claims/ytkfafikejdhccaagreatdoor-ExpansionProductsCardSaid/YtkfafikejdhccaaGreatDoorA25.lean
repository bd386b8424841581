import Derived.Test.YtkfafikejdhccaaGreatDoorA20
/- Here stand lemmas: what further functions come to (written by program). -/
set_option linter.unusedVariables false
namespace Go.Proofs
open Go Go.Eng
/-- math.Ldexp -/
def F93 (B : World) (R : Po) (a0 : Nat) (b0 : Int) (h : Heap) : Prop :=
(false = true →
 Ec B 151 #[.float .f64 a0, .int .i64 b0] (retE (fun c0 d0 => ∃ e0, c0 = .float .f64 e0 ∧
 R (.returned (.float .f64 e0)) d0)
(pk R)) h) ∧
(false = false →
 Ec B 152 #[.float .f64 a0, .int .i64 b0] (retE (fun f0 g0 => ∃ i0, f0 = .float .f64 i0 ∧
 R (.returned (.float .f64 i0)) g0)
(pk R)) h)
def F93_L : Nat → List (Nat × TypeDesc) := fun _ => []
theorem F93_ok {B : World} {R : Ending → Heap → Prop} (a0 : Nat) (b0 : Int) {h : Heap} (H : F93 B R a0 b0 h) : Ec B 93 #[.float .f64 a0, .int .i64 b0] R h :=
 Ek Tryz.func93 (by kernel_rfl) (by kernel_rfl) (by kernel_rfl) F93_L [] (by kernel_rfl) H
end Go.Proofs
namespace Go.Proofs
open Go Go.Eng
/-- math.ldexp -/
def F152_j39 (B : World) (R : Po) (a0 b0 : Int) (c0 : Nat) (d0 : Heap) : Prop :=
  0 ≤ (52 : Int) ∧
 Ec B 116 #[.int .u64 (bitsI .or .u64 (bitsI .andNot .u64 b0 (9218868437227405312 : Int)) (IntKind.u64.wrap ((IntKind.u64.wrap (IntKind.i64.wrap (a0 + (1023 : Int)))) * 2 ^ min (Int.toNat (52 : Int)) IntKind.u64.bits)))] (retE (fun e0 f0 => ∃ g0, e0 = .float .f64 g0 ∧
 flW .f64 (FloatKind.f64.format.mul c0 g0) c0 g0 fun i0 =>
 R (.returned (.float .f64 i0)) f0)
(pk R)) d0
def F152_j8 (B : World) (R : Po) (j0 : Nat) (k0 : Int) (l0 : Bool) (m0 : Heap) : Prop :=
(l0 = true →
 R (.returned (.float .f64 j0)) m0) ∧
(l0 = false →
 Ec B 184 #[.float .f64 j0] (retE (fun n0 o0 => ∃ p0 q0, n0 = .tuple #[.float .f64 p0, .int .i64 q0] ∧
 Ec B 117 #[.float .f64 p0] (retE (fun r0 s0 => ∃ t0, r0 = .int .u64 t0 ∧
0 ≤ (52 : Int) ∧
((decide ((IntKind.i64.wrap ((IntKind.i64.wrap (k0 + q0)) + (IntKind.i64.wrap ((bitsI .and .i64 (IntKind.i64.wrap (Int.fdiv t0 (2 ^ min (Int.toNat (52 : Int)) IntKind.u64.bits))) (2047 : Int)) - (1023 : Int))))) < (-1075 : Int))) = true →
 Ec B 137 #[.float .f64 0, .float .f64 p0] (retE (fun u0 v0 => ∃ w0, u0 = .float .f64 w0 ∧
 R (.returned (.float .f64 w0)) v0)
(pk R)) s0) ∧
((decide ((IntKind.i64.wrap ((IntKind.i64.wrap (k0 + q0)) + (IntKind.i64.wrap ((bitsI .and .i64 (IntKind.i64.wrap (Int.fdiv t0 (2 ^ min (Int.toNat (52 : Int)) IntKind.u64.bits))) (2047 : Int)) - (1023 : Int))))) < (-1075 : Int))) = false →
((decide ((1023 : Int) < (IntKind.i64.wrap ((IntKind.i64.wrap (k0 + q0)) + (IntKind.i64.wrap ((bitsI .and .i64 (IntKind.i64.wrap (Int.fdiv t0 (2 ^ min (Int.toNat (52 : Int)) IntKind.u64.bits))) (2047 : Int)) - (1023 : Int))))))) = true →
((FloatKind.f64.format.order p0 0 == some .lt) = true →
 Ec B 185 #[.int .i64 (-1 : Int)] (retE (fun x0 y0 => ∃ z0, x0 = .float .f64 z0 ∧
 R (.returned (.float .f64 z0)) y0)
(pk R)) s0) ∧
((FloatKind.f64.format.order p0 0 == some .lt) = false →
 Ec B 185 #[.int .i64 (1 : Int)] (retE (fun a1 b1 => ∃ c1, a1 = .float .f64 c1 ∧
 R (.returned (.float .f64 c1)) b1)
(pk R)) s0)) ∧
((decide ((1023 : Int) < (IntKind.i64.wrap ((IntKind.i64.wrap (k0 + q0)) + (IntKind.i64.wrap ((bitsI .and .i64 (IntKind.i64.wrap (Int.fdiv t0 (2 ^ min (Int.toNat (52 : Int)) IntKind.u64.bits))) (2047 : Int)) - (1023 : Int))))))) = false →
((decide ((IntKind.i64.wrap ((IntKind.i64.wrap (k0 + q0)) + (IntKind.i64.wrap ((bitsI .and .i64 (IntKind.i64.wrap (Int.fdiv t0 (2 ^ min (Int.toNat (52 : Int)) IntKind.u64.bits))) (2047 : Int)) - (1023 : Int))))) < (-1022 : Int))) = true →
 F152_j39 B R (IntKind.i64.wrap ((IntKind.i64.wrap ((IntKind.i64.wrap (k0 + q0)) + (IntKind.i64.wrap ((bitsI .and .i64 (IntKind.i64.wrap (Int.fdiv t0 (2 ^ min (Int.toNat (52 : Int)) IntKind.u64.bits))) (2047 : Int)) - (1023 : Int))))) + (53 : Int))) t0 4368491638549381120 s0) ∧
((decide ((IntKind.i64.wrap ((IntKind.i64.wrap (k0 + q0)) + (IntKind.i64.wrap ((bitsI .and .i64 (IntKind.i64.wrap (Int.fdiv t0 (2 ^ min (Int.toNat (52 : Int)) IntKind.u64.bits))) (2047 : Int)) - (1023 : Int))))) < (-1022 : Int))) = false →
 F152_j39 B R (IntKind.i64.wrap ((IntKind.i64.wrap (k0 + q0)) + (IntKind.i64.wrap ((bitsI .and .i64 (IntKind.i64.wrap (Int.fdiv t0 (2 ^ min (Int.toNat (52 : Int)) IntKind.u64.bits))) (2047 : Int)) - (1023 : Int))))) t0 4607182418800017408 s0))))
(pk R)) o0)
(pk R)) m0)
def F152 (B : World) (R : Po) (d1 : Nat) (e1 : Int) (h : Heap) : Prop :=
((FloatKind.f64.format.order d1 0 == some .eq) = true →
 R (.returned (.float .f64 d1)) h) ∧
((FloatKind.f64.format.order d1 0 == some .eq) = false →
 Ec B 118 #[.float .f64 d1, .int .i64 (0 : Int)] (retE (fun f1 g1 => ∃ i1, f1 = .bool i1 ∧
(i1 = true →
 F152_j8 B R d1 e1 true g1) ∧
(i1 = false →
 Ec B 183 #[.float .f64 d1] (retE (fun j1 k1 => ∃ l1, j1 = .bool l1 ∧
 F152_j8 B R d1 e1 l1 k1)
(pk R)) g1))
(pk R)) h)
def F152_L : Nat → List (Nat × TypeDesc) := fun _ => []
theorem F152_ok {B : World} {R : Ending → Heap → Prop} (d1 : Nat) (e1 : Int) {h : Heap} (H : F152 B R d1 e1 h) : Ec B 152 #[.float .f64 d1, .int .i64 e1] R h :=
 Ek Tryz.func152 (by kernel_rfl) (by kernel_rfl) (by kernel_rfl) F152_L [] (by kernel_rfl) H

/-- math.IsNaN -/
def F183 (B : World) (R : Po) (a0 : Nat) (h : Heap) : Prop :=
 R (.returned (.bool (FloatKind.f64.format.order a0 a0 != some .eq))) h
def F183_L : Nat → List (Nat × TypeDesc) := fun _ => []
theorem F183_ok {B : World} {R : Ending → Heap → Prop} (a0 : Nat) {h : Heap} (H : F183 B R a0 h) : Ec B 183 #[.float .f64 a0] R h :=
 Ek Tryz.func183 (by kernel_rfl) (by kernel_rfl) (by kernel_rfl) F183_L [] (by kernel_rfl) H

/-- math.normalize -/
def F184 (B : World) (R : Po) (a0 : Nat) (h : Heap) : Prop :=
 Ec B 94 #[.float .f64 a0] (retE (fun b0 c0 => ∃ d0, b0 = .float .f64 d0 ∧
((FloatKind.f64.format.order d0 4503599627370496 == some .lt) = true →
 flW .f64 (FloatKind.f64.format.mul a0 4841369599423283200) a0 4841369599423283200 fun e0 =>
 R (.returned (.tuple #[.float .f64 e0, .int .i64 (-52 : Int)])) c0) ∧
((FloatKind.f64.format.order d0 4503599627370496 == some .lt) = false →
 R (.returned (.tuple #[.float .f64 a0, .int .i64 (0 : Int)])) c0))
(pk R)) h
def F184_L : Nat → List (Nat × TypeDesc) := fun _ => []
theorem F184_ok {B : World} {R : Ending → Heap → Prop} (a0 : Nat) {h : Heap} (H : F184 B R a0 h) : Ec B 184 #[.float .f64 a0] R h :=
 Ek Tryz.func184 (by kernel_rfl) (by kernel_rfl) (by kernel_rfl) F184_L [] (by kernel_rfl) H

end Go.Proofs
