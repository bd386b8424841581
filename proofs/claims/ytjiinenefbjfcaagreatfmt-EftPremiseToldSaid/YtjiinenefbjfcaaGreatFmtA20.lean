import Derived.Test.YtjiinenefbjfcaaGreatFmtA03
/- Here stand lemmas: what further functions come to (written by program). -/
set_option linter.unusedVariables false
namespace Go.Proofs
open Go Go.Eng
/-- math.ldexp -/
def F152_j39 (B : World) (R : Po) (a0 b0 : Int) (c0 : Nat) (d0 : Heap) : Prop :=
  0 ≤ (52 : Int) ∧
 Ec B 65 #[.int .u64 (bitsI .or .u64 (bitsI .andNot .u64 b0 (9218868437227405312 : Int)) (IntKind.u64.wrap ((IntKind.u64.wrap (IntKind.i64.wrap (a0 + (1023 : Int)))) * 2 ^ min (Int.toNat (52 : Int)) IntKind.u64.bits)))] (retE (fun e0 f0 => ∃ g0, e0 = .float .f64 g0 ∧
 flW .f64 (FloatKind.f64.format.mul c0 g0) c0 g0 fun i0 =>
 R (.returned (.float .f64 i0)) f0)
(pk R)) d0
def F152_j8 (B : World) (R : Po) (j0 : Nat) (k0 : Int) (l0 : Bool) (m0 : Heap) : Prop :=
(l0 = true →
 R (.returned (.float .f64 j0)) m0) ∧
(l0 = false →
 Ec B 109 #[.float .f64 j0] (retE (fun n0 o0 => ∃ p0 q0, n0 = .tuple #[.float .f64 p0, .int .i64 q0] ∧
 Ec B 66 #[.float .f64 p0] (retE (fun r0 s0 => ∃ t0, r0 = .int .u64 t0 ∧
0 ≤ (52 : Int) ∧
((decide ((IntKind.i64.wrap ((IntKind.i64.wrap (k0 + q0)) + (IntKind.i64.wrap ((bitsI .and .i64 (IntKind.i64.wrap (Int.fdiv t0 (2 ^ min (Int.toNat (52 : Int)) IntKind.u64.bits))) (2047 : Int)) - (1023 : Int))))) < (-1075 : Int))) = true →
 Ec B 43 #[.float .f64 0, .float .f64 p0] (retE (fun u0 v0 => ∃ w0, u0 = .float .f64 w0 ∧
 R (.returned (.float .f64 w0)) v0)
(pk R)) s0) ∧
((decide ((IntKind.i64.wrap ((IntKind.i64.wrap (k0 + q0)) + (IntKind.i64.wrap ((bitsI .and .i64 (IntKind.i64.wrap (Int.fdiv t0 (2 ^ min (Int.toNat (52 : Int)) IntKind.u64.bits))) (2047 : Int)) - (1023 : Int))))) < (-1075 : Int))) = false →
((decide ((1023 : Int) < (IntKind.i64.wrap ((IntKind.i64.wrap (k0 + q0)) + (IntKind.i64.wrap ((bitsI .and .i64 (IntKind.i64.wrap (Int.fdiv t0 (2 ^ min (Int.toNat (52 : Int)) IntKind.u64.bits))) (2047 : Int)) - (1023 : Int))))))) = true →
((FloatKind.f64.format.order p0 0 == some .lt) = true →
 Ec B 103 #[.int .i64 (-1 : Int)] (retE (fun x0 y0 => ∃ z0, x0 = .float .f64 z0 ∧
 R (.returned (.float .f64 z0)) y0)
(pk R)) s0) ∧
((FloatKind.f64.format.order p0 0 == some .lt) = false →
 Ec B 103 #[.int .i64 (1 : Int)] (retE (fun a1 b1 => ∃ c1, a1 = .float .f64 c1 ∧
 R (.returned (.float .f64 c1)) b1)
(pk R)) s0)) ∧
((decide ((1023 : Int) < (IntKind.i64.wrap ((IntKind.i64.wrap (k0 + q0)) + (IntKind.i64.wrap ((bitsI .and .i64 (IntKind.i64.wrap (Int.fdiv t0 (2 ^ min (Int.toNat (52 : Int)) IntKind.u64.bits))) (2047 : Int)) - (1023 : Int))))))) = false →
((decide ((IntKind.i64.wrap ((IntKind.i64.wrap (k0 + q0)) + (IntKind.i64.wrap ((bitsI .and .i64 (IntKind.i64.wrap (Int.fdiv t0 (2 ^ min (Int.toNat (52 : Int)) IntKind.u64.bits))) (2047 : Int)) - (1023 : Int))))) < (-1022 : Int))) = true →
 F152_j39 B R (IntKind.i64.wrap ((IntKind.i64.wrap ((IntKind.i64.wrap (k0 + q0)) + (IntKind.i64.wrap ((bitsI .and .i64 (IntKind.i64.wrap (Int.fdiv t0 (2 ^ min (Int.toNat (52 : Int)) IntKind.u64.bits))) (2047 : Int)) - (1023 : Int))))) + (53 : Int))) t0 4368491638549381120 s0) ∧
((decide ((IntKind.i64.wrap ((IntKind.i64.wrap (k0 + q0)) + (IntKind.i64.wrap ((bitsI .and .i64 (IntKind.i64.wrap (Int.fdiv t0 (2 ^ min (Int.toNat (52 : Int)) IntKind.u64.bits))) (2047 : Int)) - (1023 : Int))))) < (-1022 : Int))) = false →
 F152_j39 B R (IntKind.i64.wrap ((IntKind.i64.wrap (k0 + q0)) + (IntKind.i64.wrap ((bitsI .and .i64 (IntKind.i64.wrap (Int.fdiv t0 (2 ^ min (Int.toNat (52 : Int)) IntKind.u64.bits))) (2047 : Int)) - (1023 : Int))))) t0 4607182418800017408 s0))))
(pk R)) o0)
(pk R)) m0)
def F152 (B : World) (R : Po) (d1 : Nat) (e1 : Int) (h : Heap) : Prop :=
((FloatKind.f64.format.order d1 0 == some .eq) = true →
 R (.returned (.float .f64 d1)) h) ∧
((FloatKind.f64.format.order d1 0 == some .eq) = false →
 Ec B 67 #[.float .f64 d1, .int .i64 (0 : Int)] (retE (fun f1 g1 => ∃ i1, f1 = .bool i1 ∧
(i1 = true →
 F152_j8 B R d1 e1 true g1) ∧
(i1 = false →
 Ec B 108 #[.float .f64 d1] (retE (fun j1 k1 => ∃ l1, j1 = .bool l1 ∧
 F152_j8 B R d1 e1 l1 k1)
(pk R)) g1))
(pk R)) h)
def F152_L : Nat → List (Nat × TypeDesc) := fun _ => []
theorem F152_ok {B : World} {R : Ending → Heap → Prop} (d1 : Nat) (e1 : Int) {h : Heap} (H : F152 B R d1 e1 h) : Ec B 72 #[.float .f64 d1, .int .i64 e1] R h :=
 Ek Tryz.func72 (by kernel_rfl) (by kernel_rfl) (by kernel_rfl) F152_L [] (by kernel_rfl) H

/-- math.IsNaN -/
def F183 (B : World) (R : Po) (a0 : Nat) (h : Heap) : Prop :=
 R (.returned (.bool (FloatKind.f64.format.order a0 a0 != some .eq))) h
def F183_L : Nat → List (Nat × TypeDesc) := fun _ => []
theorem F183_ok {B : World} {R : Ending → Heap → Prop} (a0 : Nat) {h : Heap} (H : F183 B R a0 h) : Ec B 108 #[.float .f64 a0] R h :=
 Ek Tryz.func108 (by kernel_rfl) (by kernel_rfl) (by kernel_rfl) F183_L [] (by kernel_rfl) H

/-- math.normalize -/
def F184 (B : World) (R : Po) (a0 : Nat) (h : Heap) : Prop :=
 Ec B 106 #[.float .f64 a0] (retE (fun b0 c0 => ∃ d0, b0 = .float .f64 d0 ∧
((FloatKind.f64.format.order d0 4503599627370496 == some .lt) = true →
 flW .f64 (FloatKind.f64.format.mul a0 4841369599423283200) a0 4841369599423283200 fun e0 =>
 R (.returned (.tuple #[.float .f64 e0, .int .i64 (-52 : Int)])) c0) ∧
((FloatKind.f64.format.order d0 4503599627370496 == some .lt) = false →
 R (.returned (.tuple #[.float .f64 a0, .int .i64 (0 : Int)])) c0))
(pk R)) h
def F184_L : Nat → List (Nat × TypeDesc) := fun _ => []
theorem F184_ok {B : World} {R : Ending → Heap → Prop} (a0 : Nat) {h : Heap} (H : F184 B R a0 h) : Ec B 109 #[.float .f64 a0] R h :=
 Ek Tryz.func109 (by kernel_rfl) (by kernel_rfl) (by kernel_rfl) F184_L [] (by kernel_rfl) H

/-- math.Inf -/
def F185_j2 (B : World) (R : Po) (a0 : Int) (b0 : Heap) : Prop :=
 Ec B 65 #[.int .u64 a0] (retE (fun c0 d0 => ∃ e0, c0 = .float .f64 e0 ∧
 R (.returned (.float .f64 e0)) d0)
(pk R)) b0
def F185 (B : World) (R : Po) (f0 : Int) (h : Heap) : Prop :=
((decide ((0 : Int) ≤ f0)) = true →
 F185_j2 B R (9218868437227405312 : Int) h) ∧
((decide ((0 : Int) ≤ f0)) = false →
 F185_j2 B R (18442240474082181120 : Int) h)
def F185_L : Nat → List (Nat × TypeDesc) := fun _ => []
theorem F185_ok {B : World} {R : Ending → Heap → Prop} (f0 : Int) {h : Heap} (H : F185 B R f0 h) : Ec B 103 #[.int .i64 f0] R h :=
 Ek Tryz.func103 (by kernel_rfl) (by kernel_rfl) (by kernel_rfl) F185_L [] (by kernel_rfl) H
end Go.Proofs
namespace Go.Proofs
open Go Go.Eng
/-- math.Abs -/
def F94 (B : World) (R : Po) (a0 : Nat) (h : Heap) : Prop :=
 Ec B 66 #[.float .f64 a0] (retE (fun b0 c0 => ∃ d0, b0 = .int .u64 d0 ∧
 Ec B 65 #[.int .u64 (bitsI .andNot .u64 d0 (9223372036854775808 : Int))] (retE (fun e0 f0 => ∃ g0, e0 = .float .f64 g0 ∧
 R (.returned (.float .f64 g0)) f0)
(pk R)) c0)
(pk R)) h
def F94_L : Nat → List (Nat × TypeDesc) := fun _ => []
theorem F94_ok {B : World} {R : Ending → Heap → Prop} (a0 : Nat) {h : Heap} (H : F94 B R a0 h) : Ec B 106 #[.float .f64 a0] R h :=
 Ek Tryz.func106 (by kernel_rfl) (by kernel_rfl) (by kernel_rfl) F94_L [] (by kernel_rfl) H
end Go.Proofs
namespace Go.Proofs
open Go Go.Eng
/-- plumb/eft.FastTwoSum -/
def F20 (B : World) (R : Po) (a0 b0 : Int) (h : Heap) : Prop :=
 Ec B 29 #[.int .i64 a0] (retE (fun c0 d0 => ∃ e0, c0 = .float .f64 e0 ∧
 Ec B 29 #[.int .i64 b0] (retE (fun f0 g0 => ∃ i0, f0 = .float .f64 i0 ∧
 flW .f64 (FloatKind.f64.format.add e0 i0) e0 i0 fun j0 =>
 flW .f64 (FloatKind.f64.format.sub j0 e0) j0 e0 fun k0 =>
 flW .f64 (FloatKind.f64.format.sub i0 k0) i0 k0 fun l0 =>
 Ec B 31 #[.float .f64 j0] (retE (fun m0 n0 => ∃ o0, m0 = .int .i64 o0 ∧
 Ec B 31 #[.float .f64 l0] (retE (fun p0 q0 => ∃ r0, p0 = .int .i64 r0 ∧
 Ec B 32 #[.float .f64 j0, .float .f64 l0, .float .f64 e0, .float .f64 i0] (retE (fun s0 t0 => ∃ u0, s0 = .bool u0 ∧
 R (.returned (.tuple #[.int .i64 o0, .int .i64 r0, .bool u0])) t0)
(pk R)) q0)
(pk R)) n0)
(pk R)) g0)
(pk R)) d0)
(pk R)) h
def F20_L : Nat → List (Nat × TypeDesc) := fun _ => []
theorem F20_ok {B : World} {R : Ending → Heap → Prop} (a0 b0 : Int) {h : Heap} (H : F20 B R a0 b0 h) : Ec B 11 #[.int .i64 a0, .int .i64 b0] R h :=
 Ek Tryz.func11 (by kernel_rfl) (by kernel_rfl) (by kernel_rfl) F20_L [] (by kernel_rfl) H

/-- plumb/eft.TwoDiff -/
def F70 (B : World) (R : Po) (a0 b0 : Int) (h : Heap) : Prop :=
 Ec B 33 #[.int .i64 b0] (retE (fun c0 d0 => ∃ e0, c0 = .int .i64 e0 ∧
 Ec B 9 #[.int .i64 a0, .int .i64 e0] (retE (fun f0 g0 => ∃ i0 j0 k0, f0 = .tuple #[.int .i64 i0, .int .i64 j0, .bool k0] ∧
 R (.returned (.tuple #[.int .i64 i0, .int .i64 j0, .bool k0])) g0)
(pk R)) d0)
(pk R)) h
def F70_L : Nat → List (Nat × TypeDesc) := fun _ => []
theorem F70_ok {B : World} {R : Ending → Heap → Prop} (a0 b0 : Int) {h : Heap} (H : F70 B R a0 b0 h) : Ec B 10 #[.int .i64 a0, .int .i64 b0] R h :=
 Ek Tryz.func10 (by kernel_rfl) (by kernel_rfl) (by kernel_rfl) F70_L [] (by kernel_rfl) H
end Go.Proofs
namespace Go.Proofs
open Go Go.Eng
/-- plumb/plumblaw6.size -/
def F26_j24 (B : World) (R : Po) (a0 : Bool) (b0 : Heap) : Prop :=
 R (.returned (.bool a0)) b0
def F26 (B : World) (R : Po) (c0 d0 : Int) (h : Heap) : Prop :=
 Ec B 19 #[.bool false, .int .i64 (1 : Int), .int .i64 d0] (retE (fun e0 f0 => ∃ g0 i0, e0 = .tuple #[.int .i64 g0, .bool i0] ∧
(i0 = true →
 Ec B 15 #[.int .i64 c0] (retE (fun j0 k0 => ∃ l0, j0 = .int .i64 l0 ∧
((decide (l0 < (3 : Int))) = true →
 Ec B 14 #[.int .i64 c0] (retE (fun m0 n0 => ∃ o0, m0 = .int .i64 o0 ∧
 Ec B 13 #[.int .i64 o0, .int .i64 g0] (retE (fun p0 q0 => ∃ r0, p0 = .bool r0 ∧
 F26_j24 B R r0 q0)
(pk R)) n0)
(pk R)) k0) ∧
((decide (l0 < (3 : Int))) = false →
 F26_j24 B R false k0))
(pk R)) f0) ∧
(i0 = false →
(false = true →
 Ec B 14 #[.int .i64 c0] (retE (fun s0 t0 => ∃ u0, s0 = .int .i64 u0 ∧
 Ec B 13 #[.int .i64 u0, .int .i64 g0] (retE (fun v0 w0 => ∃ x0, v0 = .bool x0 ∧
 F26_j24 B R x0 w0)
(pk R)) t0)
(pk R)) f0) ∧
(false = false →
 F26_j24 B R false f0)))
(pk R)) h
def F26_L : Nat → List (Nat × TypeDesc) := fun _ => []
theorem F26_ok {B : World} {R : Ending → Heap → Prop} (c0 d0 : Int) {h : Heap} (H : F26 B R c0 d0 h) : Ec B 5 #[.int .i64 c0, .int .i64 d0] R h :=
 Ek Tryz.func5 (by kernel_rfl) (by kernel_rfl) (by kernel_rfl) F26_L [] (by kernel_rfl) H

/-- plumb/bits.Less -/
def F32 (B : World) (R : Po) (a0 b0 : Int) (h : Heap) : Prop :=
 Ec B 29 #[.int .i64 a0] (retE (fun c0 d0 => ∃ e0, c0 = .float .f64 e0 ∧
 Ec B 29 #[.int .i64 b0] (retE (fun f0 g0 => ∃ i0, f0 = .float .f64 i0 ∧
 R (.returned (.bool (FloatKind.f64.format.order e0 i0 == some .lt))) g0)
(pk R)) d0)
(pk R)) h
def F32_L : Nat → List (Nat × TypeDesc) := fun _ => []
theorem F32_ok {B : World} {R : Ending → Heap → Prop} (a0 b0 : Int) {h : Heap} (H : F32 B R a0 b0 h) : Ec B 13 #[.int .i64 a0, .int .i64 b0] R h :=
 Ek Tryz.func13 (by kernel_rfl) (by kernel_rfl) (by kernel_rfl) F32_L [] (by kernel_rfl) H

/-- plumb/bits.Abs -/
def F33 (B : World) (R : Po) (a0 : Int) (h : Heap) : Prop :=
 Ec B 15 #[.int .i64 a0] (retE (fun b0 c0 => ∃ d0, b0 = .int .i64 d0 ∧
((decide (d0 = (4 : Int))) = true →
 R (.returned (.int .i64 (9221120237041090561 : Int))) c0) ∧
((decide (d0 = (4 : Int))) = false →
 R (.returned (.int .i64 (bitsI .andNot .i64 a0 (-9223372036854775808 : Int)))) c0))
(pk R)) h
def F33_L : Nat → List (Nat × TypeDesc) := fun _ => []
theorem F33_ok {B : World} {R : Ending → Heap → Prop} (a0 : Int) {h : Heap} (H : F33 B R a0 h) : Ec B 14 #[.int .i64 a0] R h :=
 Ek Tryz.func14 (by kernel_rfl) (by kernel_rfl) (by kernel_rfl) F33_L [] (by kernel_rfl) H

/-- plumb/bits.Join -/
def F73_j24 (B : World) (R : Po) (a0 : Nat) (b0 : Heap) : Prop :=
 Ec B 31 #[.float .f64 a0] (retE (fun c0 d0 => ∃ e0, c0 = .int .i64 e0 ∧
 R (.returned (.tuple #[.int .i64 e0, .bool true])) d0)
(pk R)) b0
def F73 (B : World) (R : Po) (f0 : Bool) (g0 i0 : Int) (h : Heap) : Prop :=
((decide (g0 < (0 : Int))) = true →
 R (.returned (.tuple #[.int .i64 (0 : Int), .bool false])) h) ∧
((decide (g0 < (0 : Int))) = false →
 Ec B 41 #[.int .i64 i0] (retE (fun j0 k0 => ∃ l0, j0 = .int .i64 l0 ∧
 Ec B 40 #[.float .f64 (FloatKind.f64.nearest g0), .int .i64 l0] (retE (fun m0 n0 => ∃ o0, m0 = .float .f64 o0 ∧
 Ec B 42 #[.float .f64 o0, .int .i64 g0, .int .i64 i0] (retE (fun p0 q0 => ∃ r0, p0 = .bool r0 ∧
((!r0) = true →
 R (.returned (.tuple #[.int .i64 (0 : Int), .bool false])) q0) ∧
((!r0) = false →
(f0 = true →
 Ec B 43 #[.float .f64 o0, .float .f64 13830554455654793216] (retE (fun s0 t0 => ∃ u0, s0 = .float .f64 u0 ∧
 F73_j24 B R u0 t0)
(pk R)) q0) ∧
(f0 = false →
 F73_j24 B R o0 q0)))
(pk R)) n0)
(pk R)) k0)
(pk R)) h)
def F73_L : Nat → List (Nat × TypeDesc) := fun _ => []
theorem F73_ok {B : World} {R : Ending → Heap → Prop} (f0 : Bool) (g0 i0 : Int) {h : Heap} (H : F73 B R f0 g0 i0 h) : Ec B 19 #[.bool f0, .int .i64 g0, .int .i64 i0] R h :=
 Ek Tryz.func19 (by kernel_rfl) (by kernel_rfl) (by kernel_rfl) F73_L [] (by kernel_rfl) H

/-- plumb/bits.clamp -/
def F135 (B : World) (R : Po) (a0 : Int) (h : Heap) : Prop :=
 R (.returned (.int .i64 (if (3000 : Int) < (if (-3000 : Int) > a0 then (-3000 : Int) else a0) then (3000 : Int) else (if (-3000 : Int) > a0 then (-3000 : Int) else a0)))) h
def F135_L : Nat → List (Nat × TypeDesc) := fun _ => []
theorem F135_ok {B : World} {R : Ending → Heap → Prop} (a0 : Int) {h : Heap} (H : F135 B R a0 h) : Ec B 41 #[.int .i64 a0] R h :=
 Ek Tryz.func41 (by kernel_rfl) (by kernel_rfl) (by kernel_rfl) F135_L [] (by kernel_rfl) H

/-- plumb/bits.same -/
def F136_j45 (B : World) (R : Po) (a0 : Bool) (b0 : Heap) : Prop :=
 R (.returned (.bool a0)) b0
def F136_j9 (B : World) (R : Po) (c0 : Nat) (d0 e0 : Int) (f0 : Bool) (g0 : Heap) : Prop :=
(f0 = true →
 R (.returned (.bool false)) g0) ∧
(f0 = false →
((decide (d0 = (0 : Int))) = true →
 R (.returned (.bool true)) g0) ∧
((decide (d0 = (0 : Int))) = false →
 Ec B 41 #[.int .i64 e0] (retE (fun i0 j0 => ∃ k0, i0 = .int .i64 k0 ∧
 Ec B 73 #[.int .i64 d0, .int .i64 k0] (retE (fun l0 m0 => ∃ n0 o0, l0 = .tuple #[.int .i64 n0, .int .i64 o0] ∧
 Ec B 31 #[.float .f64 c0] (retE (fun p0 q0 => ∃ r0, p0 = .int .i64 r0 ∧
 Ec B 21 #[.int .i64 r0] (retE (fun s0 t0 => ∃ u0 v0 w0 x0, s0 = .tuple #[.bool u0, .int .i64 v0, .int .i64 w0, .bool x0] ∧
 Ec B 73 #[.int .i64 v0, .int .i64 w0] (retE (fun y0 z0 => ∃ a1 b1, y0 = .tuple #[.int .i64 a1, .int .i64 b1] ∧
((decide (n0 = a1)) = true →
 F136_j45 B R (decide (o0 = b1)) z0) ∧
((decide (n0 = a1)) = false →
 F136_j45 B R false z0))
(pk R)) t0)
(pk R)) q0)
(pk R)) m0)
(pk R)) j0)
(pk R)) g0))
def F136 (B : World) (R : Po) (c1 : Nat) (d1 e1 : Int) (h : Heap) : Prop :=
 Ec B 67 #[.float .f64 c1, .int .i64 (0 : Int)] (retE (fun f1 g1 => ∃ i1, f1 = .bool i1 ∧
(i1 = true →
 F136_j9 B R c1 d1 e1 true g1) ∧
(i1 = false →
 F136_j9 B R c1 d1 e1 (!((FloatKind.f64.format.order c1 0 == some .eq) == (decide (d1 = (0 : Int))))) g1))
(pk R)) h
def F136_L : Nat → List (Nat × TypeDesc) := fun _ => []
theorem F136_ok {B : World} {R : Ending → Heap → Prop} (c1 : Nat) (d1 e1 : Int) {h : Heap} (H : F136 B R c1 d1 e1 h) : Ec B 42 #[.float .f64 c1, .int .i64 d1, .int .i64 e1] R h :=
 Ek Tryz.func42 (by kernel_rfl) (by kernel_rfl) (by kernel_rfl) F136_L [] (by kernel_rfl) H

/-- math.Copysign -/
def F137 (B : World) (R : Po) (a0 b0 : Nat) (h : Heap) : Prop :=
 Ec B 66 #[.float .f64 a0] (retE (fun c0 d0 => ∃ e0, c0 = .int .u64 e0 ∧
 Ec B 66 #[.float .f64 b0] (retE (fun f0 g0 => ∃ i0, f0 = .int .u64 i0 ∧
 Ec B 65 #[.int .u64 (bitsI .or .u64 (bitsI .andNot .u64 e0 (9223372036854775808 : Int)) (bitsI .and .u64 i0 (9223372036854775808 : Int)))] (retE (fun j0 k0 => ∃ l0, j0 = .float .f64 l0 ∧
 R (.returned (.float .f64 l0)) k0)
(pk R)) g0)
(pk R)) d0)
(pk R)) h
def F137_L : Nat → List (Nat × TypeDesc) := fun _ => []
theorem F137_ok {B : World} {R : Ending → Heap → Prop} (a0 b0 : Nat) {h : Heap} (H : F137 B R a0 b0 h) : Ec B 43 #[.float .f64 a0, .float .f64 b0] R h :=
 Ek Tryz.func43 (by kernel_rfl) (by kernel_rfl) (by kernel_rfl) F137_L [] (by kernel_rfl) H

/-- plumb/bits.reduced -/
def F181 (B : World) (R : Po) (a0 b0 : Int) (h : Heap) : Prop :=
 ∃ c0 : Lp, ∃ d0, c0 d0 [.int .i64 a0, .int .i64 b0] h ∧
∀ (e0 : Nat) (f0 : Heap) (g0 i0 : Int), c0 e0 [.int .i64 g0, .int .i64 i0] f0 → ∀ _r : Nat → Value,
((decide ((bitsI .and .i64 g0 (1 : Int)) = (0 : Int))) = true →
 0 ≤ (1 : Int) ∧
∃ j0, j0 < e0 ∧ c0 j0 [.int .i64 (Int.fdiv g0 (2 ^ min (Int.toNat (1 : Int)) IntKind.i64.bits)), .int .i64 (IntKind.i64.wrap (i0 + (1 : Int)))] f0) ∧
((decide ((bitsI .and .i64 g0 (1 : Int)) = (0 : Int))) = false →
 R (.returned (.tuple #[.int .i64 g0, .int .i64 i0])) f0)
def F181_L : Nat → List (Nat × TypeDesc) := fun i => match i with
  | 1 => [(0, .int .i64), (1, .int .i64)]
  | _ => []
theorem F181_ok {B : World} {R : Ending → Heap → Prop} (a0 b0 : Int) {h : Heap} (H : F181 B R a0 b0 h) : Ec B 73 #[.int .i64 a0, .int .i64 b0] R h :=
 Ek Tryz.func73 (by kernel_rfl) (by kernel_rfl) (by kernel_rfl) F181_L [] (by kernel_rfl) H

/-- math.Ldexp -/
def F93 (B : World) (R : Po) (a0 : Nat) (b0 : Int) (h : Heap) : Prop :=
(false = true →
 Ec B 71 #[.float .f64 a0, .int .i64 b0] (retE (fun c0 d0 => ∃ e0, c0 = .float .f64 e0 ∧
 R (.returned (.float .f64 e0)) d0)
(pk R)) h) ∧
(false = false →
 Ec B 72 #[.float .f64 a0, .int .i64 b0] (retE (fun f0 g0 => ∃ i0, f0 = .float .f64 i0 ∧
 R (.returned (.float .f64 i0)) g0)
(pk R)) h)
def F93_L : Nat → List (Nat × TypeDesc) := fun _ => []
theorem F93_ok {B : World} {R : Ending → Heap → Prop} (a0 : Nat) (b0 : Int) {h : Heap} (H : F93 B R a0 b0 h) : Ec B 40 #[.float .f64 a0, .int .i64 b0] R h :=
 Ek Tryz.func40 (by kernel_rfl) (by kernel_rfl) (by kernel_rfl) F93_L [] (by kernel_rfl) H
end Go.Proofs
