import Derived.Test.YtkfafikejdhccaaGreatDoorA20
/- Here stand lemmas: what further functions come to (written by program). -/
set_option linter.unusedVariables false
namespace Go.Proofs
open Go Go.Eng
/-- plumb/bits.Less -/
def F32 (B : World) (R : Ending → Heap → Prop) (a1 : Int) (a2 : Int) (h : Heap) : Prop :=
  Ent Tryz.prog B 54 #[.int .i64 a1] (retE (fun v3 h4 => ∃ x7, v3 = .float .f64 x7 ∧
 Ent Tryz.prog B 54 #[.int .i64 a2] (retE (fun v8 h9 => ∃ x12, v8 = .float .f64 x12 ∧
 R (.returned (.bool (FloatKind.f64.format.order x7 x12 == some .lt))) h9)
 (fun ch10 h11 => R (.panicked ch10) h11)) h4)
 (fun ch5 h6 => R (.panicked ch5) h6)) h
def F32_L : Nat → List (Nat × TypeDesc) := fun _ => []
theorem F32_W (B : World) (R : Ending → Heap → Prop) (a1 : Int) (a2 : Int) (h : Heap) : W Tryz.prog B Tryz.f32.ntmps F32_L (prune [] (codeOf Tryz.f32)) (endQ Tryz.prog Tryz.f32 R) (env0 #[.int .i64 a1, .int .i64 a2]) h = F32 B R a1 a2 h := by kernel_rfl
theorem F32_ok {B : World} {R : Ending → Heap → Prop} (a1 : Int) (a2 : Int) {h : Heap} (H : F32 B R a1 a2 h) : Ent Tryz.prog B 32 #[.int .i64 a1, .int .i64 a2] R h :=
  Ent_of_W mixed Tryz.func32 (by kernel_rfl) (by kernel_rfl) (by kernel_rfl) F32_L [] (by rw [F32_W]; exact H)

/-- plumb/bits.Abs -/
def F33 (B : World) (R : Ending → Heap → Prop) (a1 : Int) (h : Heap) : Prop :=
  Ent Tryz.prog B 17 #[.int .i64 a1] (retE (fun v2 h3 => ∃ x6, v2 = .int .i64 x6 ∧
((decide (x6 = (4 : Int))) = true →
 R (.returned (.int .i64 (9221120237041090561 : Int))) h3) ∧
((decide (x6 = (4 : Int))) = false →
 R (.returned (.int .i64 (bitsI .andNot .i64 a1 (-9223372036854775808 : Int)))) h3))
 (fun ch4 h5 => R (.panicked ch4) h5)) h
def F33_L : Nat → List (Nat × TypeDesc) := fun _ => []
theorem F33_W (B : World) (R : Ending → Heap → Prop) (a1 : Int) (h : Heap) : W Tryz.prog B Tryz.f33.ntmps F33_L (prune [] (codeOf Tryz.f33)) (endQ Tryz.prog Tryz.f33 R) (env0 #[.int .i64 a1]) h = F33 B R a1 h := by kernel_rfl
theorem F33_ok {B : World} {R : Ending → Heap → Prop} (a1 : Int) {h : Heap} (H : F33 B R a1 h) : Ent Tryz.prog B 33 #[.int .i64 a1] R h :=
  Ent_of_W mixed Tryz.func33 (by kernel_rfl) (by kernel_rfl) (by kernel_rfl) F33_L [] (by rw [F33_W]; exact H)

/-- math.Ldexp -/
def F93 (B : World) (R : Ending → Heap → Prop) (a1 : Nat) (a2 : Int) (h : Heap) : Prop :=
  (false = true →
 Ent Tryz.prog B 151 #[.float .f64 a1, .int .i64 a2] (retE (fun v3 h4 => ∃ x7, v3 = .float .f64 x7 ∧
 R (.returned (.float .f64 x7)) h4)
 (fun ch5 h6 => R (.panicked ch5) h6)) h) ∧
(false = false →
 Ent Tryz.prog B 152 #[.float .f64 a1, .int .i64 a2] (retE (fun v8 h9 => ∃ x12, v8 = .float .f64 x12 ∧
 R (.returned (.float .f64 x12)) h9)
 (fun ch10 h11 => R (.panicked ch10) h11)) h)
def F93_L : Nat → List (Nat × TypeDesc) := fun _ => []
theorem F93_W (B : World) (R : Ending → Heap → Prop) (a1 : Nat) (a2 : Int) (h : Heap) : W Tryz.prog B Tryz.f93.ntmps F93_L (prune [] (codeOf Tryz.f93)) (endQ Tryz.prog Tryz.f93 R) (env0 #[.float .f64 a1, .int .i64 a2]) h = F93 B R a1 a2 h := by kernel_rfl
theorem F93_ok {B : World} {R : Ending → Heap → Prop} (a1 : Nat) (a2 : Int) {h : Heap} (H : F93 B R a1 a2 h) : Ent Tryz.prog B 93 #[.float .f64 a1, .int .i64 a2] R h :=
  Ent_of_W mixed Tryz.func93 (by kernel_rfl) (by kernel_rfl) (by kernel_rfl) F93_L [] (by rw [F93_W]; exact H)
end Go.Proofs
namespace Go.Proofs
open Go Go.Eng
/-- math.ldexp -/
def F152_j39 (B : World) (R : Ending → Heap → Prop) (y40 : Int) (y41 : Int) (y42 : Nat) (h43 : Heap) : Prop :=
  0 ≤ (52 : Int) ∧
 Ent Tryz.prog B 116 #[.int .u64 (bitsI .or .u64 (bitsI .andNot .u64 y41 (9218868437227405312 : Int)) (IntKind.u64.wrap ((IntKind.u64.wrap (IntKind.i64.wrap (y40 + (1023 : Int)))) * 2 ^ min (Int.toNat (52 : Int)) IntKind.u64.bits)))] (retE (fun v44 h45 => ∃ x48, v44 = .float .f64 x48 ∧
 flW .f64 (FloatKind.f64.format.mul y42 x48) y42 x48 fun f49 =>
 R (.returned (.float .f64 f49)) h45)
 (fun ch46 h47 => R (.panicked ch46) h47)) h43
def F152_j8 (B : World) (R : Ending → Heap → Prop) (y9 : Nat) (y10 : Int) (y11 : Bool) (h12 : Heap) : Prop :=
  (y11 = true →
 R (.returned (.float .f64 y9)) h12) ∧
(y11 = false →
 Ent Tryz.prog B 184 #[.float .f64 y9] (retE (fun v13 h14 => ∃ x17 x18, v13 = .tuple #[.float .f64 x17, .int .i64 x18] ∧
 Ent Tryz.prog B 117 #[.float .f64 x17] (retE (fun v19 h20 => ∃ x23, v19 = .int .u64 x23 ∧
0 ≤ (52 : Int) ∧
((decide ((IntKind.i64.wrap ((IntKind.i64.wrap (y10 + x18)) + (IntKind.i64.wrap ((bitsI .and .i64 (IntKind.i64.wrap (Int.fdiv x23 (2 ^ min (Int.toNat (52 : Int)) IntKind.u64.bits))) (2047 : Int)) - (1023 : Int))))) < (-1075 : Int))) = true →
 Ent Tryz.prog B 137 #[.float .f64 0, .float .f64 x17] (retE (fun v24 h25 => ∃ x28, v24 = .float .f64 x28 ∧
 R (.returned (.float .f64 x28)) h25)
 (fun ch26 h27 => R (.panicked ch26) h27)) h20) ∧
((decide ((IntKind.i64.wrap ((IntKind.i64.wrap (y10 + x18)) + (IntKind.i64.wrap ((bitsI .and .i64 (IntKind.i64.wrap (Int.fdiv x23 (2 ^ min (Int.toNat (52 : Int)) IntKind.u64.bits))) (2047 : Int)) - (1023 : Int))))) < (-1075 : Int))) = false →
 ((decide ((1023 : Int) < (IntKind.i64.wrap ((IntKind.i64.wrap (y10 + x18)) + (IntKind.i64.wrap ((bitsI .and .i64 (IntKind.i64.wrap (Int.fdiv x23 (2 ^ min (Int.toNat (52 : Int)) IntKind.u64.bits))) (2047 : Int)) - (1023 : Int))))))) = true →
 ((FloatKind.f64.format.order x17 0 == some .lt) = true →
 Ent Tryz.prog B 185 #[.int .i64 (-1 : Int)] (retE (fun v29 h30 => ∃ x33, v29 = .float .f64 x33 ∧
 R (.returned (.float .f64 x33)) h30)
 (fun ch31 h32 => R (.panicked ch31) h32)) h20) ∧
((FloatKind.f64.format.order x17 0 == some .lt) = false →
 Ent Tryz.prog B 185 #[.int .i64 (1 : Int)] (retE (fun v34 h35 => ∃ x38, v34 = .float .f64 x38 ∧
 R (.returned (.float .f64 x38)) h35)
 (fun ch36 h37 => R (.panicked ch36) h37)) h20)) ∧
((decide ((1023 : Int) < (IntKind.i64.wrap ((IntKind.i64.wrap (y10 + x18)) + (IntKind.i64.wrap ((bitsI .and .i64 (IntKind.i64.wrap (Int.fdiv x23 (2 ^ min (Int.toNat (52 : Int)) IntKind.u64.bits))) (2047 : Int)) - (1023 : Int))))))) = false →
 ((decide ((IntKind.i64.wrap ((IntKind.i64.wrap (y10 + x18)) + (IntKind.i64.wrap ((bitsI .and .i64 (IntKind.i64.wrap (Int.fdiv x23 (2 ^ min (Int.toNat (52 : Int)) IntKind.u64.bits))) (2047 : Int)) - (1023 : Int))))) < (-1022 : Int))) = true →
 F152_j39 B R (IntKind.i64.wrap ((IntKind.i64.wrap ((IntKind.i64.wrap (y10 + x18)) + (IntKind.i64.wrap ((bitsI .and .i64 (IntKind.i64.wrap (Int.fdiv x23 (2 ^ min (Int.toNat (52 : Int)) IntKind.u64.bits))) (2047 : Int)) - (1023 : Int))))) + (53 : Int))) x23 4368491638549381120 h20) ∧
((decide ((IntKind.i64.wrap ((IntKind.i64.wrap (y10 + x18)) + (IntKind.i64.wrap ((bitsI .and .i64 (IntKind.i64.wrap (Int.fdiv x23 (2 ^ min (Int.toNat (52 : Int)) IntKind.u64.bits))) (2047 : Int)) - (1023 : Int))))) < (-1022 : Int))) = false →
 F152_j39 B R (IntKind.i64.wrap ((IntKind.i64.wrap (y10 + x18)) + (IntKind.i64.wrap ((bitsI .and .i64 (IntKind.i64.wrap (Int.fdiv x23 (2 ^ min (Int.toNat (52 : Int)) IntKind.u64.bits))) (2047 : Int)) - (1023 : Int))))) x23 4607182418800017408 h20))))
 (fun ch21 h22 => R (.panicked ch21) h22)) h14)
 (fun ch15 h16 => R (.panicked ch15) h16)) h12)
def F152 (B : World) (R : Ending → Heap → Prop) (a1 : Nat) (a2 : Int) (h : Heap) : Prop :=
  ((FloatKind.f64.format.order a1 0 == some .eq) = true →
 R (.returned (.float .f64 a1)) h) ∧
((FloatKind.f64.format.order a1 0 == some .eq) = false →
 Ent Tryz.prog B 118 #[.float .f64 a1, .int .i64 (0 : Int)] (retE (fun v3 h4 => ∃ x7, v3 = .bool x7 ∧
(x7 = true →
 F152_j8 B R a1 a2 true h4) ∧
(x7 = false →
 Ent Tryz.prog B 183 #[.float .f64 a1] (retE (fun v50 h51 => ∃ x54, v50 = .bool x54 ∧
 F152_j8 B R a1 a2 x54 h51)
 (fun ch52 h53 => R (.panicked ch52) h53)) h4))
 (fun ch5 h6 => R (.panicked ch5) h6)) h)
def F152_L : Nat → List (Nat × TypeDesc) := fun _ => []
theorem F152_W (B : World) (R : Ending → Heap → Prop) (a1 : Nat) (a2 : Int) (h : Heap) : W Tryz.prog B Tryz.f152.ntmps F152_L (prune [] (codeOf Tryz.f152)) (endQ Tryz.prog Tryz.f152 R) (env0 #[.float .f64 a1, .int .i64 a2]) h = F152 B R a1 a2 h := by kernel_rfl
theorem F152_ok {B : World} {R : Ending → Heap → Prop} (a1 : Nat) (a2 : Int) {h : Heap} (H : F152 B R a1 a2 h) : Ent Tryz.prog B 152 #[.float .f64 a1, .int .i64 a2] R h :=
  Ent_of_W mixed Tryz.func152 (by kernel_rfl) (by kernel_rfl) (by kernel_rfl) F152_L [] (by rw [F152_W]; exact H)

/-- math.IsNaN -/
def F183 (B : World) (R : Ending → Heap → Prop) (a1 : Nat) (h : Heap) : Prop :=
  R (.returned (.bool (FloatKind.f64.format.order a1 a1 != some .eq))) h
def F183_L : Nat → List (Nat × TypeDesc) := fun _ => []
theorem F183_W (B : World) (R : Ending → Heap → Prop) (a1 : Nat) (h : Heap) : W Tryz.prog B Tryz.f183.ntmps F183_L (prune [] (codeOf Tryz.f183)) (endQ Tryz.prog Tryz.f183 R) (env0 #[.float .f64 a1]) h = F183 B R a1 h := by kernel_rfl
theorem F183_ok {B : World} {R : Ending → Heap → Prop} (a1 : Nat) {h : Heap} (H : F183 B R a1 h) : Ent Tryz.prog B 183 #[.float .f64 a1] R h :=
  Ent_of_W mixed Tryz.func183 (by kernel_rfl) (by kernel_rfl) (by kernel_rfl) F183_L [] (by rw [F183_W]; exact H)

/-- math.normalize -/
def F184 (B : World) (R : Ending → Heap → Prop) (a1 : Nat) (h : Heap) : Prop :=
  Ent Tryz.prog B 94 #[.float .f64 a1] (retE (fun v2 h3 => ∃ x6, v2 = .float .f64 x6 ∧
((FloatKind.f64.format.order x6 4503599627370496 == some .lt) = true →
 flW .f64 (FloatKind.f64.format.mul a1 4841369599423283200) a1 4841369599423283200 fun f7 =>
 R (.returned (.tuple #[.float .f64 f7, .int .i64 (-52 : Int)])) h3) ∧
((FloatKind.f64.format.order x6 4503599627370496 == some .lt) = false →
 R (.returned (.tuple #[.float .f64 a1, .int .i64 (0 : Int)])) h3))
 (fun ch4 h5 => R (.panicked ch4) h5)) h
def F184_L : Nat → List (Nat × TypeDesc) := fun _ => []
theorem F184_W (B : World) (R : Ending → Heap → Prop) (a1 : Nat) (h : Heap) : W Tryz.prog B Tryz.f184.ntmps F184_L (prune [] (codeOf Tryz.f184)) (endQ Tryz.prog Tryz.f184 R) (env0 #[.float .f64 a1]) h = F184 B R a1 h := by kernel_rfl
theorem F184_ok {B : World} {R : Ending → Heap → Prop} (a1 : Nat) {h : Heap} (H : F184 B R a1 h) : Ent Tryz.prog B 184 #[.float .f64 a1] R h :=
  Ent_of_W mixed Tryz.func184 (by kernel_rfl) (by kernel_rfl) (by kernel_rfl) F184_L [] (by rw [F184_W]; exact H)

end Go.Proofs
