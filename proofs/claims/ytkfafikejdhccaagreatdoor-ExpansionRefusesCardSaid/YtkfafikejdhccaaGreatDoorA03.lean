import Derived.Test.YtkfafikejdhccaaGreatDoorA20
/- Here stand lemmas: what the functions of this file come to, one formula a function (written by program). -/
set_option linter.unusedVariables false
namespace Go.Proofs
open Go Go.Eng
/-- math/big.addVV_g -/
def F138_j37 (B : World) (R : Ending → Heap → Prop) (I11 : Nat → List Value → Heap → Prop) (n13 : Nat) (y38 : Option Addr) (y38n : Nat) (y38c : Nat) (y39 : Option Addr) (y39n : Nat) (y39c : Nat) (y40 : Option Addr) (y40n : Nat) (y40c : Nat) (y41 : Int) (y42 : Int) (y43 : Int) (y44 : Int) (y45 : Int) (h46 : Heap) : Prop :=
  ixW y38 y38n y41 1 fun b47 o48 =>
 isP (some ⟨b47, o48, none⟩) fun b49 o50 => stC h46 b49 o50 (.int .u64 y42) fun h51 =>
∃ m52, m52 < n13 ∧ I11 m52 [.slice y38 y38n y38c, .slice y39 y39n y39c, .slice y40 y40n y40c, .int .u64 y43, .int .i64 y44, .int .i64 (IntKind.i64.wrap (y45 + (1 : Int)))] h51
def F138_j4 (B : World) (R : Ending → Heap → Prop) (y5 : Option Addr) (y5n : Nat) (y5c : Nat) (y6 : Option Addr) (y6n : Nat) (y6c : Nat) (y7 : Option Addr) (y7n : Nat) (y7c : Nat) (y8 : Int) (y9 : Bool) (h10 : Heap) : Prop :=
  (y9 = true →
 R (.panicked [{ v := .iface 9 (.string ⟨#[97, 100, 100, 86, 86, 32, 108, 101, 110]⟩), recovered := false }]) h10) ∧
(y9 = false →
 ∃ I11 : Nat → List Value → Heap → Prop, ∃ n12, I11 n12 [.slice y5 y5n y5c, .slice y6 y6n y6c, .slice y7 y7n y7c, .int .u64 y8, .int .i64 ((y5n : Nat) : Int), .int .i64 (0 : Int)] h10 ∧
∀ (n13 : Nat) (h20 : Heap) (z14 : Option Addr) (z14n : Nat) (z14c : Nat) (z15 : Option Addr) (z15n : Nat) (z15c : Nat) (z16 : Option Addr) (z16n : Nat) (z16c : Nat) (z17 : Int) (z18 : Int) (z19 : Int), I11 n13 [.slice z14 z14n z14c, .slice z15 z15n z15c, .slice z16 z16n z16c, .int .u64 z17, .int .i64 z18, .int .i64 z19] h20 → ∀ _r : Nat → Value,
 ((decide (z19 < z18)) = true →
 ixW z15 z15n z19 1 fun b21 o22 =>
 isP (some ⟨b21, o22, none⟩) fun b23 o24 => ∃ x25, cell? h20 ⟨b23, o24, none⟩ = some (.int .u64 x25) ∧
 ixW z16 z16n z19 1 fun b26 o27 =>
 isP (some ⟨b26, o27, none⟩) fun b28 o29 => ∃ x30, cell? h20 ⟨b28, o29, none⟩ = some (.int .u64 x30) ∧
 Ent Tryz.prog B 204 #[.int .u64 x25, .int .u64 x30, .int .u64 z17] (retE (fun v31 h32 => ∃ x35 x36, v31 = .tuple #[.int .u64 x35, .int .u64 x36] ∧
 F138_j37 B R I11 n13 z14 z14n z14c z15 z15n z15c z16 z16n z16c z19 x35 x36 z18 z19 h32)
 (fun _ _ => False)) h20) ∧
((decide (z19 < z18)) = false →
 R (.returned (.int .u64 z17)) h20))
def F138 (B : World) (R : Ending → Heap → Prop) (a1 : Option Addr) (a1n : Nat) (a1c : Nat) (a2 : Option Addr) (a2n : Nat) (a2c : Nat) (a3 : Option Addr) (a3n : Nat) (a3c : Nat) (h : Heap) : Prop :=
  ((!decide (((a2n : Nat) : Int) = ((a1n : Nat) : Int))) = true →
 F138_j4 B R a1 a1n a1c a2 a2n a2c a3 a3n a3c (0 : Int) true h) ∧
((!decide (((a2n : Nat) : Int) = ((a1n : Nat) : Int))) = false →
 F138_j4 B R a1 a1n a1c a2 a2n a2c a3 a3n a3c (0 : Int) (!decide (((a3n : Nat) : Int) = ((a1n : Nat) : Int))) h)
def F138_L : Nat → List (Nat × TypeDesc) := fun i => match i with
  | 4 => [(0, .slice 0), (1, .slice 0), (2, .slice 0), (6, .int .u64), (24, .int .i64), (25, .int .i64)]
  | _ => []
theorem F138_W (B : World) (R : Ending → Heap → Prop) (a1 : Option Addr) (a1n : Nat) (a1c : Nat) (a2 : Option Addr) (a2n : Nat) (a2c : Nat) (a3 : Option Addr) (a3n : Nat) (a3c : Nat) (h : Heap) : W Tryz.prog B Tryz.f138.ntmps F138_L (prune [] (codeOf Tryz.f138)) (endQ Tryz.prog Tryz.f138 R) (env0 #[.slice a1 a1n a1c, .slice a2 a2n a2c, .slice a3 a3n a3c]) h = F138 B R a1 a1n a1c a2 a2n a2c a3 a3n a3c h := by kernel_rfl
theorem F138_ok {B : World} {R : Ending → Heap → Prop} (a1 : Option Addr) (a1n : Nat) (a1c : Nat) (a2 : Option Addr) (a2n : Nat) (a2c : Nat) (a3 : Option Addr) (a3n : Nat) (a3c : Nat) {h : Heap} (H : F138 B R a1 a1n a1c a2 a2n a2c a3 a3n a3c h) : Ent Tryz.prog B 138 #[.slice a1 a1n a1c, .slice a2 a2n a2c, .slice a3 a3n a3c] R h :=
  Ent_of_W mixed Tryz.func138 (by kernel_rfl) (by kernel_rfl) (by kernel_rfl) F138_L [] (by rw [F138_W]; exact H)

/-- math/big.subVV_g -/
def F139_j37 (B : World) (R : Ending → Heap → Prop) (I11 : Nat → List Value → Heap → Prop) (n13 : Nat) (y38 : Option Addr) (y38n : Nat) (y38c : Nat) (y39 : Option Addr) (y39n : Nat) (y39c : Nat) (y40 : Option Addr) (y40n : Nat) (y40c : Nat) (y41 : Int) (y42 : Int) (y43 : Int) (y44 : Int) (y45 : Int) (h46 : Heap) : Prop :=
  ixW y38 y38n y41 1 fun b47 o48 =>
 isP (some ⟨b47, o48, none⟩) fun b49 o50 => stC h46 b49 o50 (.int .u64 y42) fun h51 =>
∃ m52, m52 < n13 ∧ I11 m52 [.slice y38 y38n y38c, .slice y39 y39n y39c, .slice y40 y40n y40c, .int .u64 y43, .int .i64 y44, .int .i64 (IntKind.i64.wrap (y45 + (1 : Int)))] h51
def F139_j4 (B : World) (R : Ending → Heap → Prop) (y5 : Option Addr) (y5n : Nat) (y5c : Nat) (y6 : Option Addr) (y6n : Nat) (y6c : Nat) (y7 : Option Addr) (y7n : Nat) (y7c : Nat) (y8 : Int) (y9 : Bool) (h10 : Heap) : Prop :=
  (y9 = true →
 R (.panicked [{ v := .iface 9 (.string ⟨#[115, 117, 98, 86, 86, 32, 108, 101, 110]⟩), recovered := false }]) h10) ∧
(y9 = false →
 ∃ I11 : Nat → List Value → Heap → Prop, ∃ n12, I11 n12 [.slice y5 y5n y5c, .slice y6 y6n y6c, .slice y7 y7n y7c, .int .u64 y8, .int .i64 ((y5n : Nat) : Int), .int .i64 (0 : Int)] h10 ∧
∀ (n13 : Nat) (h20 : Heap) (z14 : Option Addr) (z14n : Nat) (z14c : Nat) (z15 : Option Addr) (z15n : Nat) (z15c : Nat) (z16 : Option Addr) (z16n : Nat) (z16c : Nat) (z17 : Int) (z18 : Int) (z19 : Int), I11 n13 [.slice z14 z14n z14c, .slice z15 z15n z15c, .slice z16 z16n z16c, .int .u64 z17, .int .i64 z18, .int .i64 z19] h20 → ∀ _r : Nat → Value,
 ((decide (z19 < z18)) = true →
 ixW z15 z15n z19 1 fun b21 o22 =>
 isP (some ⟨b21, o22, none⟩) fun b23 o24 => ∃ x25, cell? h20 ⟨b23, o24, none⟩ = some (.int .u64 x25) ∧
 ixW z16 z16n z19 1 fun b26 o27 =>
 isP (some ⟨b26, o27, none⟩) fun b28 o29 => ∃ x30, cell? h20 ⟨b28, o29, none⟩ = some (.int .u64 x30) ∧
 Ent Tryz.prog B 198 #[.int .u64 x25, .int .u64 x30, .int .u64 z17] (retE (fun v31 h32 => ∃ x35 x36, v31 = .tuple #[.int .u64 x35, .int .u64 x36] ∧
 F139_j37 B R I11 n13 z14 z14n z14c z15 z15n z15c z16 z16n z16c z19 x35 x36 z18 z19 h32)
 (fun _ _ => False)) h20) ∧
((decide (z19 < z18)) = false →
 R (.returned (.int .u64 z17)) h20))
def F139 (B : World) (R : Ending → Heap → Prop) (a1 : Option Addr) (a1n : Nat) (a1c : Nat) (a2 : Option Addr) (a2n : Nat) (a2c : Nat) (a3 : Option Addr) (a3n : Nat) (a3c : Nat) (h : Heap) : Prop :=
  ((!decide (((a2n : Nat) : Int) = ((a1n : Nat) : Int))) = true →
 F139_j4 B R a1 a1n a1c a2 a2n a2c a3 a3n a3c (0 : Int) true h) ∧
((!decide (((a2n : Nat) : Int) = ((a1n : Nat) : Int))) = false →
 F139_j4 B R a1 a1n a1c a2 a2n a2c a3 a3n a3c (0 : Int) (!decide (((a3n : Nat) : Int) = ((a1n : Nat) : Int))) h)
def F139_L : Nat → List (Nat × TypeDesc) := fun i => match i with
  | 4 => [(0, .slice 0), (1, .slice 0), (2, .slice 0), (6, .int .u64), (24, .int .i64), (25, .int .i64)]
  | _ => []
theorem F139_W (B : World) (R : Ending → Heap → Prop) (a1 : Option Addr) (a1n : Nat) (a1c : Nat) (a2 : Option Addr) (a2n : Nat) (a2c : Nat) (a3 : Option Addr) (a3n : Nat) (a3c : Nat) (h : Heap) : W Tryz.prog B Tryz.f139.ntmps F139_L (prune [] (codeOf Tryz.f139)) (endQ Tryz.prog Tryz.f139 R) (env0 #[.slice a1 a1n a1c, .slice a2 a2n a2c, .slice a3 a3n a3c]) h = F139 B R a1 a1n a1c a2 a2n a2c a3 a3n a3c h := by kernel_rfl
theorem F139_ok {B : World} {R : Ending → Heap → Prop} (a1 : Option Addr) (a1n : Nat) (a1c : Nat) (a2 : Option Addr) (a2n : Nat) (a2c : Nat) (a3 : Option Addr) (a3n : Nat) (a3c : Nat) {h : Heap} (H : F139 B R a1 a1n a1c a2 a2n a2c a3 a3n a3c h) : Ent Tryz.prog B 139 #[.slice a1 a1n a1c, .slice a2 a2n a2c, .slice a3 a3n a3c] R h :=
  Ent_of_W mixed Tryz.func139 (by kernel_rfl) (by kernel_rfl) (by kernel_rfl) F139_L [] (by rw [F139_W]; exact H)

/-- math/big.lshVU_g -/
def F140_j36 (B : World) (R : Ending → Heap → Prop) (I11 : Nat → List Value → Heap → Prop) (n13 : Nat) (y37 : Option Addr) (y37n : Nat) (y37c : Nat) (y38 : Option Addr) (y38n : Nat) (y38c : Nat) (y39 : Int) (y40 : Int) (y41 : Int) (y42 : Int) (h43 : Heap) : Prop :=
  ∃ m44, m44 < n13 ∧ I11 m44 [.slice y37 y37n y37c, .slice y38 y38n y38c, .int .u64 y39, .int .u64 y40, .int .u64 y41, .int .i64 (IntKind.i64.wrap (y42 - (1 : Int)))] h43
def F140 (B : World) (R : Ending → Heap → Prop) (a1 : Option Addr) (a1n : Nat) (a1c : Nat) (a2 : Option Addr) (a2n : Nat) (a2c : Nat) (a3 : Int) (h : Heap) : Prop :=
  ((!decide (((a2n : Nat) : Int) = ((a1n : Nat) : Int))) = true →
 R (.panicked [{ v := .iface 9 (.string ⟨#[108, 115, 104, 86, 85, 32, 108, 101, 110]⟩), recovered := false }]) h) ∧
((!decide (((a2n : Nat) : Int) = ((a1n : Nat) : Int))) = false →
 ((decide (a3 = (0 : Int))) = true →
 cpW h a1 a1n a2 a2n 1 fun n5 h4 =>
 R (.returned (.int .u64 (0 : Int))) h4) ∧
((decide (a3 = (0 : Int))) = false →
 ((decide (((a1n : Nat) : Int) = (0 : Int))) = true →
 R (.returned (.int .u64 (0 : Int))) h) ∧
((decide (((a1n : Nat) : Int) = (0 : Int))) = false →
 ixW a2 a2n (IntKind.i64.wrap (((a1n : Nat) : Int) - (1 : Int))) 1 fun b6 o7 =>
 isP (some ⟨b6, o7, none⟩) fun b8 o9 => ∃ x10, cell? h ⟨b8, o9, none⟩ = some (.int .u64 x10) ∧
0 ≤ (bitsI .and .u64 (IntKind.u64.wrap ((64 : Int) - (bitsI .and .u64 a3 (63 : Int)))) (63 : Int)) ∧
∃ I11 : Nat → List Value → Heap → Prop, ∃ n12, I11 n12 [.slice a1 a1n a1c, .slice a2 a2n a2c, .int .u64 (bitsI .and .u64 a3 (63 : Int)), .int .u64 (Int.fdiv x10 (2 ^ min (Int.toNat (bitsI .and .u64 (IntKind.u64.wrap ((64 : Int) - (bitsI .and .u64 a3 (63 : Int)))) (63 : Int))) IntKind.u64.bits)), .int .u64 (bitsI .and .u64 (IntKind.u64.wrap ((64 : Int) - (bitsI .and .u64 a3 (63 : Int)))) (63 : Int)), .int .i64 (IntKind.i64.wrap (((a1n : Nat) : Int) - (1 : Int)))] h ∧
∀ (n13 : Nat) (h20 : Heap) (z14 : Option Addr) (z14n : Nat) (z14c : Nat) (z15 : Option Addr) (z15n : Nat) (z15c : Nat) (z16 : Int) (z17 : Int) (z18 : Int) (z19 : Int), I11 n13 [.slice z14 z14n z14c, .slice z15 z15n z15c, .int .u64 z16, .int .u64 z17, .int .u64 z18, .int .i64 z19] h20 → ∀ _r : Nat → Value,
 ((decide ((0 : Int) < z19)) = true →
 ixW z15 z15n z19 1 fun b21 o22 =>
 isP (some ⟨b21, o22, none⟩) fun b23 o24 => ∃ x25, cell? h20 ⟨b23, o24, none⟩ = some (.int .u64 x25) ∧
0 ≤ z16 ∧
 ixW z15 z15n (IntKind.i64.wrap (z19 - (1 : Int))) 1 fun b26 o27 =>
 isP (some ⟨b26, o27, none⟩) fun b28 o29 => ∃ x30, cell? h20 ⟨b28, o29, none⟩ = some (.int .u64 x30) ∧
0 ≤ z18 ∧
 ixW z14 z14n z19 1 fun b31 o32 =>
 isP (some ⟨b31, o32, none⟩) fun b33 o34 => stC h20 b33 o34 (.int .u64 (bitsI .or .u64 (IntKind.u64.wrap (x25 * 2 ^ min (Int.toNat z16) IntKind.u64.bits)) (Int.fdiv x30 (2 ^ min (Int.toNat z18) IntKind.u64.bits)))) fun h35 =>
 F140_j36 B R I11 n13 z14 z14n z14c z15 z15n z15c z16 z17 z18 z19 h35) ∧
((decide ((0 : Int) < z19)) = false →
 ixW z15 z15n (0 : Int) 1 fun b45 o46 =>
 isP (some ⟨b45, o46, none⟩) fun b47 o48 => ∃ x49, cell? h20 ⟨b47, o48, none⟩ = some (.int .u64 x49) ∧
0 ≤ z16 ∧
 ixW z14 z14n (0 : Int) 1 fun b50 o51 =>
 isP (some ⟨b50, o51, none⟩) fun b52 o53 => stC h20 b52 o53 (.int .u64 (IntKind.u64.wrap (x49 * 2 ^ min (Int.toNat z16) IntKind.u64.bits))) fun h54 =>
 R (.returned (.int .u64 z17)) h54))))
def F140_L : Nat → List (Nat × TypeDesc) := fun i => match i with
  | 11 => [(0, .slice 0), (1, .slice 0), (2, .int .u64), (6, .int .u64), (7, .int .u64), (8, .int .i64)]
  | _ => []
theorem F140_W (B : World) (R : Ending → Heap → Prop) (a1 : Option Addr) (a1n : Nat) (a1c : Nat) (a2 : Option Addr) (a2n : Nat) (a2c : Nat) (a3 : Int) (h : Heap) : W Tryz.prog B Tryz.f140.ntmps F140_L (prune [] (codeOf Tryz.f140)) (endQ Tryz.prog Tryz.f140 R) (env0 #[.slice a1 a1n a1c, .slice a2 a2n a2c, .int .u64 a3]) h = F140 B R a1 a1n a1c a2 a2n a2c a3 h := by kernel_rfl
theorem F140_ok {B : World} {R : Ending → Heap → Prop} (a1 : Option Addr) (a1n : Nat) (a1c : Nat) (a2 : Option Addr) (a2n : Nat) (a2c : Nat) (a3 : Int) {h : Heap} (H : F140 B R a1 a1n a1c a2 a2n a2c a3 h) : Ent Tryz.prog B 140 #[.slice a1 a1n a1c, .slice a2 a2n a2c, .int .u64 a3] R h :=
  Ent_of_W mixed Tryz.func140 (by kernel_rfl) (by kernel_rfl) (by kernel_rfl) F140_L [] (by rw [F140_W]; exact H)

/-- math/big.rshVU_g -/
def F141_j36 (B : World) (R : Ending → Heap → Prop) (I11 : Nat → List Value → Heap → Prop) (n13 : Nat) (y37 : Option Addr) (y37n : Nat) (y37c : Nat) (y38 : Option Addr) (y38n : Nat) (y38c : Nat) (y39 : Int) (y40 : Int) (y41 : Int) (y42 : Int) (h43 : Heap) : Prop :=
  ∃ m44, m44 < n13 ∧ I11 m44 [.slice y37 y37n y37c, .slice y38 y38n y38c, .int .u64 y39, .int .u64 y40, .int .u64 y41, .int .i64 (IntKind.i64.wrap (y42 + (1 : Int)))] h43
def F141 (B : World) (R : Ending → Heap → Prop) (a1 : Option Addr) (a1n : Nat) (a1c : Nat) (a2 : Option Addr) (a2n : Nat) (a2c : Nat) (a3 : Int) (h : Heap) : Prop :=
  ((!decide (((a2n : Nat) : Int) = ((a1n : Nat) : Int))) = true →
 R (.panicked [{ v := .iface 9 (.string ⟨#[114, 115, 104, 86, 85, 32, 108, 101, 110]⟩), recovered := false }]) h) ∧
((!decide (((a2n : Nat) : Int) = ((a1n : Nat) : Int))) = false →
 ((decide (a3 = (0 : Int))) = true →
 cpW h a1 a1n a2 a2n 1 fun n5 h4 =>
 R (.returned (.int .u64 (0 : Int))) h4) ∧
((decide (a3 = (0 : Int))) = false →
 ((decide (((a1n : Nat) : Int) = (0 : Int))) = true →
 R (.returned (.int .u64 (0 : Int))) h) ∧
((decide (((a1n : Nat) : Int) = (0 : Int))) = false →
 ixW a2 a2n (0 : Int) 1 fun b6 o7 =>
 isP (some ⟨b6, o7, none⟩) fun b8 o9 => ∃ x10, cell? h ⟨b8, o9, none⟩ = some (.int .u64 x10) ∧
0 ≤ (bitsI .and .u64 (IntKind.u64.wrap ((64 : Int) - (bitsI .and .u64 a3 (63 : Int)))) (63 : Int)) ∧
∃ I11 : Nat → List Value → Heap → Prop, ∃ n12, I11 n12 [.slice a1 a1n a1c, .slice a2 a2n a2c, .int .u64 (bitsI .and .u64 a3 (63 : Int)), .int .u64 (IntKind.u64.wrap (x10 * 2 ^ min (Int.toNat (bitsI .and .u64 (IntKind.u64.wrap ((64 : Int) - (bitsI .and .u64 a3 (63 : Int)))) (63 : Int))) IntKind.u64.bits)), .int .u64 (bitsI .and .u64 (IntKind.u64.wrap ((64 : Int) - (bitsI .and .u64 a3 (63 : Int)))) (63 : Int)), .int .i64 (1 : Int)] h ∧
∀ (n13 : Nat) (h20 : Heap) (z14 : Option Addr) (z14n : Nat) (z14c : Nat) (z15 : Option Addr) (z15n : Nat) (z15c : Nat) (z16 : Int) (z17 : Int) (z18 : Int) (z19 : Int), I11 n13 [.slice z14 z14n z14c, .slice z15 z15n z15c, .int .u64 z16, .int .u64 z17, .int .u64 z18, .int .i64 z19] h20 → ∀ _r : Nat → Value,
 ((decide (z19 < ((z14n : Nat) : Int))) = true →
 ixW z15 z15n (IntKind.i64.wrap (z19 - (1 : Int))) 1 fun b21 o22 =>
 isP (some ⟨b21, o22, none⟩) fun b23 o24 => ∃ x25, cell? h20 ⟨b23, o24, none⟩ = some (.int .u64 x25) ∧
0 ≤ z16 ∧
 ixW z15 z15n z19 1 fun b26 o27 =>
 isP (some ⟨b26, o27, none⟩) fun b28 o29 => ∃ x30, cell? h20 ⟨b28, o29, none⟩ = some (.int .u64 x30) ∧
0 ≤ z18 ∧
 ixW z14 z14n (IntKind.i64.wrap (z19 - (1 : Int))) 1 fun b31 o32 =>
 isP (some ⟨b31, o32, none⟩) fun b33 o34 => stC h20 b33 o34 (.int .u64 (bitsI .or .u64 (Int.fdiv x25 (2 ^ min (Int.toNat z16) IntKind.u64.bits)) (IntKind.u64.wrap (x30 * 2 ^ min (Int.toNat z18) IntKind.u64.bits)))) fun h35 =>
 F141_j36 B R I11 n13 z14 z14n z14c z15 z15n z15c z16 z17 z18 z19 h35) ∧
((decide (z19 < ((z14n : Nat) : Int))) = false →
 ixW z15 z15n (IntKind.i64.wrap (((z14n : Nat) : Int) - (1 : Int))) 1 fun b45 o46 =>
 isP (some ⟨b45, o46, none⟩) fun b47 o48 => ∃ x49, cell? h20 ⟨b47, o48, none⟩ = some (.int .u64 x49) ∧
0 ≤ z16 ∧
 ixW z14 z14n (IntKind.i64.wrap (((z14n : Nat) : Int) - (1 : Int))) 1 fun b50 o51 =>
 isP (some ⟨b50, o51, none⟩) fun b52 o53 => stC h20 b52 o53 (.int .u64 (Int.fdiv x49 (2 ^ min (Int.toNat z16) IntKind.u64.bits))) fun h54 =>
 R (.returned (.int .u64 z17)) h54))))
def F141_L : Nat → List (Nat × TypeDesc) := fun i => match i with
  | 11 => [(0, .slice 0), (1, .slice 0), (2, .int .u64), (6, .int .u64), (7, .int .u64), (8, .int .i64)]
  | _ => []
theorem F141_W (B : World) (R : Ending → Heap → Prop) (a1 : Option Addr) (a1n : Nat) (a1c : Nat) (a2 : Option Addr) (a2n : Nat) (a2c : Nat) (a3 : Int) (h : Heap) : W Tryz.prog B Tryz.f141.ntmps F141_L (prune [] (codeOf Tryz.f141)) (endQ Tryz.prog Tryz.f141 R) (env0 #[.slice a1 a1n a1c, .slice a2 a2n a2c, .int .u64 a3]) h = F141 B R a1 a1n a1c a2 a2n a2c a3 h := by kernel_rfl
theorem F141_ok {B : World} {R : Ending → Heap → Prop} (a1 : Option Addr) (a1n : Nat) (a1c : Nat) (a2 : Option Addr) (a2n : Nat) (a2c : Nat) (a3 : Int) {h : Heap} (H : F141 B R a1 a1n a1c a2 a2n a2c a3 h) : Ent Tryz.prog B 141 #[.slice a1 a1n a1c, .slice a2 a2n a2c, .int .u64 a3] R h :=
  Ent_of_W mixed Tryz.func141 (by kernel_rfl) (by kernel_rfl) (by kernel_rfl) F141_L [] (by rw [F141_W]; exact H)

/-- math/big.mulAddVWW_g -/
def F142 (B : World) (R : Ending → Heap → Prop) (a1 : Option Addr) (a1n : Nat) (a1c : Nat) (a2 : Option Addr) (a2n : Nat) (a2c : Nat) (a3 : Int) (a4 : Int) (h : Heap) : Prop :=
  ((!decide (((a2n : Nat) : Int) = ((a1n : Nat) : Int))) = true →
 R (.panicked [{ v := .iface 9 (.string ⟨#[109, 117, 108, 65, 100, 100, 86, 87, 87, 32, 108, 101, 110]⟩), recovered := false }]) h) ∧
((!decide (((a2n : Nat) : Int) = ((a1n : Nat) : Int))) = false →
 ∃ I5 : Nat → List Value → Heap → Prop, ∃ n6, I5 n6 [.slice a1 a1n a1c, .slice a2 a2n a2c, .int .u64 a3, .int .u64 a4, .int .i64 ((a1n : Nat) : Int), .int .i64 (0 : Int)] h ∧
∀ (n7 : Nat) (h14 : Heap) (z8 : Option Addr) (z8n : Nat) (z8c : Nat) (z9 : Option Addr) (z9n : Nat) (z9c : Nat) (z10 : Int) (z11 : Int) (z12 : Int) (z13 : Int), I5 n7 [.slice z8 z8n z8c, .slice z9 z9n z9c, .int .u64 z10, .int .u64 z11, .int .i64 z12, .int .i64 z13] h14 → ∀ _r : Nat → Value,
 ((decide (z13 < z12)) = true →
 ixW z9 z9n z13 1 fun b15 o16 =>
 isP (some ⟨b15, o16, none⟩) fun b17 o18 => ∃ x19, cell? h14 ⟨b17, o18, none⟩ = some (.int .u64 x19) ∧
 Ent Tryz.prog B 242 #[.int .u64 x19, .int .u64 z10, .int .u64 z11] (retE (fun v20 h21 => ∃ x24 x25, v20 = .tuple #[.int .u64 x24, .int .u64 x25] ∧
 ixW z8 z8n z13 1 fun b26 o27 =>
 isP (some ⟨b26, o27, none⟩) fun b28 o29 => stC h21 b28 o29 (.int .u64 x25) fun h30 =>
∃ m31, m31 < n7 ∧ I5 m31 [.slice z8 z8n z8c, .slice z9 z9n z9c, .int .u64 z10, .int .u64 x24, .int .i64 z12, .int .i64 (IntKind.i64.wrap (z13 + (1 : Int)))] h30)
 (fun ch22 h23 => R (.panicked ch22) h23)) h14) ∧
((decide (z13 < z12)) = false →
 R (.returned (.int .u64 z11)) h14))
def F142_L : Nat → List (Nat × TypeDesc) := fun i => match i with
  | 5 => [(0, .slice 0), (1, .slice 0), (2, .int .u64), (8, .int .u64), (18, .int .i64), (19, .int .i64)]
  | _ => []
theorem F142_W (B : World) (R : Ending → Heap → Prop) (a1 : Option Addr) (a1n : Nat) (a1c : Nat) (a2 : Option Addr) (a2n : Nat) (a2c : Nat) (a3 : Int) (a4 : Int) (h : Heap) : W Tryz.prog B Tryz.f142.ntmps F142_L (prune [] (codeOf Tryz.f142)) (endQ Tryz.prog Tryz.f142 R) (env0 #[.slice a1 a1n a1c, .slice a2 a2n a2c, .int .u64 a3, .int .u64 a4]) h = F142 B R a1 a1n a1c a2 a2n a2c a3 a4 h := by kernel_rfl
theorem F142_ok {B : World} {R : Ending → Heap → Prop} (a1 : Option Addr) (a1n : Nat) (a1c : Nat) (a2 : Option Addr) (a2n : Nat) (a2c : Nat) (a3 : Int) (a4 : Int) {h : Heap} (H : F142 B R a1 a1n a1c a2 a2n a2c a3 a4 h) : Ent Tryz.prog B 142 #[.slice a1 a1n a1c, .slice a2 a2n a2c, .int .u64 a3, .int .u64 a4] R h :=
  Ent_of_W mixed Tryz.func142 (by kernel_rfl) (by kernel_rfl) (by kernel_rfl) F142_L [] (by rw [F142_W]; exact H)

/-- math/big.addVW -/
def F203_j40 (B : World) (R : Ending → Heap → Prop) (h41 : Heap) : Prop :=
  R (.returned (.int .u64 (0 : Int))) h41
def F203_j38 (B : World) (R : Ending → Heap → Prop) (h39 : Heap) : Prop :=
  F203_j40 B R h39
def F203_j25 (B : World) (R : Ending → Heap → Prop) (y26 : Option Addr) (y26n : Nat) (y26c : Nat) (y27 : Option Addr) (y27n : Nat) (y27c : Nat) (y28 : Bool) (h29 : Heap) : Prop :=
  (y28 = true →
 slW y26n y26c (some (.int .i64 (1 : Int))) none none fun l30 l31 l32 =>
 slW y27n y27c (some (.int .i64 (1 : Int))) none none fun l33 l34 l35 =>
 cpW h29 (slP y26 l30 l32 1) (l31 - l30) (slP y27 l33 l35 1) (l34 - l33) 1 fun n37 h36 =>
 F203_j38 B R h36) ∧
(y28 = false →
 F203_j40 B R h29)
def F203_j80 (B : World) (R : Ending → Heap → Prop) (I42 : Nat → List Value → Heap → Prop) (n44 : Nat) (h81 : Heap) : Prop :=
  R (.returned (.int .u64 (0 : Int))) h81
def F203_j78 (B : World) (R : Ending → Heap → Prop) (I42 : Nat → List Value → Heap → Prop) (n44 : Nat) (h79 : Heap) : Prop :=
  F203_j80 B R I42 n44 h79
def F203_j64 (B : World) (R : Ending → Heap → Prop) (I42 : Nat → List Value → Heap → Prop) (n44 : Nat) (y65 : Option Addr) (y65n : Nat) (y65c : Nat) (y66 : Option Addr) (y66n : Nat) (y66c : Nat) (y67 : Int) (y68 : Bool) (h69 : Heap) : Prop :=
  (y68 = true →
 slW y65n y65c (some (.int .i64 (IntKind.i64.wrap (y67 + (1 : Int))))) none none fun l70 l71 l72 =>
 slW y66n y66c (some (.int .i64 (IntKind.i64.wrap (y67 + (1 : Int))))) none none fun l73 l74 l75 =>
 cpW h69 (slP y65 l70 l72 1) (l71 - l70) (slP y66 l73 l75 1) (l74 - l73) 1 fun n77 h76 =>
 F203_j78 B R I42 n44 h76) ∧
(y68 = false →
 F203_j80 B R I42 n44 h69)
def F203 (B : World) (R : Ending → Heap → Prop) (a1 : Option Addr) (a1n : Nat) (a1c : Nat) (a2 : Option Addr) (a2n : Nat) (a2c : Nat) (a3 : Int) (h : Heap) : Prop :=
  ((!decide (((a2n : Nat) : Int) = ((a1n : Nat) : Int))) = true →
 R (.panicked [{ v := .iface 9 (.string ⟨#[97, 100, 100, 86, 87, 32, 108, 101, 110]⟩), recovered := false }]) h) ∧
((!decide (((a2n : Nat) : Int) = ((a1n : Nat) : Int))) = false →
 ((decide (((a1n : Nat) : Int) = (0 : Int))) = true →
 R (.returned (.int .u64 a3)) h) ∧
((decide (((a1n : Nat) : Int) = (0 : Int))) = false →
 ixW a2 a2n (0 : Int) 1 fun b4 o5 =>
 isP (some ⟨b4, o5, none⟩) fun b6 o7 => ∃ x8, cell? h ⟨b6, o7, none⟩ = some (.int .u64 x8) ∧
 Ent Tryz.prog B 204 #[.int .u64 x8, .int .u64 a3, .int .u64 (0 : Int)] (retE (fun v9 h10 => ∃ x13 x14, v9 = .tuple #[.int .u64 x13, .int .u64 x14] ∧
 ixW a1 a1n (0 : Int) 1 fun b15 o16 =>
 isP (some ⟨b15, o16, none⟩) fun b17 o18 => stC h10 b17 o18 (.int .u64 x13) fun h19 =>
((decide (x14 = (0 : Int))) = true →
 ixW a1 a1n (0 : Int) 1 fun b20 o21 =>
 ixW a2 a2n (0 : Int) 1 fun b22 o23 =>
 pEq h19 (some ⟨b20, o21, none⟩) (some ⟨b22, o23, none⟩) fun q24 =>
 F203_j25 B R a1 a1n a1c a2 a2n a2c (!q24) h19) ∧
((decide (x14 = (0 : Int))) = false →
 ∃ I42 : Nat → List Value → Heap → Prop, ∃ n43, I42 n43 [.slice a1 a1n a1c, .slice a2 a2n a2c, .int .i64 (1 : Int)] h19 ∧
∀ (n44 : Nat) (h48 : Heap) (z45 : Option Addr) (z45n : Nat) (z45c : Nat) (z46 : Option Addr) (z46n : Nat) (z46c : Nat) (z47 : Int), I42 n44 [.slice z45 z45n z45c, .slice z46 z46n z46c, .int .i64 z47] h48 → ∀ _r : Nat → Value,
 ((decide (z47 < ((z45n : Nat) : Int))) = true →
 ixW z46 z46n z47 1 fun b49 o50 =>
 isP (some ⟨b49, o50, none⟩) fun b51 o52 => ∃ x53, cell? h48 ⟨b51, o52, none⟩ = some (.int .u64 x53) ∧
((!decide (x53 = (18446744073709551615 : Int))) = true →
 ixW z45 z45n z47 1 fun b54 o55 =>
 isP (some ⟨b54, o55, none⟩) fun b56 o57 => stC h48 b56 o57 (.int .u64 (IntKind.u64.wrap (x53 + (1 : Int)))) fun h58 =>
 ixW z45 z45n (0 : Int) 1 fun b59 o60 =>
 ixW z46 z46n (0 : Int) 1 fun b61 o62 =>
 pEq h58 (some ⟨b59, o60, none⟩) (some ⟨b61, o62, none⟩) fun q63 =>
 F203_j64 B R I42 n44 z45 z45n z45c z46 z46n z46c z47 (!q63) h58) ∧
((!decide (x53 = (18446744073709551615 : Int))) = false →
 ixW z45 z45n z47 1 fun b82 o83 =>
 isP (some ⟨b82, o83, none⟩) fun b84 o85 => stC h48 b84 o85 (.int .u64 (0 : Int)) fun h86 =>
∃ m87, m87 < n44 ∧ I42 m87 [.slice z45 z45n z45c, .slice z46 z46n z46c, .int .i64 (IntKind.i64.wrap (z47 + (1 : Int)))] h86)) ∧
((decide (z47 < ((z45n : Nat) : Int))) = false →
 R (.returned (.int .u64 (1 : Int))) h48)))
 (fun ch11 h12 => R (.panicked ch11) h12)) h))
def F203_L : Nat → List (Nat × TypeDesc) := fun i => match i with
  | 12 => [(0, .slice 0), (1, .slice 0), (9, .int .i64)]
  | _ => []
theorem F203_W (B : World) (R : Ending → Heap → Prop) (a1 : Option Addr) (a1n : Nat) (a1c : Nat) (a2 : Option Addr) (a2n : Nat) (a2c : Nat) (a3 : Int) (h : Heap) : W Tryz.prog B Tryz.f203.ntmps F203_L (prune [] (codeOf Tryz.f203)) (endQ Tryz.prog Tryz.f203 R) (env0 #[.slice a1 a1n a1c, .slice a2 a2n a2c, .int .u64 a3]) h = F203 B R a1 a1n a1c a2 a2n a2c a3 h := by kernel_rfl
theorem F203_ok {B : World} {R : Ending → Heap → Prop} (a1 : Option Addr) (a1n : Nat) (a1c : Nat) (a2 : Option Addr) (a2n : Nat) (a2c : Nat) (a3 : Int) {h : Heap} (H : F203 B R a1 a1n a1c a2 a2n a2c a3 h) : Ent Tryz.prog B 203 #[.slice a1 a1n a1c, .slice a2 a2n a2c, .int .u64 a3] R h :=
  Ent_of_W mixed Tryz.func203 (by kernel_rfl) (by kernel_rfl) (by kernel_rfl) F203_L [] (by rw [F203_W]; exact H)

/-- math/big.subVW -/
def F196_j40 (B : World) (R : Ending → Heap → Prop) (h41 : Heap) : Prop :=
  R (.returned (.int .u64 (0 : Int))) h41
def F196_j38 (B : World) (R : Ending → Heap → Prop) (h39 : Heap) : Prop :=
  F196_j40 B R h39
def F196_j25 (B : World) (R : Ending → Heap → Prop) (y26 : Option Addr) (y26n : Nat) (y26c : Nat) (y27 : Option Addr) (y27n : Nat) (y27c : Nat) (y28 : Bool) (h29 : Heap) : Prop :=
  (y28 = true →
 slW y26n y26c (some (.int .i64 (1 : Int))) none none fun l30 l31 l32 =>
 slW y27n y27c (some (.int .i64 (1 : Int))) none none fun l33 l34 l35 =>
 cpW h29 (slP y26 l30 l32 1) (l31 - l30) (slP y27 l33 l35 1) (l34 - l33) 1 fun n37 h36 =>
 F196_j38 B R h36) ∧
(y28 = false →
 F196_j40 B R h29)
def F196_j80 (B : World) (R : Ending → Heap → Prop) (I42 : Nat → List Value → Heap → Prop) (n44 : Nat) (h81 : Heap) : Prop :=
  R (.returned (.int .u64 (0 : Int))) h81
def F196_j78 (B : World) (R : Ending → Heap → Prop) (I42 : Nat → List Value → Heap → Prop) (n44 : Nat) (h79 : Heap) : Prop :=
  F196_j80 B R I42 n44 h79
def F196_j64 (B : World) (R : Ending → Heap → Prop) (I42 : Nat → List Value → Heap → Prop) (n44 : Nat) (y65 : Option Addr) (y65n : Nat) (y65c : Nat) (y66 : Option Addr) (y66n : Nat) (y66c : Nat) (y67 : Int) (y68 : Bool) (h69 : Heap) : Prop :=
  (y68 = true →
 slW y65n y65c (some (.int .i64 (IntKind.i64.wrap (y67 + (1 : Int))))) none none fun l70 l71 l72 =>
 slW y66n y66c (some (.int .i64 (IntKind.i64.wrap (y67 + (1 : Int))))) none none fun l73 l74 l75 =>
 cpW h69 (slP y65 l70 l72 1) (l71 - l70) (slP y66 l73 l75 1) (l74 - l73) 1 fun n77 h76 =>
 F196_j78 B R I42 n44 h76) ∧
(y68 = false →
 F196_j80 B R I42 n44 h69)
def F196 (B : World) (R : Ending → Heap → Prop) (a1 : Option Addr) (a1n : Nat) (a1c : Nat) (a2 : Option Addr) (a2n : Nat) (a2c : Nat) (a3 : Int) (h : Heap) : Prop :=
  ((!decide (((a2n : Nat) : Int) = ((a1n : Nat) : Int))) = true →
 R (.panicked [{ v := .iface 9 (.string ⟨#[115, 117, 98, 86, 87, 32, 108, 101, 110]⟩), recovered := false }]) h) ∧
((!decide (((a2n : Nat) : Int) = ((a1n : Nat) : Int))) = false →
 ((decide (((a1n : Nat) : Int) = (0 : Int))) = true →
 R (.returned (.int .u64 a3)) h) ∧
((decide (((a1n : Nat) : Int) = (0 : Int))) = false →
 ixW a2 a2n (0 : Int) 1 fun b4 o5 =>
 isP (some ⟨b4, o5, none⟩) fun b6 o7 => ∃ x8, cell? h ⟨b6, o7, none⟩ = some (.int .u64 x8) ∧
 Ent Tryz.prog B 198 #[.int .u64 x8, .int .u64 a3, .int .u64 (0 : Int)] (retE (fun v9 h10 => ∃ x13 x14, v9 = .tuple #[.int .u64 x13, .int .u64 x14] ∧
 ixW a1 a1n (0 : Int) 1 fun b15 o16 =>
 isP (some ⟨b15, o16, none⟩) fun b17 o18 => stC h10 b17 o18 (.int .u64 x13) fun h19 =>
((decide (x14 = (0 : Int))) = true →
 ixW a1 a1n (0 : Int) 1 fun b20 o21 =>
 ixW a2 a2n (0 : Int) 1 fun b22 o23 =>
 pEq h19 (some ⟨b20, o21, none⟩) (some ⟨b22, o23, none⟩) fun q24 =>
 F196_j25 B R a1 a1n a1c a2 a2n a2c (!q24) h19) ∧
((decide (x14 = (0 : Int))) = false →
 ∃ I42 : Nat → List Value → Heap → Prop, ∃ n43, I42 n43 [.slice a1 a1n a1c, .slice a2 a2n a2c, .int .i64 (1 : Int)] h19 ∧
∀ (n44 : Nat) (h48 : Heap) (z45 : Option Addr) (z45n : Nat) (z45c : Nat) (z46 : Option Addr) (z46n : Nat) (z46c : Nat) (z47 : Int), I42 n44 [.slice z45 z45n z45c, .slice z46 z46n z46c, .int .i64 z47] h48 → ∀ _r : Nat → Value,
 ((decide (z47 < ((z45n : Nat) : Int))) = true →
 ixW z46 z46n z47 1 fun b49 o50 =>
 isP (some ⟨b49, o50, none⟩) fun b51 o52 => ∃ x53, cell? h48 ⟨b51, o52, none⟩ = some (.int .u64 x53) ∧
((!decide (x53 = (0 : Int))) = true →
 ixW z45 z45n z47 1 fun b54 o55 =>
 isP (some ⟨b54, o55, none⟩) fun b56 o57 => stC h48 b56 o57 (.int .u64 (IntKind.u64.wrap (x53 - (1 : Int)))) fun h58 =>
 ixW z45 z45n (0 : Int) 1 fun b59 o60 =>
 ixW z46 z46n (0 : Int) 1 fun b61 o62 =>
 pEq h58 (some ⟨b59, o60, none⟩) (some ⟨b61, o62, none⟩) fun q63 =>
 F196_j64 B R I42 n44 z45 z45n z45c z46 z46n z46c z47 (!q63) h58) ∧
((!decide (x53 = (0 : Int))) = false →
 ixW z45 z45n z47 1 fun b82 o83 =>
 isP (some ⟨b82, o83, none⟩) fun b84 o85 => stC h48 b84 o85 (.int .u64 (18446744073709551615 : Int)) fun h86 =>
∃ m87, m87 < n44 ∧ I42 m87 [.slice z45 z45n z45c, .slice z46 z46n z46c, .int .i64 (IntKind.i64.wrap (z47 + (1 : Int)))] h86)) ∧
((decide (z47 < ((z45n : Nat) : Int))) = false →
 R (.returned (.int .u64 (1 : Int))) h48)))
 (fun ch11 h12 => R (.panicked ch11) h12)) h))
def F196_L : Nat → List (Nat × TypeDesc) := fun i => match i with
  | 12 => [(0, .slice 0), (1, .slice 0), (9, .int .i64)]
  | _ => []
theorem F196_W (B : World) (R : Ending → Heap → Prop) (a1 : Option Addr) (a1n : Nat) (a1c : Nat) (a2 : Option Addr) (a2n : Nat) (a2c : Nat) (a3 : Int) (h : Heap) : W Tryz.prog B Tryz.f196.ntmps F196_L (prune [] (codeOf Tryz.f196)) (endQ Tryz.prog Tryz.f196 R) (env0 #[.slice a1 a1n a1c, .slice a2 a2n a2c, .int .u64 a3]) h = F196 B R a1 a1n a1c a2 a2n a2c a3 h := by kernel_rfl
theorem F196_ok {B : World} {R : Ending → Heap → Prop} (a1 : Option Addr) (a1n : Nat) (a1c : Nat) (a2 : Option Addr) (a2n : Nat) (a2c : Nat) (a3 : Int) {h : Heap} (H : F196 B R a1 a1n a1c a2 a2n a2c a3 h) : Ent Tryz.prog B 196 #[.slice a1 a1n a1c, .slice a2 a2n a2c, .int .u64 a3] R h :=
  Ent_of_W mixed Tryz.func196 (by kernel_rfl) (by kernel_rfl) (by kernel_rfl) F196_L [] (by rw [F196_W]; exact H)

/-- (math/big.nat).norm -/
def F197_j13 (B : World) (R : Ending → Heap → Prop) (I2 : Nat → List Value → Heap → Prop) (n4 : Nat) (y14 : Option Addr) (y14n : Nat) (y14c : Nat) (y15 : Int) (y16 : Bool) (h17 : Heap) : Prop :=
  (y16 = true →
 ∃ m18, m18 < n4 ∧ I2 m18 [.slice y14 y14n y14c, .int .i64 (IntKind.i64.wrap (y15 - (1 : Int)))] h17) ∧
(y16 = false →
 slW y14n y14c (some (.int .i64 (0 : Int))) (some (.int .i64 y15)) none fun l19 l20 l21 =>
 R (.returned (.slice (slP y14 l19 l21 1) (l20 - l19) (l21 - l19))) h17)
def F197 (B : World) (R : Ending → Heap → Prop) (a1 : Option Addr) (a1n : Nat) (a1c : Nat) (h : Heap) : Prop :=
  ∃ I2 : Nat → List Value → Heap → Prop, ∃ n3, I2 n3 [.slice a1 a1n a1c, .int .i64 ((a1n : Nat) : Int)] h ∧
∀ (n4 : Nat) (h7 : Heap) (z5 : Option Addr) (z5n : Nat) (z5c : Nat) (z6 : Int), I2 n4 [.slice z5 z5n z5c, .int .i64 z6] h7 → ∀ _r : Nat → Value,
 ((decide ((0 : Int) < z6)) = true →
 ixW z5 z5n (IntKind.i64.wrap (z6 - (1 : Int))) 1 fun b8 o9 =>
 isP (some ⟨b8, o9, none⟩) fun b10 o11 => ∃ x12, cell? h7 ⟨b10, o11, none⟩ = some (.int .u64 x12) ∧
 F197_j13 B R I2 n4 z5 z5n z5c z6 (decide (x12 = (0 : Int))) h7) ∧
((decide ((0 : Int) < z6)) = false →
 F197_j13 B R I2 n4 z5 z5n z5c z6 false h7)
def F197_L : Nat → List (Nat × TypeDesc) := fun i => match i with
  | 2 => [(0, .slice 0), (3, .int .i64)]
  | _ => []
theorem F197_W (B : World) (R : Ending → Heap → Prop) (a1 : Option Addr) (a1n : Nat) (a1c : Nat) (h : Heap) : W Tryz.prog B Tryz.f197.ntmps F197_L (prune [] (codeOf Tryz.f197)) (endQ Tryz.prog Tryz.f197 R) (env0 #[.slice a1 a1n a1c]) h = F197 B R a1 a1n a1c h := by kernel_rfl
theorem F197_ok {B : World} {R : Ending → Heap → Prop} (a1 : Option Addr) (a1n : Nat) (a1c : Nat) {h : Heap} (H : F197 B R a1 a1n a1c h) : Ent Tryz.prog B 197 #[.slice a1 a1n a1c] R h :=
  Ent_of_W mixed Tryz.func197 (by kernel_rfl) (by kernel_rfl) (by kernel_rfl) F197_L [] (by rw [F197_W]; exact H)

/-- (math/big.nat).make -/
def F194 (B : World) (R : Ending → Heap → Prop) (a1 : Option Addr) (a1n : Nat) (a1c : Nat) (a2 : Int) (h : Heap) : Prop :=
  ((decide (a2 ≤ ((a1c : Nat) : Int))) = true →
 slW a1n a1c none (some (.int .i64 a2)) none fun l3 l4 l5 =>
 R (.returned (.slice (slP a1 l3 l5 1) (l4 - l3) (l5 - l3))) h) ∧
((decide (a2 ≤ ((a1c : Nat) : Int))) = false →
 ((decide (a2 = (1 : Int))) = true →
 0 ≤ (1 : Int) ∧ (1 : Int) ≤ (1 : Int) ∧ 8 * (1 : Int) ≤ 281474976710656 ∧ (1 : Int) < 9223372036854775808 ∧
 alW h (.cells (mkCells #[.int .u64 0] (Int.toNat (1 : Int) * 1)) 153) fun r6 h7 =>
 R (.returned (.slice (some ⟨r6, 0, none⟩) (Int.toNat (1 : Int)) (Int.toNat (1 : Int)))) h7) ∧
((decide (a2 = (1 : Int))) = false →
 0 ≤ a2 ∧ a2 ≤ (IntKind.i64.wrap (a2 + (4 : Int))) ∧ 8 * (IntKind.i64.wrap (a2 + (4 : Int))) ≤ 281474976710656 ∧ (IntKind.i64.wrap (a2 + (4 : Int))) < 9223372036854775808 ∧
 alW h (.cells (mkCells #[.int .u64 0] (Int.toNat (IntKind.i64.wrap (a2 + (4 : Int))) * 1)) 153) fun r8 h9 =>
 R (.returned (.slice (some ⟨r8, 0, none⟩) (Int.toNat a2) (Int.toNat (IntKind.i64.wrap (a2 + (4 : Int)))))) h9))
def F194_L : Nat → List (Nat × TypeDesc) := fun _ => []
theorem F194_W (B : World) (R : Ending → Heap → Prop) (a1 : Option Addr) (a1n : Nat) (a1c : Nat) (a2 : Int) (h : Heap) : W Tryz.prog B Tryz.f194.ntmps F194_L (prune [] (codeOf Tryz.f194)) (endQ Tryz.prog Tryz.f194 R) (env0 #[.slice a1 a1n a1c, .int .i64 a2]) h = F194 B R a1 a1n a1c a2 h := by kernel_rfl
theorem F194_ok {B : World} {R : Ending → Heap → Prop} (a1 : Option Addr) (a1n : Nat) (a1c : Nat) (a2 : Int) {h : Heap} (H : F194 B R a1 a1n a1c a2 h) : Ent Tryz.prog B 194 #[.slice a1 a1n a1c, .int .i64 a2] R h :=
  Ent_of_W mixed Tryz.func194 (by kernel_rfl) (by kernel_rfl) (by kernel_rfl) F194_L [] (by rw [F194_W]; exact H)

/-- (math/big.nat).set -/
def F182 (B : World) (R : Ending → Heap → Prop) (a1 : Option Addr) (a1n : Nat) (a1c : Nat) (a2 : Option Addr) (a2n : Nat) (a2c : Nat) (h : Heap) : Prop :=
  Ent Tryz.prog B 194 #[.slice a1 a1n a1c, .int .i64 ((a2n : Nat) : Int)] (retE (fun v3 h4 => ∃ x7 x7n x7c, v3 = .slice x7 x7n x7c ∧
 cpW h4 x7 x7n a2 a2n 1 fun n9 h8 =>
 R (.returned (.slice x7 x7n x7c)) h8)
 (fun ch5 h6 => R (.panicked ch5) h6)) h
def F182_L : Nat → List (Nat × TypeDesc) := fun _ => []
theorem F182_W (B : World) (R : Ending → Heap → Prop) (a1 : Option Addr) (a1n : Nat) (a1c : Nat) (a2 : Option Addr) (a2n : Nat) (a2c : Nat) (h : Heap) : W Tryz.prog B Tryz.f182.ntmps F182_L (prune [] (codeOf Tryz.f182)) (endQ Tryz.prog Tryz.f182 R) (env0 #[.slice a1 a1n a1c, .slice a2 a2n a2c]) h = F182 B R a1 a1n a1c a2 a2n a2c h := by kernel_rfl
theorem F182_ok {B : World} {R : Ending → Heap → Prop} (a1 : Option Addr) (a1n : Nat) (a1c : Nat) (a2 : Option Addr) (a2n : Nat) (a2c : Nat) {h : Heap} (H : F182 B R a1 a1n a1c a2 a2n a2c h) : Ent Tryz.prog B 182 #[.slice a1 a1n a1c, .slice a2 a2n a2c] R h :=
  Ent_of_W mixed Tryz.func182 (by kernel_rfl) (by kernel_rfl) (by kernel_rfl) F182_L [] (by rw [F182_W]; exact H)

/-- math/bits.Sub -/
def F198 (B : World) (R : Ending → Heap → Prop) (a1 : Int) (a2 : Int) (a3 : Int) (h : Heap) : Prop :=
  (false = true →
 Ent Tryz.prog B 216 #[.int .u32 (IntKind.u32.wrap a1), .int .u32 (IntKind.u32.wrap a2), .int .u32 (IntKind.u32.wrap a3)] (retE (fun v4 h5 => ∃ x8 x9, v4 = .tuple #[.int .u32 x8, .int .u32 x9] ∧
 R (.returned (.tuple #[.int .u64 (IntKind.u64.wrap x8), .int .u64 (IntKind.u64.wrap x9)])) h5)
 (fun ch6 h7 => R (.panicked ch6) h7)) h) ∧
(false = false →
 Ent Tryz.prog B 217 #[.int .u64 a1, .int .u64 a2, .int .u64 a3] (retE (fun v10 h11 => ∃ x14 x15, v10 = .tuple #[.int .u64 x14, .int .u64 x15] ∧
 R (.returned (.tuple #[.int .u64 x14, .int .u64 x15])) h11)
 (fun ch12 h13 => R (.panicked ch12) h13)) h)
def F198_L : Nat → List (Nat × TypeDesc) := fun _ => []
theorem F198_W (B : World) (R : Ending → Heap → Prop) (a1 : Int) (a2 : Int) (a3 : Int) (h : Heap) : W Tryz.prog B Tryz.f198.ntmps F198_L (prune [] (codeOf Tryz.f198)) (endQ Tryz.prog Tryz.f198 R) (env0 #[.int .u64 a1, .int .u64 a2, .int .u64 a3]) h = F198 B R a1 a2 a3 h := by kernel_rfl
theorem F198_ok {B : World} {R : Ending → Heap → Prop} (a1 : Int) (a2 : Int) (a3 : Int) {h : Heap} (H : F198 B R a1 a2 a3 h) : Ent Tryz.prog B 198 #[.int .u64 a1, .int .u64 a2, .int .u64 a3] R h :=
  Ent_of_W mixed Tryz.func198 (by kernel_rfl) (by kernel_rfl) (by kernel_rfl) F198_L [] (by rw [F198_W]; exact H)

/-- math/bits.Add -/
def F204 (B : World) (R : Ending → Heap → Prop) (a1 : Int) (a2 : Int) (a3 : Int) (h : Heap) : Prop :=
  (false = true →
 Ent Tryz.prog B 218 #[.int .u32 (IntKind.u32.wrap a1), .int .u32 (IntKind.u32.wrap a2), .int .u32 (IntKind.u32.wrap a3)] (retE (fun v4 h5 => ∃ x8 x9, v4 = .tuple #[.int .u32 x8, .int .u32 x9] ∧
 R (.returned (.tuple #[.int .u64 (IntKind.u64.wrap x8), .int .u64 (IntKind.u64.wrap x9)])) h5)
 (fun ch6 h7 => R (.panicked ch6) h7)) h) ∧
(false = false →
 Ent Tryz.prog B 219 #[.int .u64 a1, .int .u64 a2, .int .u64 a3] (retE (fun v10 h11 => ∃ x14 x15, v10 = .tuple #[.int .u64 x14, .int .u64 x15] ∧
 R (.returned (.tuple #[.int .u64 x14, .int .u64 x15])) h11)
 (fun ch12 h13 => R (.panicked ch12) h13)) h)
def F204_L : Nat → List (Nat × TypeDesc) := fun _ => []
theorem F204_W (B : World) (R : Ending → Heap → Prop) (a1 : Int) (a2 : Int) (a3 : Int) (h : Heap) : W Tryz.prog B Tryz.f204.ntmps F204_L (prune [] (codeOf Tryz.f204)) (endQ Tryz.prog Tryz.f204 R) (env0 #[.int .u64 a1, .int .u64 a2, .int .u64 a3]) h = F204 B R a1 a2 a3 h := by kernel_rfl
theorem F204_ok {B : World} {R : Ending → Heap → Prop} (a1 : Int) (a2 : Int) (a3 : Int) {h : Heap} (H : F204 B R a1 a2 a3 h) : Ent Tryz.prog B 204 #[.int .u64 a1, .int .u64 a2, .int .u64 a3] R h :=
  Ent_of_W mixed Tryz.func204 (by kernel_rfl) (by kernel_rfl) (by kernel_rfl) F204_L [] (by rw [F204_W]; exact H)

/-- (math/big.nat).trailingZeroBits -/
def F163 (B : World) (R : Ending → Heap → Prop) (a1 : Option Addr) (a1n : Nat) (a1c : Nat) (h : Heap) : Prop :=
  ((decide (((a1n : Nat) : Int) = (0 : Int))) = true →
 R (.returned (.int .u64 (0 : Int))) h) ∧
((decide (((a1n : Nat) : Int) = (0 : Int))) = false →
 ∃ I2 : Nat → List Value → Heap → Prop, ∃ n3, I2 n3 [.slice a1 a1n a1c, .int .u64 (0 : Int)] h ∧
∀ (n4 : Nat) (h7 : Heap) (z5 : Option Addr) (z5n : Nat) (z5c : Nat) (z6 : Int), I2 n4 [.slice z5 z5n z5c, .int .u64 z6] h7 → ∀ _r : Nat → Value,
 ixW z5 z5n z6 1 fun b8 o9 =>
 isP (some ⟨b8, o9, none⟩) fun b10 o11 => ∃ x12, cell? h7 ⟨b10, o11, none⟩ = some (.int .u64 x12) ∧
((decide (x12 = (0 : Int))) = true →
 ∃ m13, m13 < n4 ∧ I2 m13 [.slice z5 z5n z5c, .int .u64 (IntKind.u64.wrap (z6 + (1 : Int)))] h7) ∧
((decide (x12 = (0 : Int))) = false →
 ixW z5 z5n z6 1 fun b14 o15 =>
 isP (some ⟨b14, o15, none⟩) fun b16 o17 => ∃ x18, cell? h7 ⟨b16, o17, none⟩ = some (.int .u64 x18) ∧
 Ent Tryz.prog B 193 #[.int .u64 x18] (retE (fun v19 h20 => ∃ x23, v19 = .int .i64 x23 ∧
 R (.returned (.int .u64 (IntKind.u64.wrap ((IntKind.u64.wrap (z6 * (64 : Int))) + (IntKind.u64.wrap x23))))) h20)
 (fun ch21 h22 => R (.panicked ch21) h22)) h7))
def F163_L : Nat → List (Nat × TypeDesc) := fun i => match i with
  | 4 => [(0, .slice 0), (3, .int .u64)]
  | _ => []
theorem F163_W (B : World) (R : Ending → Heap → Prop) (a1 : Option Addr) (a1n : Nat) (a1c : Nat) (h : Heap) : W Tryz.prog B Tryz.f163.ntmps F163_L (prune [] (codeOf Tryz.f163)) (endQ Tryz.prog Tryz.f163 R) (env0 #[.slice a1 a1n a1c]) h = F163 B R a1 a1n a1c h := by kernel_rfl
theorem F163_ok {B : World} {R : Ending → Heap → Prop} (a1 : Option Addr) (a1n : Nat) (a1c : Nat) {h : Heap} (H : F163 B R a1 a1n a1c h) : Ent Tryz.prog B 163 #[.slice a1 a1n a1c] R h :=
  Ent_of_W mixed Tryz.func163 (by kernel_rfl) (by kernel_rfl) (by kernel_rfl) F163_L [] (by rw [F163_W]; exact H)

/-- (math/big.nat).sub -/
def F164_j53 (B : World) (R : Ending → Heap → Prop) (y54 : Option Addr) (y54n : Nat) (y54c : Nat) (y55 : Int) (h56 : Heap) : Prop :=
  ((!decide (y55 = (0 : Int))) = true →
 R (.panicked [{ v := .iface 9 (.string ⟨#[117, 110, 100, 101, 114, 102, 108, 111, 119]⟩), recovered := false }]) h56) ∧
((!decide (y55 = (0 : Int))) = false →
 Ent Tryz.prog B 197 #[.slice y54 y54n y54c] (retE (fun v57 h58 => ∃ x61 x61n x61c, v57 = .slice x61 x61n x61c ∧
 R (.returned (.slice x61 x61n x61c)) h58)
 (fun ch59 h60 => R (.panicked ch59) h60)) h56)
def F164_j49 (B : World) (R : Ending → Heap → Prop) (y50 : Option Addr) (y50n : Nat) (y50c : Nat) (y51 : Int) (h52 : Heap) : Prop :=
  F164_j53 B R y50 y50n y50c y51 h52
def F164_j31 (B : World) (R : Ending → Heap → Prop) (y32 : Option Addr) (y32n : Nat) (y32c : Nat) (y33 : Option Addr) (y33n : Nat) (y33c : Nat) (y34 : Int) (y35 : Int) (y36 : Int) (h37 : Heap) : Prop :=
  ((decide (y35 < y34)) = true →
 slW y32n y32c (some (.int .i64 y35)) none none fun l38 l39 l40 =>
 slW y33n y33c (some (.int .i64 y35)) none none fun l41 l42 l43 =>
 Ent Tryz.prog B 196 #[.slice (slP y32 l38 l40 1) (l39 - l38) (l40 - l38), .slice (slP y33 l41 l43 1) (l42 - l41) (l43 - l41), .int .u64 y36] (retE (fun v44 h45 => ∃ x48, v44 = .int .u64 x48 ∧
 F164_j49 B R y32 y32n y32c x48 h45)
 (fun _ _ => False)) h37) ∧
((decide (y35 < y34)) = false →
 F164_j53 B R y32 y32n y32c y36 h37)
def F164 (B : World) (R : Ending → Heap → Prop) (a1 : Option Addr) (a1n : Nat) (a1c : Nat) (a2 : Option Addr) (a2n : Nat) (a2c : Nat) (a3 : Option Addr) (a3n : Nat) (a3c : Nat) (h : Heap) : Prop :=
  ((decide (((a2n : Nat) : Int) < ((a3n : Nat) : Int))) = true →
 R (.panicked [{ v := .iface 9 (.string ⟨#[117, 110, 100, 101, 114, 102, 108, 111, 119]⟩), recovered := false }]) h) ∧
((decide (((a2n : Nat) : Int) < ((a3n : Nat) : Int))) = false →
 ((decide (((a2n : Nat) : Int) = (0 : Int))) = true →
 slW a1n a1c none (some (.int .i64 (0 : Int))) none fun l4 l5 l6 =>
 R (.returned (.slice (slP a1 l4 l6 1) (l5 - l4) (l6 - l4))) h) ∧
((decide (((a2n : Nat) : Int) = (0 : Int))) = false →
 ((decide (((a3n : Nat) : Int) = (0 : Int))) = true →
 Ent Tryz.prog B 182 #[.slice a1 a1n a1c, .slice a2 a2n a2c] (retE (fun v7 h8 => ∃ x11 x11n x11c, v7 = .slice x11 x11n x11c ∧
 R (.returned (.slice x11 x11n x11c)) h8)
 (fun ch9 h10 => R (.panicked ch9) h10)) h) ∧
((decide (((a3n : Nat) : Int) = (0 : Int))) = false →
 Ent Tryz.prog B 194 #[.slice a1 a1n a1c, .int .i64 ((a2n : Nat) : Int)] (retE (fun v12 h13 => ∃ x16 x16n x16c, v12 = .slice x16 x16n x16c ∧
 slW x16n x16c none (some (.int .i64 ((a3n : Nat) : Int))) none fun l17 l18 l19 =>
 slW a2n a2c none (some (.int .i64 ((a3n : Nat) : Int))) none fun l20 l21 l22 =>
 slW a3n a3c none (some (.int .i64 ((a3n : Nat) : Int))) none fun l23 l24 l25 =>
 Ent Tryz.prog B 195 #[.slice (slP x16 l17 l19 1) (l18 - l17) (l19 - l17), .slice (slP a2 l20 l22 1) (l21 - l20) (l22 - l20), .slice (slP a3 l23 l25 1) (l24 - l23) (l25 - l23)] (retE (fun v26 h27 => ∃ x30, v26 = .int .u64 x30 ∧
 F164_j31 B R x16 x16n x16c a2 a2n a2c ((a2n : Nat) : Int) ((a3n : Nat) : Int) x30 h27)
 (fun _ _ => False)) h13)
 (fun ch14 h15 => R (.panicked ch14) h15)) h)))
def F164_L : Nat → List (Nat × TypeDesc) := fun _ => []
theorem F164_W (B : World) (R : Ending → Heap → Prop) (a1 : Option Addr) (a1n : Nat) (a1c : Nat) (a2 : Option Addr) (a2n : Nat) (a2c : Nat) (a3 : Option Addr) (a3n : Nat) (a3c : Nat) (h : Heap) : W Tryz.prog B Tryz.f164.ntmps F164_L (prune [] (codeOf Tryz.f164)) (endQ Tryz.prog Tryz.f164 R) (env0 #[.slice a1 a1n a1c, .slice a2 a2n a2c, .slice a3 a3n a3c]) h = F164 B R a1 a1n a1c a2 a2n a2c a3 a3n a3c h := by kernel_rfl
theorem F164_ok {B : World} {R : Ending → Heap → Prop} (a1 : Option Addr) (a1n : Nat) (a1c : Nat) (a2 : Option Addr) (a2n : Nat) (a2c : Nat) (a3 : Option Addr) (a3n : Nat) (a3c : Nat) {h : Heap} (H : F164 B R a1 a1n a1c a2 a2n a2c a3 a3n a3c h) : Ent Tryz.prog B 164 #[.slice a1 a1n a1c, .slice a2 a2n a2c, .slice a3 a3n a3c] R h :=
  Ent_of_W mixed Tryz.func164 (by kernel_rfl) (by kernel_rfl) (by kernel_rfl) F164_L [] (by rw [F164_W]; exact H)

/-- (math/big.nat).rsh -/
def F165_j37 (B : World) (R : Ending → Heap → Prop) (y38 : Option Addr) (y38n : Nat) (y38c : Nat) (h39 : Heap) : Prop :=
  Ent Tryz.prog B 197 #[.slice y38 y38n y38c] (retE (fun v40 h41 => ∃ x44 x44n x44c, v40 = .slice x44 x44n x44c ∧
 R (.returned (.slice x44 x44n x44c)) h41)
 (fun ch42 h43 => R (.panicked ch42) h43)) h39
def F165_j19 (B : World) (R : Ending → Heap → Prop) (y20 : Option Addr) (y20n : Nat) (y20c : Nat) (y21 : Option Addr) (y21n : Nat) (y21c : Nat) (y22 : Int) (h23 : Heap) : Prop :=
  (64 : Int) ≠ 0 ∧
((decide ((IntKind.i64.wrap (((y21n : Nat) : Int) - (IntKind.i64.wrap (IntKind.u64.wrap (Int.tdiv y22 (64 : Int)))))) ≤ (0 : Int))) = true →
 slW y20n y20c none (some (.int .i64 (0 : Int))) none fun l24 l25 l26 =>
 R (.returned (.slice (slP y20 l24 l26 1) (l25 - l24) (l26 - l24))) h23) ∧
((decide ((IntKind.i64.wrap (((y21n : Nat) : Int) - (IntKind.i64.wrap (IntKind.u64.wrap (Int.tdiv y22 (64 : Int)))))) ≤ (0 : Int))) = false →
 Ent Tryz.prog B 194 #[.slice y20 y20n y20c, .int .i64 (IntKind.i64.wrap (((y21n : Nat) : Int) - (IntKind.i64.wrap (IntKind.u64.wrap (Int.tdiv y22 (64 : Int))))))] (retE (fun v27 h28 => ∃ x31 x31n x31c, v27 = .slice x31 x31n x31c ∧
(64 : Int) ≠ 0 ∧
((decide ((Int.tmod y22 (64 : Int)) = (0 : Int))) = true →
 slW y21n y21c (some (.int .i64 (IntKind.i64.wrap (((y21n : Nat) : Int) - (IntKind.i64.wrap (((y21n : Nat) : Int) - (IntKind.i64.wrap (IntKind.u64.wrap (Int.tdiv y22 (64 : Int)))))))))) none none fun l32 l33 l34 =>
 cpW h28 x31 x31n (slP y21 l32 l34 1) (l33 - l32) 1 fun n36 h35 =>
 F165_j37 B R x31 x31n x31c h35) ∧
((decide ((Int.tmod y22 (64 : Int)) = (0 : Int))) = false →
 slW y21n y21c (some (.int .i64 (IntKind.i64.wrap (((y21n : Nat) : Int) - (IntKind.i64.wrap (((y21n : Nat) : Int) - (IntKind.i64.wrap (IntKind.u64.wrap (Int.tdiv y22 (64 : Int)))))))))) none none fun l45 l46 l47 =>
 Ent Tryz.prog B 201 #[.slice x31 x31n x31c, .slice (slP y21 l45 l47 1) (l46 - l45) (l47 - l45), .int .u64 (Int.tmod y22 (64 : Int))] (retE (fun v48 h49 => ∃ x52, v48 = .int .u64 x52 ∧
 F165_j37 B R x31 x31n x31c h49)
 (fun ch50 h51 => R (.panicked ch50) h51)) h28))
 (fun ch29 h30 => R (.panicked ch29) h30)) h23)
def F165 (B : World) (R : Ending → Heap → Prop) (a1 : Option Addr) (a1n : Nat) (a1c : Nat) (a2 : Option Addr) (a2n : Nat) (a2c : Nat) (a3 : Int) (h : Heap) : Prop :=
  ((decide (a3 = (0 : Int))) = true →
 Ent Tryz.prog B 199 #[.slice a1 a1n a1c, .slice a2 a2n a2c] (retE (fun v4 h5 => ∃ x8, v4 = .bool x8 ∧
(x8 = true →
 R (.returned (.slice a1 a1n a1c)) h5) ∧
(x8 = false →
 Ent Tryz.prog B 200 #[.slice a1 a1n a1c, .slice a2 a2n a2c] (retE (fun v9 h10 => ∃ x13, v9 = .bool x13 ∧
((!x13) = true →
 Ent Tryz.prog B 182 #[.slice a1 a1n a1c, .slice a2 a2n a2c] (retE (fun v14 h15 => ∃ x18 x18n x18c, v14 = .slice x18 x18n x18c ∧
 R (.returned (.slice x18 x18n x18c)) h15)
 (fun ch16 h17 => R (.panicked ch16) h17)) h10) ∧
((!x13) = false →
 F165_j19 B R a1 a1n a1c a2 a2n a2c a3 h10))
 (fun ch11 h12 => R (.panicked ch11) h12)) h5))
 (fun ch6 h7 => R (.panicked ch6) h7)) h) ∧
((decide (a3 = (0 : Int))) = false →
 F165_j19 B R a1 a1n a1c a2 a2n a2c a3 h)
def F165_L : Nat → List (Nat × TypeDesc) := fun _ => []
theorem F165_W (B : World) (R : Ending → Heap → Prop) (a1 : Option Addr) (a1n : Nat) (a1c : Nat) (a2 : Option Addr) (a2n : Nat) (a2c : Nat) (a3 : Int) (h : Heap) : W Tryz.prog B Tryz.f165.ntmps F165_L (prune [] (codeOf Tryz.f165)) (endQ Tryz.prog Tryz.f165 R) (env0 #[.slice a1 a1n a1c, .slice a2 a2n a2c, .int .u64 a3]) h = F165 B R a1 a1n a1c a2 a2n a2c a3 h := by kernel_rfl
theorem F165_ok {B : World} {R : Ending → Heap → Prop} (a1 : Option Addr) (a1n : Nat) (a1c : Nat) (a2 : Option Addr) (a2n : Nat) (a2c : Nat) (a3 : Int) {h : Heap} (H : F165 B R a1 a1n a1c a2 a2n a2c a3 h) : Ent Tryz.prog B 165 #[.slice a1 a1n a1c, .slice a2 a2n a2c, .int .u64 a3] R h :=
  Ent_of_W mixed Tryz.func165 (by kernel_rfl) (by kernel_rfl) (by kernel_rfl) F165_L [] (by rw [F165_W]; exact H)

/-- (math/big.nat).add -/
def F166_j59 (B : World) (R : Ending → Heap → Prop) (y60 : Option Addr) (y60n : Nat) (y60c : Nat) (y61 : Int) (y62 : Int) (h63 : Heap) : Prop :=
  ixW y60 y60n y61 1 fun b64 o65 =>
 isP (some ⟨b64, o65, none⟩) fun b66 o67 => stC h63 b66 o67 (.int .u64 y62) fun h68 =>
 Ent Tryz.prog B 197 #[.slice y60 y60n y60c] (retE (fun v69 h70 => ∃ x73 x73n x73c, v69 = .slice x73 x73n x73c ∧
 R (.returned (.slice x73 x73n x73c)) h70)
 (fun ch71 h72 => R (.panicked ch71) h72)) h68
def F166_j54 (B : World) (R : Ending → Heap → Prop) (y55 : Option Addr) (y55n : Nat) (y55c : Nat) (y56 : Int) (y57 : Int) (h58 : Heap) : Prop :=
  F166_j59 B R y55 y55n y55c y56 y57 h58
def F166_j36 (B : World) (R : Ending → Heap → Prop) (y37 : Option Addr) (y37n : Nat) (y37c : Nat) (y38 : Option Addr) (y38n : Nat) (y38c : Nat) (y39 : Int) (y40 : Int) (y41 : Int) (h42 : Heap) : Prop :=
  ((decide (y40 < y39)) = true →
 slW y37n y37c (some (.int .i64 y40)) (some (.int .i64 y39)) none fun l43 l44 l45 =>
 slW y38n y38c (some (.int .i64 y40)) none none fun l46 l47 l48 =>
 Ent Tryz.prog B 203 #[.slice (slP y37 l43 l45 1) (l44 - l43) (l45 - l43), .slice (slP y38 l46 l48 1) (l47 - l46) (l48 - l46), .int .u64 y41] (retE (fun v49 h50 => ∃ x53, v49 = .int .u64 x53 ∧
 F166_j54 B R y37 y37n y37c y39 x53 h50)
 (fun _ _ => False)) h42) ∧
((decide (y40 < y39)) = false →
 F166_j59 B R y37 y37n y37c y39 y41 h42)
def F166 (B : World) (R : Ending → Heap → Prop) (a1 : Option Addr) (a1n : Nat) (a1c : Nat) (a2 : Option Addr) (a2n : Nat) (a2c : Nat) (a3 : Option Addr) (a3n : Nat) (a3c : Nat) (h : Heap) : Prop :=
  ((decide (((a2n : Nat) : Int) < ((a3n : Nat) : Int))) = true →
 Ent Tryz.prog B 166 #[.slice a1 a1n a1c, .slice a3 a3n a3c, .slice a2 a2n a2c] (retE (fun v4 h5 => ∃ x8 x8n x8c, v4 = .slice x8 x8n x8c ∧
 R (.returned (.slice x8 x8n x8c)) h5)
 (fun ch6 h7 => R (.panicked ch6) h7)) h) ∧
((decide (((a2n : Nat) : Int) < ((a3n : Nat) : Int))) = false →
 ((decide (((a2n : Nat) : Int) = (0 : Int))) = true →
 slW a1n a1c none (some (.int .i64 (0 : Int))) none fun l9 l10 l11 =>
 R (.returned (.slice (slP a1 l9 l11 1) (l10 - l9) (l11 - l9))) h) ∧
((decide (((a2n : Nat) : Int) = (0 : Int))) = false →
 ((decide (((a3n : Nat) : Int) = (0 : Int))) = true →
 Ent Tryz.prog B 182 #[.slice a1 a1n a1c, .slice a2 a2n a2c] (retE (fun v12 h13 => ∃ x16 x16n x16c, v12 = .slice x16 x16n x16c ∧
 R (.returned (.slice x16 x16n x16c)) h13)
 (fun ch14 h15 => R (.panicked ch14) h15)) h) ∧
((decide (((a3n : Nat) : Int) = (0 : Int))) = false →
 Ent Tryz.prog B 194 #[.slice a1 a1n a1c, .int .i64 (IntKind.i64.wrap (((a2n : Nat) : Int) + (1 : Int)))] (retE (fun v17 h18 => ∃ x21 x21n x21c, v17 = .slice x21 x21n x21c ∧
 slW x21n x21c none (some (.int .i64 ((a3n : Nat) : Int))) none fun l22 l23 l24 =>
 slW a2n a2c none (some (.int .i64 ((a3n : Nat) : Int))) none fun l25 l26 l27 =>
 slW a3n a3c none (some (.int .i64 ((a3n : Nat) : Int))) none fun l28 l29 l30 =>
 Ent Tryz.prog B 202 #[.slice (slP x21 l22 l24 1) (l23 - l22) (l24 - l22), .slice (slP a2 l25 l27 1) (l26 - l25) (l27 - l25), .slice (slP a3 l28 l30 1) (l29 - l28) (l30 - l28)] (retE (fun v31 h32 => ∃ x35, v31 = .int .u64 x35 ∧
 F166_j36 B R x21 x21n x21c a2 a2n a2c ((a2n : Nat) : Int) ((a3n : Nat) : Int) x35 h32)
 (fun _ _ => False)) h18)
 (fun ch19 h20 => R (.panicked ch19) h20)) h)))
def F166_L : Nat → List (Nat × TypeDesc) := fun _ => []
theorem F166_W (B : World) (R : Ending → Heap → Prop) (a1 : Option Addr) (a1n : Nat) (a1c : Nat) (a2 : Option Addr) (a2n : Nat) (a2c : Nat) (a3 : Option Addr) (a3n : Nat) (a3c : Nat) (h : Heap) : W Tryz.prog B Tryz.f166.ntmps F166_L (prune [] (codeOf Tryz.f166)) (endQ Tryz.prog Tryz.f166 R) (env0 #[.slice a1 a1n a1c, .slice a2 a2n a2c, .slice a3 a3n a3c]) h = F166 B R a1 a1n a1c a2 a2n a2c a3 a3n a3c h := by kernel_rfl
theorem F166_ok {B : World} {R : Ending → Heap → Prop} (a1 : Option Addr) (a1n : Nat) (a1c : Nat) (a2 : Option Addr) (a2n : Nat) (a2c : Nat) (a3 : Option Addr) (a3n : Nat) (a3c : Nat) {h : Heap} (H : F166 B R a1 a1n a1c a2 a2n a2c a3 a3n a3c h) : Ent Tryz.prog B 166 #[.slice a1 a1n a1c, .slice a2 a2n a2c, .slice a3 a3n a3c] R h :=
  Ent_of_W mixed Tryz.func166 (by kernel_rfl) (by kernel_rfl) (by kernel_rfl) F166_L [] (by rw [F166_W]; exact H)

/-- (math/big.nat).bitLen -/
def F167 (B : World) (R : Ending → Heap → Prop) (a1 : Option Addr) (a1n : Nat) (a1c : Nat) (h : Heap) : Prop :=
  ((decide ((0 : Int) ≤ (IntKind.i64.wrap (((a1n : Nat) : Int) - (1 : Int))))) = true →
 ixW a1 a1n (IntKind.i64.wrap (((a1n : Nat) : Int) - (1 : Int))) 1 fun b2 o3 =>
 isP (some ⟨b2, o3, none⟩) fun b4 o5 => ∃ x6, cell? h ⟨b4, o5, none⟩ = some (.int .u64 x6) ∧
0 ≤ (1 : Int) ∧
0 ≤ (2 : Int) ∧
0 ≤ (4 : Int) ∧
0 ≤ (8 : Int) ∧
0 ≤ (16 : Int) ∧
0 ≤ (16 : Int) ∧
0 ≤ (16 : Int) ∧
 Ent Tryz.prog B 205 #[.int .u64 (bitsI .or .u64 (bitsI .or .u64 (bitsI .or .u64 (bitsI .or .u64 (bitsI .or .u64 (bitsI .or .u64 x6 (Int.fdiv x6 (2 ^ min (Int.toNat (1 : Int)) IntKind.u64.bits))) (Int.fdiv (bitsI .or .u64 x6 (Int.fdiv x6 (2 ^ min (Int.toNat (1 : Int)) IntKind.u64.bits))) (2 ^ min (Int.toNat (2 : Int)) IntKind.u64.bits))) (Int.fdiv (bitsI .or .u64 (bitsI .or .u64 x6 (Int.fdiv x6 (2 ^ min (Int.toNat (1 : Int)) IntKind.u64.bits))) (Int.fdiv (bitsI .or .u64 x6 (Int.fdiv x6 (2 ^ min (Int.toNat (1 : Int)) IntKind.u64.bits))) (2 ^ min (Int.toNat (2 : Int)) IntKind.u64.bits))) (2 ^ min (Int.toNat (4 : Int)) IntKind.u64.bits))) (Int.fdiv (bitsI .or .u64 (bitsI .or .u64 (bitsI .or .u64 x6 (Int.fdiv x6 (2 ^ min (Int.toNat (1 : Int)) IntKind.u64.bits))) (Int.fdiv (bitsI .or .u64 x6 (Int.fdiv x6 (2 ^ min (Int.toNat (1 : Int)) IntKind.u64.bits))) (2 ^ min (Int.toNat (2 : Int)) IntKind.u64.bits))) (Int.fdiv (bitsI .or .u64 (bitsI .or .u64 x6 (Int.fdiv x6 (2 ^ min (Int.toNat (1 : Int)) IntKind.u64.bits))) (Int.fdiv (bitsI .or .u64 x6 (Int.fdiv x6 (2 ^ min (Int.toNat (1 : Int)) IntKind.u64.bits))) (2 ^ min (Int.toNat (2 : Int)) IntKind.u64.bits))) (2 ^ min (Int.toNat (4 : Int)) IntKind.u64.bits))) (2 ^ min (Int.toNat (8 : Int)) IntKind.u64.bits))) (Int.fdiv (bitsI .or .u64 (bitsI .or .u64 (bitsI .or .u64 (bitsI .or .u64 x6 (Int.fdiv x6 (2 ^ min (Int.toNat (1 : Int)) IntKind.u64.bits))) (Int.fdiv (bitsI .or .u64 x6 (Int.fdiv x6 (2 ^ min (Int.toNat (1 : Int)) IntKind.u64.bits))) (2 ^ min (Int.toNat (2 : Int)) IntKind.u64.bits))) (Int.fdiv (bitsI .or .u64 (bitsI .or .u64 x6 (Int.fdiv x6 (2 ^ min (Int.toNat (1 : Int)) IntKind.u64.bits))) (Int.fdiv (bitsI .or .u64 x6 (Int.fdiv x6 (2 ^ min (Int.toNat (1 : Int)) IntKind.u64.bits))) (2 ^ min (Int.toNat (2 : Int)) IntKind.u64.bits))) (2 ^ min (Int.toNat (4 : Int)) IntKind.u64.bits))) (Int.fdiv (bitsI .or .u64 (bitsI .or .u64 (bitsI .or .u64 x6 (Int.fdiv x6 (2 ^ min (Int.toNat (1 : Int)) IntKind.u64.bits))) (Int.fdiv (bitsI .or .u64 x6 (Int.fdiv x6 (2 ^ min (Int.toNat (1 : Int)) IntKind.u64.bits))) (2 ^ min (Int.toNat (2 : Int)) IntKind.u64.bits))) (Int.fdiv (bitsI .or .u64 (bitsI .or .u64 x6 (Int.fdiv x6 (2 ^ min (Int.toNat (1 : Int)) IntKind.u64.bits))) (Int.fdiv (bitsI .or .u64 x6 (Int.fdiv x6 (2 ^ min (Int.toNat (1 : Int)) IntKind.u64.bits))) (2 ^ min (Int.toNat (2 : Int)) IntKind.u64.bits))) (2 ^ min (Int.toNat (4 : Int)) IntKind.u64.bits))) (2 ^ min (Int.toNat (8 : Int)) IntKind.u64.bits))) (2 ^ min (Int.toNat (16 : Int)) IntKind.u64.bits))) (Int.fdiv (Int.fdiv (bitsI .or .u64 (bitsI .or .u64 (bitsI .or .u64 (bitsI .or .u64 (bitsI .or .u64 x6 (Int.fdiv x6 (2 ^ min (Int.toNat (1 : Int)) IntKind.u64.bits))) (Int.fdiv (bitsI .or .u64 x6 (Int.fdiv x6 (2 ^ min (Int.toNat (1 : Int)) IntKind.u64.bits))) (2 ^ min (Int.toNat (2 : Int)) IntKind.u64.bits))) (Int.fdiv (bitsI .or .u64 (bitsI .or .u64 x6 (Int.fdiv x6 (2 ^ min (Int.toNat (1 : Int)) IntKind.u64.bits))) (Int.fdiv (bitsI .or .u64 x6 (Int.fdiv x6 (2 ^ min (Int.toNat (1 : Int)) IntKind.u64.bits))) (2 ^ min (Int.toNat (2 : Int)) IntKind.u64.bits))) (2 ^ min (Int.toNat (4 : Int)) IntKind.u64.bits))) (Int.fdiv (bitsI .or .u64 (bitsI .or .u64 (bitsI .or .u64 x6 (Int.fdiv x6 (2 ^ min (Int.toNat (1 : Int)) IntKind.u64.bits))) (Int.fdiv (bitsI .or .u64 x6 (Int.fdiv x6 (2 ^ min (Int.toNat (1 : Int)) IntKind.u64.bits))) (2 ^ min (Int.toNat (2 : Int)) IntKind.u64.bits))) (Int.fdiv (bitsI .or .u64 (bitsI .or .u64 x6 (Int.fdiv x6 (2 ^ min (Int.toNat (1 : Int)) IntKind.u64.bits))) (Int.fdiv (bitsI .or .u64 x6 (Int.fdiv x6 (2 ^ min (Int.toNat (1 : Int)) IntKind.u64.bits))) (2 ^ min (Int.toNat (2 : Int)) IntKind.u64.bits))) (2 ^ min (Int.toNat (4 : Int)) IntKind.u64.bits))) (2 ^ min (Int.toNat (8 : Int)) IntKind.u64.bits))) (Int.fdiv (bitsI .or .u64 (bitsI .or .u64 (bitsI .or .u64 (bitsI .or .u64 x6 (Int.fdiv x6 (2 ^ min (Int.toNat (1 : Int)) IntKind.u64.bits))) (Int.fdiv (bitsI .or .u64 x6 (Int.fdiv x6 (2 ^ min (Int.toNat (1 : Int)) IntKind.u64.bits))) (2 ^ min (Int.toNat (2 : Int)) IntKind.u64.bits))) (Int.fdiv (bitsI .or .u64 (bitsI .or .u64 x6 (Int.fdiv x6 (2 ^ min (Int.toNat (1 : Int)) IntKind.u64.bits))) (Int.fdiv (bitsI .or .u64 x6 (Int.fdiv x6 (2 ^ min (Int.toNat (1 : Int)) IntKind.u64.bits))) (2 ^ min (Int.toNat (2 : Int)) IntKind.u64.bits))) (2 ^ min (Int.toNat (4 : Int)) IntKind.u64.bits))) (Int.fdiv (bitsI .or .u64 (bitsI .or .u64 (bitsI .or .u64 x6 (Int.fdiv x6 (2 ^ min (Int.toNat (1 : Int)) IntKind.u64.bits))) (Int.fdiv (bitsI .or .u64 x6 (Int.fdiv x6 (2 ^ min (Int.toNat (1 : Int)) IntKind.u64.bits))) (2 ^ min (Int.toNat (2 : Int)) IntKind.u64.bits))) (Int.fdiv (bitsI .or .u64 (bitsI .or .u64 x6 (Int.fdiv x6 (2 ^ min (Int.toNat (1 : Int)) IntKind.u64.bits))) (Int.fdiv (bitsI .or .u64 x6 (Int.fdiv x6 (2 ^ min (Int.toNat (1 : Int)) IntKind.u64.bits))) (2 ^ min (Int.toNat (2 : Int)) IntKind.u64.bits))) (2 ^ min (Int.toNat (4 : Int)) IntKind.u64.bits))) (2 ^ min (Int.toNat (8 : Int)) IntKind.u64.bits))) (2 ^ min (Int.toNat (16 : Int)) IntKind.u64.bits))) (2 ^ min (Int.toNat (16 : Int)) IntKind.u64.bits)) (2 ^ min (Int.toNat (16 : Int)) IntKind.u64.bits)))] (retE (fun v7 h8 => ∃ x11, v7 = .int .i64 x11 ∧
 R (.returned (.int .i64 (IntKind.i64.wrap ((IntKind.i64.wrap ((IntKind.i64.wrap (((a1n : Nat) : Int) - (1 : Int))) * (64 : Int))) + x11)))) h8)
 (fun ch9 h10 => R (.panicked ch9) h10)) h) ∧
((decide ((0 : Int) ≤ (IntKind.i64.wrap (((a1n : Nat) : Int) - (1 : Int))))) = false →
 R (.returned (.int .i64 (0 : Int))) h)
def F167_L : Nat → List (Nat × TypeDesc) := fun _ => []
theorem F167_W (B : World) (R : Ending → Heap → Prop) (a1 : Option Addr) (a1n : Nat) (a1c : Nat) (h : Heap) : W Tryz.prog B Tryz.f167.ntmps F167_L (prune [] (codeOf Tryz.f167)) (endQ Tryz.prog Tryz.f167 R) (env0 #[.slice a1 a1n a1c]) h = F167 B R a1 a1n a1c h := by kernel_rfl
theorem F167_ok {B : World} {R : Ending → Heap → Prop} (a1 : Option Addr) (a1n : Nat) (a1c : Nat) {h : Heap} (H : F167 B R a1 a1n a1c h) : Ent Tryz.prog B 167 #[.slice a1 a1n a1c] R h :=
  Ent_of_W mixed Tryz.func167 (by kernel_rfl) (by kernel_rfl) (by kernel_rfl) F167_L [] (by rw [F167_W]; exact H)

/-- (math/big.nat).or -/
def F168_j43 (B : World) (R : Ending → Heap → Prop) (I17 : Nat → List Value → Heap → Prop) (n19 : Nat) (y44 : Option Addr) (y44n : Nat) (y44c : Nat) (y45 : Option Addr) (y45n : Nat) (y45c : Nat) (y46 : Option Addr) (y46n : Nat) (y46c : Nat) (y47 : Int) (y48 : Int) (y49 : Option Addr) (y49n : Nat) (y49c : Nat) (y50 : Int) (h51 : Heap) : Prop :=
  ∃ m52, m52 < n19 ∧ I17 m52 [.slice y44 y44n y44c, .slice y45 y45n y45c, .slice y46 y46n y46c, .int .i64 y47, .int .i64 y48, .slice y49 y49n y49c, .int .i64 (IntKind.i64.wrap (y50 + (1 : Int)))] h51
def F168_j61 (B : World) (R : Ending → Heap → Prop) (I17 : Nat → List Value → Heap → Prop) (n19 : Nat) (y62 : Option Addr) (y62n : Nat) (y62c : Nat) (h63 : Heap) : Prop :=
  Ent Tryz.prog B 197 #[.slice y62 y62n y62c] (retE (fun v64 h65 => ∃ x68 x68n x68c, v64 = .slice x68 x68n x68c ∧
 R (.returned (.slice x68 x68n x68c)) h65)
 (fun ch66 h67 => R (.panicked ch66) h67)) h63
def F168_j4 (B : World) (R : Ending → Heap → Prop) (y5 : Option Addr) (y5n : Nat) (y5c : Nat) (y6 : Option Addr) (y6n : Nat) (y6c : Nat) (y7 : Option Addr) (y7n : Nat) (y7c : Nat) (y8 : Int) (y9 : Int) (y10 : Option Addr) (y10n : Nat) (y10c : Nat) (h11 : Heap) : Prop :=
  Ent Tryz.prog B 194 #[.slice y5 y5n y5c, .int .i64 y8] (retE (fun v12 h13 => ∃ x16 x16n x16c, v12 = .slice x16 x16n x16c ∧
∃ I17 : Nat → List Value → Heap → Prop, ∃ n18, I17 n18 [.slice x16 x16n x16c, .slice y6 y6n y6c, .slice y7 y7n y7c, .int .i64 y8, .int .i64 y9, .slice y10 y10n y10c, .int .i64 (0 : Int)] h13 ∧
∀ (n19 : Nat) (h27 : Heap) (z20 : Option Addr) (z20n : Nat) (z20c : Nat) (z21 : Option Addr) (z21n : Nat) (z21c : Nat) (z22 : Option Addr) (z22n : Nat) (z22c : Nat) (z23 : Int) (z24 : Int) (z25 : Option Addr) (z25n : Nat) (z25c : Nat) (z26 : Int), I17 n19 [.slice z20 z20n z20c, .slice z21 z21n z21c, .slice z22 z22n z22c, .int .i64 z23, .int .i64 z24, .slice z25 z25n z25c, .int .i64 z26] h27 → ∀ _r : Nat → Value,
 ((decide (z26 < z24)) = true →
 ixW z21 z21n z26 1 fun b28 o29 =>
 isP (some ⟨b28, o29, none⟩) fun b30 o31 => ∃ x32, cell? h27 ⟨b30, o31, none⟩ = some (.int .u64 x32) ∧
 ixW z22 z22n z26 1 fun b33 o34 =>
 isP (some ⟨b33, o34, none⟩) fun b35 o36 => ∃ x37, cell? h27 ⟨b35, o36, none⟩ = some (.int .u64 x37) ∧
 ixW z20 z20n z26 1 fun b38 o39 =>
 isP (some ⟨b38, o39, none⟩) fun b40 o41 => stC h27 b40 o41 (.int .u64 (bitsI .or .u64 x32 x37)) fun h42 =>
 F168_j43 B R I17 n19 z20 z20n z20c z21 z21n z21c z22 z22n z22c z23 z24 z25 z25n z25c z26 h42) ∧
((decide (z26 < z24)) = false →
 slW z20n z20c (some (.int .i64 z24)) (some (.int .i64 z23)) none fun l53 l54 l55 =>
 slW z25n z25c (some (.int .i64 z24)) (some (.int .i64 z23)) none fun l56 l57 l58 =>
 cpW h27 (slP z20 l53 l55 1) (l54 - l53) (slP z25 l56 l58 1) (l57 - l56) 1 fun n60 h59 =>
 F168_j61 B R I17 n19 z20 z20n z20c h59))
 (fun ch14 h15 => R (.panicked ch14) h15)) h11
def F168 (B : World) (R : Ending → Heap → Prop) (a1 : Option Addr) (a1n : Nat) (a1c : Nat) (a2 : Option Addr) (a2n : Nat) (a2c : Nat) (a3 : Option Addr) (a3n : Nat) (a3c : Nat) (h : Heap) : Prop :=
  ((decide (((a2n : Nat) : Int) < ((a3n : Nat) : Int))) = true →
 F168_j4 B R a1 a1n a1c a2 a2n a2c a3 a3n a3c ((a3n : Nat) : Int) ((a2n : Nat) : Int) a3 a3n a3c h) ∧
((decide (((a2n : Nat) : Int) < ((a3n : Nat) : Int))) = false →
 F168_j4 B R a1 a1n a1c a2 a2n a2c a3 a3n a3c ((a2n : Nat) : Int) ((a3n : Nat) : Int) a2 a2n a2c h)
def F168_L : Nat → List (Nat × TypeDesc) := fun i => match i with
  | 9 => [(0, .slice 0), (1, .slice 0), (2, .slice 0), (7, .int .i64), (8, .int .i64), (9, .slice 0), (10, .int .i64)]
  | _ => []
theorem F168_W (B : World) (R : Ending → Heap → Prop) (a1 : Option Addr) (a1n : Nat) (a1c : Nat) (a2 : Option Addr) (a2n : Nat) (a2c : Nat) (a3 : Option Addr) (a3n : Nat) (a3c : Nat) (h : Heap) : W Tryz.prog B Tryz.f168.ntmps F168_L (prune [] (codeOf Tryz.f168)) (endQ Tryz.prog Tryz.f168 R) (env0 #[.slice a1 a1n a1c, .slice a2 a2n a2c, .slice a3 a3n a3c]) h = F168 B R a1 a1n a1c a2 a2n a2c a3 a3n a3c h := by kernel_rfl
theorem F168_ok {B : World} {R : Ending → Heap → Prop} (a1 : Option Addr) (a1n : Nat) (a1c : Nat) (a2 : Option Addr) (a2n : Nat) (a2c : Nat) (a3 : Option Addr) (a3n : Nat) (a3c : Nat) {h : Heap} (H : F168 B R a1 a1n a1c a2 a2n a2c a3 a3n a3c h) : Ent Tryz.prog B 168 #[.slice a1 a1n a1c, .slice a2 a2n a2c, .slice a3 a3n a3c] R h :=
  Ent_of_W mixed Tryz.func168 (by kernel_rfl) (by kernel_rfl) (by kernel_rfl) F168_L [] (by rw [F168_W]; exact H)

/-- (math/big.nat).and -/
def F169_j39 (B : World) (R : Ending → Heap → Prop) (I15 : Nat → List Value → Heap → Prop) (n17 : Nat) (y40 : Option Addr) (y40n : Nat) (y40c : Nat) (y41 : Option Addr) (y41n : Nat) (y41c : Nat) (y42 : Option Addr) (y42n : Nat) (y42c : Nat) (y43 : Int) (y44 : Int) (h45 : Heap) : Prop :=
  ∃ m46, m46 < n17 ∧ I15 m46 [.slice y40 y40n y40c, .slice y41 y41n y41c, .slice y42 y42n y42c, .int .i64 y43, .int .i64 (IntKind.i64.wrap (y44 + (1 : Int)))] h45
def F169_j4 (B : World) (R : Ending → Heap → Prop) (y5 : Option Addr) (y5n : Nat) (y5c : Nat) (y6 : Option Addr) (y6n : Nat) (y6c : Nat) (y7 : Option Addr) (y7n : Nat) (y7c : Nat) (y8 : Int) (h9 : Heap) : Prop :=
  Ent Tryz.prog B 194 #[.slice y5 y5n y5c, .int .i64 y8] (retE (fun v10 h11 => ∃ x14 x14n x14c, v10 = .slice x14 x14n x14c ∧
∃ I15 : Nat → List Value → Heap → Prop, ∃ n16, I15 n16 [.slice x14 x14n x14c, .slice y6 y6n y6c, .slice y7 y7n y7c, .int .i64 y8, .int .i64 (0 : Int)] h11 ∧
∀ (n17 : Nat) (h23 : Heap) (z18 : Option Addr) (z18n : Nat) (z18c : Nat) (z19 : Option Addr) (z19n : Nat) (z19c : Nat) (z20 : Option Addr) (z20n : Nat) (z20c : Nat) (z21 : Int) (z22 : Int), I15 n17 [.slice z18 z18n z18c, .slice z19 z19n z19c, .slice z20 z20n z20c, .int .i64 z21, .int .i64 z22] h23 → ∀ _r : Nat → Value,
 ((decide (z22 < z21)) = true →
 ixW z19 z19n z22 1 fun b24 o25 =>
 isP (some ⟨b24, o25, none⟩) fun b26 o27 => ∃ x28, cell? h23 ⟨b26, o27, none⟩ = some (.int .u64 x28) ∧
 ixW z20 z20n z22 1 fun b29 o30 =>
 isP (some ⟨b29, o30, none⟩) fun b31 o32 => ∃ x33, cell? h23 ⟨b31, o32, none⟩ = some (.int .u64 x33) ∧
 ixW z18 z18n z22 1 fun b34 o35 =>
 isP (some ⟨b34, o35, none⟩) fun b36 o37 => stC h23 b36 o37 (.int .u64 (bitsI .and .u64 x28 x33)) fun h38 =>
 F169_j39 B R I15 n17 z18 z18n z18c z19 z19n z19c z20 z20n z20c z21 z22 h38) ∧
((decide (z22 < z21)) = false →
 Ent Tryz.prog B 197 #[.slice z18 z18n z18c] (retE (fun v47 h48 => ∃ x51 x51n x51c, v47 = .slice x51 x51n x51c ∧
 R (.returned (.slice x51 x51n x51c)) h48)
 (fun ch49 h50 => R (.panicked ch49) h50)) h23))
 (fun ch12 h13 => R (.panicked ch12) h13)) h9
def F169 (B : World) (R : Ending → Heap → Prop) (a1 : Option Addr) (a1n : Nat) (a1c : Nat) (a2 : Option Addr) (a2n : Nat) (a2c : Nat) (a3 : Option Addr) (a3n : Nat) (a3c : Nat) (h : Heap) : Prop :=
  ((decide (((a3n : Nat) : Int) < ((a2n : Nat) : Int))) = true →
 F169_j4 B R a1 a1n a1c a2 a2n a2c a3 a3n a3c ((a3n : Nat) : Int) h) ∧
((decide (((a3n : Nat) : Int) < ((a2n : Nat) : Int))) = false →
 F169_j4 B R a1 a1n a1c a2 a2n a2c a3 a3n a3c ((a2n : Nat) : Int) h)
def F169_L : Nat → List (Nat × TypeDesc) := fun i => match i with
  | 7 => [(0, .slice 0), (1, .slice 0), (2, .slice 0), (7, .int .i64), (9, .int .i64)]
  | _ => []
theorem F169_W (B : World) (R : Ending → Heap → Prop) (a1 : Option Addr) (a1n : Nat) (a1c : Nat) (a2 : Option Addr) (a2n : Nat) (a2c : Nat) (a3 : Option Addr) (a3n : Nat) (a3c : Nat) (h : Heap) : W Tryz.prog B Tryz.f169.ntmps F169_L (prune [] (codeOf Tryz.f169)) (endQ Tryz.prog Tryz.f169 R) (env0 #[.slice a1 a1n a1c, .slice a2 a2n a2c, .slice a3 a3n a3c]) h = F169 B R a1 a1n a1c a2 a2n a2c a3 a3n a3c h := by kernel_rfl
theorem F169_ok {B : World} {R : Ending → Heap → Prop} (a1 : Option Addr) (a1n : Nat) (a1c : Nat) (a2 : Option Addr) (a2n : Nat) (a2c : Nat) (a3 : Option Addr) (a3n : Nat) (a3c : Nat) {h : Heap} (H : F169 B R a1 a1n a1c a2 a2n a2c a3 a3n a3c h) : Ent Tryz.prog B 169 #[.slice a1 a1n a1c, .slice a2 a2n a2c, .slice a3 a3n a3c] R h :=
  Ent_of_W mixed Tryz.func169 (by kernel_rfl) (by kernel_rfl) (by kernel_rfl) F169_L [] (by rw [F169_W]; exact H)

/-- (math/big.nat).cmp -/
def F172_j11 (B : World) (R : Ending → Heap → Prop) (y12 : Int) (h13 : Heap) : Prop :=
  R (.returned (.int .i64 y12)) h13
def F172_j14 (B : World) (R : Ending → Heap → Prop) (y15 : Int) (h16 : Heap) : Prop :=
  F172_j11 B R y15 h16
def F172_j60 (B : World) (R : Ending → Heap → Prop) (I17 : Nat → List Value → Heap → Prop) (n19 : Nat) (y61 : Int) (h62 : Heap) : Prop :=
  R (.returned (.int .i64 y61)) h62
def F172_j77 (B : World) (R : Ending → Heap → Prop) (I17 : Nat → List Value → Heap → Prop) (n19 : Nat) (y78 : Int) (h79 : Heap) : Prop :=
  F172_j60 B R I17 n19 y78 h79
def F172_j73 (B : World) (R : Ending → Heap → Prop) (I17 : Nat → List Value → Heap → Prop) (n19 : Nat) (y74 : Int) (y75 : Bool) (h76 : Heap) : Prop :=
  (y75 = true →
 F172_j77 B R I17 n19 (1 : Int) h76) ∧
(y75 = false →
 F172_j77 B R I17 n19 y74 h76)
def F172_j53 (B : World) (R : Ending → Heap → Prop) (I17 : Nat → List Value → Heap → Prop) (n19 : Nat) (y54 : Option Addr) (y54n : Nat) (y54c : Nat) (y55 : Option Addr) (y55n : Nat) (y55c : Nat) (y56 : Int) (y57 : Int) (y58 : Bool) (h59 : Heap) : Prop :=
  (y58 = true →
 F172_j60 B R I17 n19 (-1 : Int) h59) ∧
(y58 = false →
 ixW y54 y54n y57 1 fun b63 o64 =>
 isP (some ⟨b63, o64, none⟩) fun b65 o66 => ∃ x67, cell? h59 ⟨b65, o66, none⟩ = some (.int .u64 x67) ∧
 ixW y55 y55n y57 1 fun b68 o69 =>
 isP (some ⟨b68, o69, none⟩) fun b70 o71 => ∃ x72, cell? h59 ⟨b70, o71, none⟩ = some (.int .u64 x72) ∧
 F172_j73 B R I17 n19 y56 (decide (x72 < x67)) h59)
def F172_j35 (B : World) (R : Ending → Heap → Prop) (I17 : Nat → List Value → Heap → Prop) (n19 : Nat) (y36 : Option Addr) (y36n : Nat) (y36c : Nat) (y37 : Option Addr) (y37n : Nat) (y37c : Nat) (y38 : Int) (y39 : Int) (y40 : Bool) (h41 : Heap) : Prop :=
  (y40 = true →
 ∃ m42, m42 < n19 ∧ I17 m42 [.slice y36 y36n y36c, .slice y37 y37n y37c, .int .i64 y38, .int .i64 (IntKind.i64.wrap (y39 - (1 : Int)))] h41) ∧
(y40 = false →
 ixW y36 y36n y39 1 fun b43 o44 =>
 isP (some ⟨b43, o44, none⟩) fun b45 o46 => ∃ x47, cell? h41 ⟨b45, o46, none⟩ = some (.int .u64 x47) ∧
 ixW y37 y37n y39 1 fun b48 o49 =>
 isP (some ⟨b48, o49, none⟩) fun b50 o51 => ∃ x52, cell? h41 ⟨b50, o51, none⟩ = some (.int .u64 x52) ∧
 F172_j53 B R I17 n19 y36 y36n y36c y37 y37n y37c y38 y39 (decide (x47 < x52)) h41)
def F172_j3 (B : World) (R : Ending → Heap → Prop) (y4 : Option Addr) (y4n : Nat) (y4c : Nat) (y5 : Option Addr) (y5n : Nat) (y5c : Nat) (y6 : Int) (y7 : Int) (y8 : Int) (y9 : Bool) (h10 : Heap) : Prop :=
  (y9 = true →
 ((decide (y7 < y8)) = true →
 F172_j11 B R (-1 : Int) h10) ∧
((decide (y7 < y8)) = false →
 ((decide (y8 < y7)) = true →
 F172_j14 B R (1 : Int) h10) ∧
((decide (y8 < y7)) = false →
 F172_j14 B R y6 h10))) ∧
(y9 = false →
 ∃ I17 : Nat → List Value → Heap → Prop, ∃ n18, I17 n18 [.slice y4 y4n y4c, .slice y5 y5n y5c, .int .i64 y6, .int .i64 (IntKind.i64.wrap (y7 - (1 : Int)))] h10 ∧
∀ (n19 : Nat) (h24 : Heap) (z20 : Option Addr) (z20n : Nat) (z20c : Nat) (z21 : Option Addr) (z21n : Nat) (z21c : Nat) (z22 : Int) (z23 : Int), I17 n19 [.slice z20 z20n z20c, .slice z21 z21n z21c, .int .i64 z22, .int .i64 z23] h24 → ∀ _r : Nat → Value,
 ((decide ((0 : Int) < z23)) = true →
 ixW z20 z20n z23 1 fun b25 o26 =>
 isP (some ⟨b25, o26, none⟩) fun b27 o28 => ∃ x29, cell? h24 ⟨b27, o28, none⟩ = some (.int .u64 x29) ∧
 ixW z21 z21n z23 1 fun b30 o31 =>
 isP (some ⟨b30, o31, none⟩) fun b32 o33 => ∃ x34, cell? h24 ⟨b32, o33, none⟩ = some (.int .u64 x34) ∧
 F172_j35 B R I17 n19 z20 z20n z20c z21 z21n z21c z22 z23 (decide (x29 = x34)) h24) ∧
((decide ((0 : Int) < z23)) = false →
 F172_j35 B R I17 n19 z20 z20n z20c z21 z21n z21c z22 z23 false h24))
def F172 (B : World) (R : Ending → Heap → Prop) (a1 : Option Addr) (a1n : Nat) (a1c : Nat) (a2 : Option Addr) (a2n : Nat) (a2c : Nat) (h : Heap) : Prop :=
  ((!decide (((a1n : Nat) : Int) = ((a2n : Nat) : Int))) = true →
 F172_j3 B R a1 a1n a1c a2 a2n a2c (0 : Int) ((a1n : Nat) : Int) ((a2n : Nat) : Int) true h) ∧
((!decide (((a1n : Nat) : Int) = ((a2n : Nat) : Int))) = false →
 F172_j3 B R a1 a1n a1c a2 a2n a2c (0 : Int) ((a1n : Nat) : Int) ((a2n : Nat) : Int) (decide (((a1n : Nat) : Int) = (0 : Int))) h)
def F172_L : Nat → List (Nat × TypeDesc) := fun i => match i with
  | 9 => [(0, .slice 0), (1, .slice 0), (4, .int .i64), (7, .int .i64)]
  | _ => []
theorem F172_W (B : World) (R : Ending → Heap → Prop) (a1 : Option Addr) (a1n : Nat) (a1c : Nat) (a2 : Option Addr) (a2n : Nat) (a2c : Nat) (h : Heap) : W Tryz.prog B Tryz.f172.ntmps F172_L (prune [] (codeOf Tryz.f172)) (endQ Tryz.prog Tryz.f172 R) (env0 #[.slice a1 a1n a1c, .slice a2 a2n a2c]) h = F172 B R a1 a1n a1c a2 a2n a2c h := by kernel_rfl
theorem F172_ok {B : World} {R : Ending → Heap → Prop} (a1 : Option Addr) (a1n : Nat) (a1c : Nat) (a2 : Option Addr) (a2n : Nat) (a2c : Nat) {h : Heap} (H : F172 B R a1 a1n a1c a2 a2n a2c h) : Ent Tryz.prog B 172 #[.slice a1 a1n a1c, .slice a2 a2n a2c] R h :=
  Ent_of_W mixed Tryz.func172 (by kernel_rfl) (by kernel_rfl) (by kernel_rfl) F172_L [] (by rw [F172_W]; exact H)

/-- (math/big.nat).lsh -/
def F173_j42 (B : World) (R : Ending → Heap → Prop) (y43 : Option Addr) (y43n : Nat) (y43c : Nat) (y44 : Int) (y45 : Int) (h46 : Heap) : Prop :=
  slW y43n y43c (some (.int .i64 (0 : Int))) (some (.int .i64 (IntKind.i64.wrap (y45 - y44)))) none fun l47 l48 l49 =>
 clW h46 (slP y43 l47 l49 1) (l48 - l47) 1 #[.int .u64 0] fun h50 =>
 Ent Tryz.prog B 197 #[.slice y43 y43n y43c] (retE (fun v51 h52 => ∃ x55 x55n x55c, v51 = .slice x55 x55n x55c ∧
 R (.returned (.slice x55 x55n x55c)) h52)
 (fun ch53 h54 => R (.panicked ch53) h54)) h50
def F173_j19 (B : World) (R : Ending → Heap → Prop) (y20 : Option Addr) (y20n : Nat) (y20c : Nat) (y21 : Option Addr) (y21n : Nat) (y21c : Nat) (y22 : Int) (h23 : Heap) : Prop :=
  ((decide (((y21n : Nat) : Int) = (0 : Int))) = true →
 slW y20n y20c none (some (.int .i64 (0 : Int))) none fun l24 l25 l26 =>
 R (.returned (.slice (slP y20 l24 l26 1) (l25 - l24) (l26 - l24))) h23) ∧
((decide (((y21n : Nat) : Int) = (0 : Int))) = false →
 (64 : Int) ≠ 0 ∧
 Ent Tryz.prog B 194 #[.slice y20 y20n y20c, .int .i64 (IntKind.i64.wrap ((IntKind.i64.wrap (((y21n : Nat) : Int) + (IntKind.i64.wrap (IntKind.u64.wrap (Int.tdiv y22 (64 : Int)))))) + (1 : Int)))] (retE (fun v27 h28 => ∃ x31 x31n x31c, v27 = .slice x31 x31n x31c ∧
(64 : Int) ≠ 0 ∧
((decide ((Int.tmod y22 (64 : Int)) = (0 : Int))) = true →
 slW x31n x31c (some (.int .i64 (IntKind.i64.wrap ((IntKind.i64.wrap (((y21n : Nat) : Int) + (IntKind.i64.wrap (IntKind.u64.wrap (Int.tdiv y22 (64 : Int)))))) - ((y21n : Nat) : Int))))) (some (.int .i64 (IntKind.i64.wrap (((y21n : Nat) : Int) + (IntKind.i64.wrap (IntKind.u64.wrap (Int.tdiv y22 (64 : Int)))))))) none fun l32 l33 l34 =>
 cpW h28 (slP x31 l32 l34 1) (l33 - l32) y21 y21n 1 fun n36 h35 =>
 ixW x31 x31n (IntKind.i64.wrap (((y21n : Nat) : Int) + (IntKind.i64.wrap (IntKind.u64.wrap (Int.tdiv y22 (64 : Int)))))) 1 fun b37 o38 =>
 isP (some ⟨b37, o38, none⟩) fun b39 o40 => stC h35 b39 o40 (.int .u64 (0 : Int)) fun h41 =>
 F173_j42 B R x31 x31n x31c ((y21n : Nat) : Int) (IntKind.i64.wrap (((y21n : Nat) : Int) + (IntKind.i64.wrap (IntKind.u64.wrap (Int.tdiv y22 (64 : Int)))))) h41) ∧
((decide ((Int.tmod y22 (64 : Int)) = (0 : Int))) = false →
 slW x31n x31c (some (.int .i64 (IntKind.i64.wrap ((IntKind.i64.wrap (((y21n : Nat) : Int) + (IntKind.i64.wrap (IntKind.u64.wrap (Int.tdiv y22 (64 : Int)))))) - ((y21n : Nat) : Int))))) (some (.int .i64 (IntKind.i64.wrap (((y21n : Nat) : Int) + (IntKind.i64.wrap (IntKind.u64.wrap (Int.tdiv y22 (64 : Int)))))))) none fun l56 l57 l58 =>
 Ent Tryz.prog B 206 #[.slice (slP x31 l56 l58 1) (l57 - l56) (l58 - l56), .slice y21 y21n y21c, .int .u64 (Int.tmod y22 (64 : Int))] (retE (fun v59 h60 => ∃ x63, v59 = .int .u64 x63 ∧
 ixW x31 x31n (IntKind.i64.wrap (((y21n : Nat) : Int) + (IntKind.i64.wrap (IntKind.u64.wrap (Int.tdiv y22 (64 : Int)))))) 1 fun b64 o65 =>
 isP (some ⟨b64, o65, none⟩) fun b66 o67 => stC h60 b66 o67 (.int .u64 x63) fun h68 =>
 F173_j42 B R x31 x31n x31c ((y21n : Nat) : Int) (IntKind.i64.wrap (((y21n : Nat) : Int) + (IntKind.i64.wrap (IntKind.u64.wrap (Int.tdiv y22 (64 : Int)))))) h68)
 (fun ch61 h62 => R (.panicked ch61) h62)) h28))
 (fun ch29 h30 => R (.panicked ch29) h30)) h23)
def F173 (B : World) (R : Ending → Heap → Prop) (a1 : Option Addr) (a1n : Nat) (a1c : Nat) (a2 : Option Addr) (a2n : Nat) (a2c : Nat) (a3 : Int) (h : Heap) : Prop :=
  ((decide (a3 = (0 : Int))) = true →
 Ent Tryz.prog B 199 #[.slice a1 a1n a1c, .slice a2 a2n a2c] (retE (fun v4 h5 => ∃ x8, v4 = .bool x8 ∧
(x8 = true →
 R (.returned (.slice a1 a1n a1c)) h5) ∧
(x8 = false →
 Ent Tryz.prog B 200 #[.slice a1 a1n a1c, .slice a2 a2n a2c] (retE (fun v9 h10 => ∃ x13, v9 = .bool x13 ∧
((!x13) = true →
 Ent Tryz.prog B 182 #[.slice a1 a1n a1c, .slice a2 a2n a2c] (retE (fun v14 h15 => ∃ x18 x18n x18c, v14 = .slice x18 x18n x18c ∧
 R (.returned (.slice x18 x18n x18c)) h15)
 (fun ch16 h17 => R (.panicked ch16) h17)) h10) ∧
((!x13) = false →
 F173_j19 B R a1 a1n a1c a2 a2n a2c a3 h10))
 (fun ch11 h12 => R (.panicked ch11) h12)) h5))
 (fun ch6 h7 => R (.panicked ch6) h7)) h) ∧
((decide (a3 = (0 : Int))) = false →
 F173_j19 B R a1 a1n a1c a2 a2n a2c a3 h)
def F173_L : Nat → List (Nat × TypeDesc) := fun _ => []
theorem F173_W (B : World) (R : Ending → Heap → Prop) (a1 : Option Addr) (a1n : Nat) (a1c : Nat) (a2 : Option Addr) (a2n : Nat) (a2c : Nat) (a3 : Int) (h : Heap) : W Tryz.prog B Tryz.f173.ntmps F173_L (prune [] (codeOf Tryz.f173)) (endQ Tryz.prog Tryz.f173 R) (env0 #[.slice a1 a1n a1c, .slice a2 a2n a2c, .int .u64 a3]) h = F173 B R a1 a1n a1c a2 a2n a2c a3 h := by kernel_rfl
theorem F173_ok {B : World} {R : Ending → Heap → Prop} (a1 : Option Addr) (a1n : Nat) (a1c : Nat) (a2 : Option Addr) (a2n : Nat) (a2c : Nat) (a3 : Int) {h : Heap} (H : F173 B R a1 a1n a1c a2 a2n a2c a3 h) : Ent Tryz.prog B 173 #[.slice a1 a1n a1c, .slice a2 a2n a2c, .int .u64 a3] R h :=
  Ent_of_W mixed Tryz.func173 (by kernel_rfl) (by kernel_rfl) (by kernel_rfl) F173_L [] (by rw [F173_W]; exact H)

/-- math/big.same -/
def F199_j8 (B : World) (R : Ending → Heap → Prop) (y9 : Bool) (h10 : Heap) : Prop :=
  R (.returned (.bool y9)) h10
def F199 (B : World) (R : Ending → Heap → Prop) (a1 : Option Addr) (a1n : Nat) (a1c : Nat) (a2 : Option Addr) (a2n : Nat) (a2c : Nat) (h : Heap) : Prop :=
  ((decide (((a1n : Nat) : Int) = ((a2n : Nat) : Int))) = true →
 ((decide ((0 : Int) < ((a1n : Nat) : Int))) = true →
 ixW a1 a1n (0 : Int) 1 fun b3 o4 =>
 ixW a2 a2n (0 : Int) 1 fun b5 o6 =>
 pEq h (some ⟨b3, o4, none⟩) (some ⟨b5, o6, none⟩) fun q7 =>
 F199_j8 B R q7 h) ∧
((decide ((0 : Int) < ((a1n : Nat) : Int))) = false →
 F199_j8 B R false h)) ∧
((decide (((a1n : Nat) : Int) = ((a2n : Nat) : Int))) = false →
 (false = true →
 ixW a1 a1n (0 : Int) 1 fun b11 o12 =>
 ixW a2 a2n (0 : Int) 1 fun b13 o14 =>
 pEq h (some ⟨b11, o12, none⟩) (some ⟨b13, o14, none⟩) fun q15 =>
 F199_j8 B R q15 h) ∧
(false = false →
 F199_j8 B R false h))
def F199_L : Nat → List (Nat × TypeDesc) := fun _ => []
theorem F199_W (B : World) (R : Ending → Heap → Prop) (a1 : Option Addr) (a1n : Nat) (a1c : Nat) (a2 : Option Addr) (a2n : Nat) (a2c : Nat) (h : Heap) : W Tryz.prog B Tryz.f199.ntmps F199_L (prune [] (codeOf Tryz.f199)) (endQ Tryz.prog Tryz.f199 R) (env0 #[.slice a1 a1n a1c, .slice a2 a2n a2c]) h = F199 B R a1 a1n a1c a2 a2n a2c h := by kernel_rfl
theorem F199_ok {B : World} {R : Ending → Heap → Prop} (a1 : Option Addr) (a1n : Nat) (a1c : Nat) (a2 : Option Addr) (a2n : Nat) (a2c : Nat) {h : Heap} (H : F199 B R a1 a1n a1c a2 a2n a2c h) : Ent Tryz.prog B 199 #[.slice a1 a1n a1c, .slice a2 a2n a2c] R h :=
  Ent_of_W mixed Tryz.func199 (by kernel_rfl) (by kernel_rfl) (by kernel_rfl) F199_L [] (by rw [F199_W]; exact H)

/-- math/big.alias -/
def F200_j14 (B : World) (R : Ending → Heap → Prop) (y15 : Bool) (h16 : Heap) : Prop :=
  R (.returned (.bool y15)) h16
def F200 (B : World) (R : Ending → Heap → Prop) (a1 : Option Addr) (a1n : Nat) (a1c : Nat) (a2 : Option Addr) (a2n : Nat) (a2c : Nat) (h : Heap) : Prop :=
  ((decide ((0 : Int) < ((a1c : Nat) : Int))) = true →
 ((decide ((0 : Int) < ((a2c : Nat) : Int))) = true →
 slW a1n a1c (some (.int .i64 (0 : Int))) (some (.int .i64 ((a1c : Nat) : Int))) none fun l3 l4 l5 =>
 ixW (slP a1 l3 l5 1) (l4 - l3) (IntKind.i64.wrap (((a1c : Nat) : Int) - (1 : Int))) 1 fun b6 o7 =>
 slW a2n a2c (some (.int .i64 (0 : Int))) (some (.int .i64 ((a2c : Nat) : Int))) none fun l8 l9 l10 =>
 ixW (slP a2 l8 l10 1) (l9 - l8) (IntKind.i64.wrap (((a2c : Nat) : Int) - (1 : Int))) 1 fun b11 o12 =>
 pEq h (some ⟨b6, o7, none⟩) (some ⟨b11, o12, none⟩) fun q13 =>
 F200_j14 B R q13 h) ∧
((decide ((0 : Int) < ((a2c : Nat) : Int))) = false →
 F200_j14 B R false h)) ∧
((decide ((0 : Int) < ((a1c : Nat) : Int))) = false →
 (false = true →
 slW a1n a1c (some (.int .i64 (0 : Int))) (some (.int .i64 ((a1c : Nat) : Int))) none fun l17 l18 l19 =>
 ixW (slP a1 l17 l19 1) (l18 - l17) (IntKind.i64.wrap (((a1c : Nat) : Int) - (1 : Int))) 1 fun b20 o21 =>
 slW a2n a2c (some (.int .i64 (0 : Int))) (some (.int .i64 ((a2c : Nat) : Int))) none fun l22 l23 l24 =>
 ixW (slP a2 l22 l24 1) (l23 - l22) (IntKind.i64.wrap (((a2c : Nat) : Int) - (1 : Int))) 1 fun b25 o26 =>
 pEq h (some ⟨b20, o21, none⟩) (some ⟨b25, o26, none⟩) fun q27 =>
 F200_j14 B R q27 h) ∧
(false = false →
 F200_j14 B R false h))
def F200_L : Nat → List (Nat × TypeDesc) := fun _ => []
theorem F200_W (B : World) (R : Ending → Heap → Prop) (a1 : Option Addr) (a1n : Nat) (a1c : Nat) (a2 : Option Addr) (a2n : Nat) (a2c : Nat) (h : Heap) : W Tryz.prog B Tryz.f200.ntmps F200_L (prune [] (codeOf Tryz.f200)) (endQ Tryz.prog Tryz.f200 R) (env0 #[.slice a1 a1n a1c, .slice a2 a2n a2c]) h = F200 B R a1 a1n a1c a2 a2n a2c h := by kernel_rfl
theorem F200_ok {B : World} {R : Ending → Heap → Prop} (a1 : Option Addr) (a1n : Nat) (a1c : Nat) (a2 : Option Addr) (a2n : Nat) (a2c : Nat) {h : Heap} (H : F200 B R a1 a1n a1c a2 a2n a2c h) : Ent Tryz.prog B 200 #[.slice a1 a1n a1c, .slice a2 a2n a2c] R h :=
  Ent_of_W mixed Tryz.func200 (by kernel_rfl) (by kernel_rfl) (by kernel_rfl) F200_L [] (by rw [F200_W]; exact H)

/-- math/bits.TrailingZeros -/
def F193 (B : World) (R : Ending → Heap → Prop) (a1 : Int) (h : Heap) : Prop :=
  (false = true →
 Ent Tryz.prog B 214 #[.int .u32 (IntKind.u32.wrap a1)] (retE (fun v2 h3 => ∃ x6, v2 = .int .i64 x6 ∧
 R (.returned (.int .i64 x6)) h3)
 (fun ch4 h5 => R (.panicked ch4) h5)) h) ∧
(false = false →
 Ent Tryz.prog B 215 #[.int .u64 a1] (retE (fun v7 h8 => ∃ x11, v7 = .int .i64 x11 ∧
 R (.returned (.int .i64 x11)) h8)
 (fun ch9 h10 => R (.panicked ch9) h10)) h)
def F193_L : Nat → List (Nat × TypeDesc) := fun _ => []
theorem F193_W (B : World) (R : Ending → Heap → Prop) (a1 : Int) (h : Heap) : W Tryz.prog B Tryz.f193.ntmps F193_L (prune [] (codeOf Tryz.f193)) (endQ Tryz.prog Tryz.f193 R) (env0 #[.int .u64 a1]) h = F193 B R a1 h := by kernel_rfl
theorem F193_ok {B : World} {R : Ending → Heap → Prop} (a1 : Int) {h : Heap} (H : F193 B R a1 h) : Ent Tryz.prog B 193 #[.int .u64 a1] R h :=
  Ent_of_W mixed Tryz.func193 (by kernel_rfl) (by kernel_rfl) (by kernel_rfl) F193_L [] (by rw [F193_W]; exact H)

/-- math/bits.TrailingZeros64 -/
def F215 (B : World) (R : Ending → Heap → Prop) (a1 : Int) (h : Heap) : Prop :=
  ((decide (a1 = (0 : Int))) = true →
 R (.returned (.int .i64 (64 : Int))) h) ∧
((decide (a1 = (0 : Int))) = false →
 0 ≤ (58 : Int) ∧
 ixW (some ⟨6, 0, none⟩) 64 (Int.fdiv (IntKind.u64.wrap ((bitsI .and .u64 a1 (IntKind.u64.wrap (0 - a1))) * (285870213051353865 : Int))) (2 ^ min (Int.toNat (58 : Int)) IntKind.u64.bits)) 1 fun b2 o3 =>
 isP (some ⟨b2, o3, none⟩) fun b4 o5 => ∃ x6, cell? h ⟨b4, o5, none⟩ = some (.int .u8 x6) ∧
 R (.returned (.int .i64 (IntKind.i64.wrap x6))) h)
def F215_L : Nat → List (Nat × TypeDesc) := fun _ => []
theorem F215_W (B : World) (R : Ending → Heap → Prop) (a1 : Int) (h : Heap) : W Tryz.prog B Tryz.f215.ntmps F215_L (prune [] (codeOf Tryz.f215)) (endQ Tryz.prog Tryz.f215 R) (env0 #[.int .u64 a1]) h = F215 B R a1 h := by kernel_rfl
theorem F215_ok {B : World} {R : Ending → Heap → Prop} (a1 : Int) {h : Heap} (H : F215 B R a1 h) : Ent Tryz.prog B 215 #[.int .u64 a1] R h :=
  Ent_of_W mixed Tryz.func215 (by kernel_rfl) (by kernel_rfl) (by kernel_rfl) F215_L [] (by rw [F215_W]; exact H)

/-- math/bits.Len -/
def F205 (B : World) (R : Ending → Heap → Prop) (a1 : Int) (h : Heap) : Prop :=
  (false = true →
 Ent Tryz.prog B 220 #[.int .u32 (IntKind.u32.wrap a1)] (retE (fun v2 h3 => ∃ x6, v2 = .int .i64 x6 ∧
 R (.returned (.int .i64 x6)) h3)
 (fun ch4 h5 => R (.panicked ch4) h5)) h) ∧
(false = false →
 Ent Tryz.prog B 221 #[.int .u64 a1] (retE (fun v7 h8 => ∃ x11, v7 = .int .i64 x11 ∧
 R (.returned (.int .i64 x11)) h8)
 (fun ch9 h10 => R (.panicked ch9) h10)) h)
def F205_L : Nat → List (Nat × TypeDesc) := fun _ => []
theorem F205_W (B : World) (R : Ending → Heap → Prop) (a1 : Int) (h : Heap) : W Tryz.prog B Tryz.f205.ntmps F205_L (prune [] (codeOf Tryz.f205)) (endQ Tryz.prog Tryz.f205 R) (env0 #[.int .u64 a1]) h = F205 B R a1 h := by kernel_rfl
theorem F205_ok {B : World} {R : Ending → Heap → Prop} (a1 : Int) {h : Heap} (H : F205 B R a1 h) : Ent Tryz.prog B 205 #[.int .u64 a1] R h :=
  Ent_of_W mixed Tryz.func205 (by kernel_rfl) (by kernel_rfl) (by kernel_rfl) F205_L [] (by rw [F205_W]; exact H)

/-- math/bits.Len64 -/
def F221_j10 (B : World) (R : Ending → Heap → Prop) (y11 : Int) (y12 : Int) (h13 : Heap) : Prop :=
  (0 : Int) ≤ (IntKind.u8.wrap y11) ∧ ∃ b14 : UInt8, (⟨#[0, 1, 2, 2, 3, 3, 3, 3, 4, 4, 4, 4, 4, 4, 4, 4, 5, 5, 5, 5, 5, 5, 5, 5, 5, 5, 5, 5, 5, 5, 5, 5, 6, 6, 6, 6, 6, 6, 6, 6, 6, 6, 6, 6, 6, 6, 6, 6, 6, 6, 6, 6, 6, 6, 6, 6, 6, 6, 6, 6, 6, 6, 6, 6, 7, 7, 7, 7, 7, 7, 7, 7, 7, 7, 7, 7, 7, 7, 7, 7, 7, 7, 7, 7, 7, 7, 7, 7, 7, 7, 7, 7, 7, 7, 7, 7, 7, 7, 7, 7, 7, 7, 7, 7, 7, 7, 7, 7, 7, 7, 7, 7, 7, 7, 7, 7, 7, 7, 7, 7, 7, 7, 7, 7, 7, 7, 7, 7, 8, 8, 8, 8, 8, 8, 8, 8, 8, 8, 8, 8, 8, 8, 8, 8, 8, 8, 8, 8, 8, 8, 8, 8, 8, 8, 8, 8, 8, 8, 8, 8, 8, 8, 8, 8, 8, 8, 8, 8, 8, 8, 8, 8, 8, 8, 8, 8, 8, 8, 8, 8, 8, 8, 8, 8, 8, 8, 8, 8, 8, 8, 8, 8, 8, 8, 8, 8, 8, 8, 8, 8, 8, 8, 8, 8, 8, 8, 8, 8, 8, 8, 8, 8, 8, 8, 8, 8, 8, 8, 8, 8, 8, 8, 8, 8, 8, 8, 8, 8, 8, 8, 8, 8, 8, 8, 8, 8, 8, 8, 8, 8, 8, 8, 8, 8, 8, 8, 8, 8, 8, 8, 8, 8, 8, 8, 8, 8]⟩ : ByteArray)[((IntKind.u8.wrap y11)).toNat]? = some b14 ∧
 R (.returned (.int .i64 (IntKind.i64.wrap (y12 + (IntKind.i64.wrap ((b14.toNat : Nat) : Int)))))) h13
def F221_j6 (B : World) (R : Ending → Heap → Prop) (y7 : Int) (y8 : Int) (h9 : Heap) : Prop :=
  ((decide ((256 : Int) ≤ y7)) = true →
 0 ≤ (8 : Int) ∧
 F221_j10 B R (Int.fdiv y7 (2 ^ min (Int.toNat (8 : Int)) IntKind.u64.bits)) (IntKind.i64.wrap (y8 + (8 : Int))) h9) ∧
((decide ((256 : Int) ≤ y7)) = false →
 F221_j10 B R y7 y8 h9)
def F221_j2 (B : World) (R : Ending → Heap → Prop) (y3 : Int) (y4 : Int) (h5 : Heap) : Prop :=
  ((decide ((65536 : Int) ≤ y3)) = true →
 0 ≤ (16 : Int) ∧
 F221_j6 B R (Int.fdiv y3 (2 ^ min (Int.toNat (16 : Int)) IntKind.u64.bits)) (IntKind.i64.wrap (y4 + (16 : Int))) h5) ∧
((decide ((65536 : Int) ≤ y3)) = false →
 F221_j6 B R y3 y4 h5)
def F221 (B : World) (R : Ending → Heap → Prop) (a1 : Int) (h : Heap) : Prop :=
  ((decide ((4294967296 : Int) ≤ a1)) = true →
 0 ≤ (32 : Int) ∧
 F221_j2 B R (Int.fdiv a1 (2 ^ min (Int.toNat (32 : Int)) IntKind.u64.bits)) (32 : Int) h) ∧
((decide ((4294967296 : Int) ≤ a1)) = false →
 F221_j2 B R a1 (0 : Int) h)
def F221_L : Nat → List (Nat × TypeDesc) := fun _ => []
theorem F221_W (B : World) (R : Ending → Heap → Prop) (a1 : Int) (h : Heap) : W Tryz.prog B Tryz.f221.ntmps F221_L (prune [] (codeOf Tryz.f221)) (endQ Tryz.prog Tryz.f221 R) (env0 #[.int .u64 a1]) h = F221 B R a1 h := by kernel_rfl
theorem F221_ok {B : World} {R : Ending → Heap → Prop} (a1 : Int) {h : Heap} (H : F221 B R a1 h) : Ent Tryz.prog B 221 #[.int .u64 a1] R h :=
  Ent_of_W mixed Tryz.func221 (by kernel_rfl) (by kernel_rfl) (by kernel_rfl) F221_L [] (by rw [F221_W]; exact H)

/-- math/bits.Mul -/
def F240 (B : World) (R : Ending → Heap → Prop) (a1 : Int) (a2 : Int) (h : Heap) : Prop :=
  (false = true →
 Ent Tryz.prog B 259 #[.int .u32 (IntKind.u32.wrap a1), .int .u32 (IntKind.u32.wrap a2)] (retE (fun v3 h4 => ∃ x7 x8, v3 = .tuple #[.int .u32 x7, .int .u32 x8] ∧
 R (.returned (.tuple #[.int .u64 (IntKind.u64.wrap x7), .int .u64 (IntKind.u64.wrap x8)])) h4)
 (fun ch5 h6 => R (.panicked ch5) h6)) h) ∧
(false = false →
 Ent Tryz.prog B 260 #[.int .u64 a1, .int .u64 a2] (retE (fun v9 h10 => ∃ x13 x14, v9 = .tuple #[.int .u64 x13, .int .u64 x14] ∧
 R (.returned (.tuple #[.int .u64 x13, .int .u64 x14])) h10)
 (fun ch11 h12 => R (.panicked ch11) h12)) h)
def F240_L : Nat → List (Nat × TypeDesc) := fun _ => []
theorem F240_W (B : World) (R : Ending → Heap → Prop) (a1 : Int) (a2 : Int) (h : Heap) : W Tryz.prog B Tryz.f240.ntmps F240_L (prune [] (codeOf Tryz.f240)) (endQ Tryz.prog Tryz.f240 R) (env0 #[.int .u64 a1, .int .u64 a2]) h = F240 B R a1 a2 h := by kernel_rfl
theorem F240_ok {B : World} {R : Ending → Heap → Prop} (a1 : Int) (a2 : Int) {h : Heap} (H : F240 B R a1 a2 h) : Ent Tryz.prog B 240 #[.int .u64 a1, .int .u64 a2] R h :=
  Ent_of_W mixed Tryz.func240 (by kernel_rfl) (by kernel_rfl) (by kernel_rfl) F240_L [] (by rw [F240_W]; exact H)

/-- math/bits.Mul64 -/
def F260 (B : World) (R : Ending → Heap → Prop) (a1 : Int) (a2 : Int) (h : Heap) : Prop :=
  0 ≤ (32 : Int) ∧
0 ≤ (32 : Int) ∧
0 ≤ (32 : Int) ∧
0 ≤ (32 : Int) ∧
0 ≤ (32 : Int) ∧
 R (.returned (.tuple #[.int .u64 (IntKind.u64.wrap ((IntKind.u64.wrap ((IntKind.u64.wrap ((Int.fdiv a1 (2 ^ min (Int.toNat (32 : Int)) IntKind.u64.bits)) * (Int.fdiv a2 (2 ^ min (Int.toNat (32 : Int)) IntKind.u64.bits)))) + (Int.fdiv (IntKind.u64.wrap ((IntKind.u64.wrap ((Int.fdiv a1 (2 ^ min (Int.toNat (32 : Int)) IntKind.u64.bits)) * (bitsI .and .u64 a2 (4294967295 : Int)))) + (Int.fdiv (IntKind.u64.wrap ((bitsI .and .u64 a1 (4294967295 : Int)) * (bitsI .and .u64 a2 (4294967295 : Int)))) (2 ^ min (Int.toNat (32 : Int)) IntKind.u64.bits)))) (2 ^ min (Int.toNat (32 : Int)) IntKind.u64.bits)))) + (Int.fdiv (IntKind.u64.wrap ((bitsI .and .u64 (IntKind.u64.wrap ((IntKind.u64.wrap ((Int.fdiv a1 (2 ^ min (Int.toNat (32 : Int)) IntKind.u64.bits)) * (bitsI .and .u64 a2 (4294967295 : Int)))) + (Int.fdiv (IntKind.u64.wrap ((bitsI .and .u64 a1 (4294967295 : Int)) * (bitsI .and .u64 a2 (4294967295 : Int)))) (2 ^ min (Int.toNat (32 : Int)) IntKind.u64.bits)))) (4294967295 : Int)) + (IntKind.u64.wrap ((bitsI .and .u64 a1 (4294967295 : Int)) * (Int.fdiv a2 (2 ^ min (Int.toNat (32 : Int)) IntKind.u64.bits)))))) (2 ^ min (Int.toNat (32 : Int)) IntKind.u64.bits)))), .int .u64 (IntKind.u64.wrap (a1 * a2))])) h
def F260_L : Nat → List (Nat × TypeDesc) := fun _ => []
theorem F260_W (B : World) (R : Ending → Heap → Prop) (a1 : Int) (a2 : Int) (h : Heap) : W Tryz.prog B Tryz.f260.ntmps F260_L (prune [] (codeOf Tryz.f260)) (endQ Tryz.prog Tryz.f260 R) (env0 #[.int .u64 a1, .int .u64 a2]) h = F260 B R a1 a2 h := by kernel_rfl
theorem F260_ok {B : World} {R : Ending → Heap → Prop} (a1 : Int) (a2 : Int) {h : Heap} (H : F260 B R a1 a2 h) : Ent Tryz.prog B 260 #[.int .u64 a1, .int .u64 a2] R h :=
  Ent_of_W mixed Tryz.func260 (by kernel_rfl) (by kernel_rfl) (by kernel_rfl) F260_L [] (by rw [F260_W]; exact H)

/-- math/big.mulAddWWW_g -/
def F242 (B : World) (R : Ending → Heap → Prop) (a1 : Int) (a2 : Int) (a3 : Int) (h : Heap) : Prop :=
  Ent Tryz.prog B 240 #[.int .u64 a1, .int .u64 a2] (retE (fun v4 h5 => ∃ x8 x9, v4 = .tuple #[.int .u64 x8, .int .u64 x9] ∧
 Ent Tryz.prog B 204 #[.int .u64 x9, .int .u64 a3, .int .u64 (0 : Int)] (retE (fun v10 h11 => ∃ x14 x15, v10 = .tuple #[.int .u64 x14, .int .u64 x15] ∧
 R (.returned (.tuple #[.int .u64 (IntKind.u64.wrap (x8 + x15)), .int .u64 x14])) h11)
 (fun ch12 h13 => R (.panicked ch12) h13)) h5)
 (fun ch6 h7 => R (.panicked ch6) h7)) h
def F242_L : Nat → List (Nat × TypeDesc) := fun _ => []
theorem F242_W (B : World) (R : Ending → Heap → Prop) (a1 : Int) (a2 : Int) (a3 : Int) (h : Heap) : W Tryz.prog B Tryz.f242.ntmps F242_L (prune [] (codeOf Tryz.f242)) (endQ Tryz.prog Tryz.f242 R) (env0 #[.int .u64 a1, .int .u64 a2, .int .u64 a3]) h = F242 B R a1 a2 a3 h := by kernel_rfl
theorem F242_ok {B : World} {R : Ending → Heap → Prop} (a1 : Int) (a2 : Int) (a3 : Int) {h : Heap} (H : F242 B R a1 a2 a3 h) : Ent Tryz.prog B 242 #[.int .u64 a1, .int .u64 a2, .int .u64 a3] R h :=
  Ent_of_W mixed Tryz.func242 (by kernel_rfl) (by kernel_rfl) (by kernel_rfl) F242_L [] (by rw [F242_W]; exact H)

/-- (math/big.nat).mulAddWW -/
def F228_j5 (B : World) (R : Ending → Heap → Prop) (y6 : Option Addr) (y6n : Nat) (y6c : Nat) (y7 : Option Addr) (y7n : Nat) (y7c : Nat) (y8 : Int) (y9 : Int) (y10 : Int) (y11 : Bool) (h12 : Heap) : Prop :=
  (y11 = true →
 Ent Tryz.prog B 246 #[.slice y6 y6n y6c, .int .u64 y9] (retE (fun v13 h14 => ∃ x17 x17n x17c, v13 = .slice x17 x17n x17c ∧
 R (.returned (.slice x17 x17n x17c)) h14)
 (fun ch15 h16 => R (.panicked ch15) h16)) h12) ∧
(y11 = false →
 Ent Tryz.prog B 194 #[.slice y6 y6n y6c, .int .i64 (IntKind.i64.wrap (y10 + (1 : Int)))] (retE (fun v18 h19 => ∃ x22 x22n x22c, v18 = .slice x22 x22n x22c ∧
 slW x22n x22c (some (.int .i64 (0 : Int))) (some (.int .i64 y10)) none fun l23 l24 l25 =>
 Ent Tryz.prog B 247 #[.slice (slP x22 l23 l25 1) (l24 - l23) (l25 - l23), .slice y7 y7n y7c, .int .u64 y8, .int .u64 y9] (retE (fun v26 h27 => ∃ x30, v26 = .int .u64 x30 ∧
 ixW x22 x22n y10 1 fun b31 o32 =>
 isP (some ⟨b31, o32, none⟩) fun b33 o34 => stC h27 b33 o34 (.int .u64 x30) fun h35 =>
 Ent Tryz.prog B 197 #[.slice x22 x22n x22c] (retE (fun v36 h37 => ∃ x40 x40n x40c, v36 = .slice x40 x40n x40c ∧
 R (.returned (.slice x40 x40n x40c)) h37)
 (fun ch38 h39 => R (.panicked ch38) h39)) h35)
 (fun ch28 h29 => R (.panicked ch28) h29)) h19)
 (fun ch20 h21 => R (.panicked ch20) h21)) h12)
def F228 (B : World) (R : Ending → Heap → Prop) (a1 : Option Addr) (a1n : Nat) (a1c : Nat) (a2 : Option Addr) (a2n : Nat) (a2c : Nat) (a3 : Int) (a4 : Int) (h : Heap) : Prop :=
  ((decide (((a2n : Nat) : Int) = (0 : Int))) = true →
 F228_j5 B R a1 a1n a1c a2 a2n a2c a3 a4 ((a2n : Nat) : Int) true h) ∧
((decide (((a2n : Nat) : Int) = (0 : Int))) = false →
 F228_j5 B R a1 a1n a1c a2 a2n a2c a3 a4 ((a2n : Nat) : Int) (decide (a3 = (0 : Int))) h)
def F228_L : Nat → List (Nat × TypeDesc) := fun _ => []
theorem F228_W (B : World) (R : Ending → Heap → Prop) (a1 : Option Addr) (a1n : Nat) (a1c : Nat) (a2 : Option Addr) (a2n : Nat) (a2c : Nat) (a3 : Int) (a4 : Int) (h : Heap) : W Tryz.prog B Tryz.f228.ntmps F228_L (prune [] (codeOf Tryz.f228)) (endQ Tryz.prog Tryz.f228 R) (env0 #[.slice a1 a1n a1c, .slice a2 a2n a2c, .int .u64 a3, .int .u64 a4]) h = F228 B R a1 a1n a1c a2 a2n a2c a3 a4 h := by kernel_rfl
theorem F228_ok {B : World} {R : Ending → Heap → Prop} (a1 : Option Addr) (a1n : Nat) (a1c : Nat) (a2 : Option Addr) (a2n : Nat) (a2c : Nat) (a3 : Int) (a4 : Int) {h : Heap} (H : F228 B R a1 a1n a1c a2 a2n a2c a3 a4 h) : Ent Tryz.prog B 228 #[.slice a1 a1n a1c, .slice a2 a2n a2c, .int .u64 a3, .int .u64 a4] R h :=
  Ent_of_W mixed Tryz.func228 (by kernel_rfl) (by kernel_rfl) (by kernel_rfl) F228_L [] (by rw [F228_W]; exact H)

/-- math/big.low64 -/
def F171_j7 (B : World) (R : Ending → Heap → Prop) (y8 : Option Addr) (y8n : Nat) (y8c : Nat) (y9 : Int) (y10 : Bool) (h11 : Heap) : Prop :=
  (y10 = true →
 ixW y8 y8n (1 : Int) 1 fun b12 o13 =>
 isP (some ⟨b12, o13, none⟩) fun b14 o15 => ∃ x16, cell? h11 ⟨b14, o15, none⟩ = some (.int .u64 x16) ∧
0 ≤ (32 : Int) ∧
 R (.returned (.int .u64 (bitsI .or .u64 (IntKind.u64.wrap (x16 * 2 ^ min (Int.toNat (32 : Int)) IntKind.u64.bits)) y9))) h11) ∧
(y10 = false →
 R (.returned (.int .u64 y9)) h11)
def F171 (B : World) (R : Ending → Heap → Prop) (a1 : Option Addr) (a1n : Nat) (a1c : Nat) (h : Heap) : Prop :=
  ((decide (((a1n : Nat) : Int) = (0 : Int))) = true →
 R (.returned (.int .u64 (0 : Int))) h) ∧
((decide (((a1n : Nat) : Int) = (0 : Int))) = false →
 ixW a1 a1n (0 : Int) 1 fun b2 o3 =>
 isP (some ⟨b2, o3, none⟩) fun b4 o5 => ∃ x6, cell? h ⟨b4, o5, none⟩ = some (.int .u64 x6) ∧
(false = true →
 F171_j7 B R a1 a1n a1c x6 (decide ((1 : Int) < ((a1n : Nat) : Int))) h) ∧
(false = false →
 F171_j7 B R a1 a1n a1c x6 false h))
def F171_L : Nat → List (Nat × TypeDesc) := fun _ => []
theorem F171_W (B : World) (R : Ending → Heap → Prop) (a1 : Option Addr) (a1n : Nat) (a1c : Nat) (h : Heap) : W Tryz.prog B Tryz.f171.ntmps F171_L (prune [] (codeOf Tryz.f171)) (endQ Tryz.prog Tryz.f171 R) (env0 #[.slice a1 a1n a1c]) h = F171 B R a1 a1n a1c h := by kernel_rfl
theorem F171_ok {B : World} {R : Ending → Heap → Prop} (a1 : Option Addr) (a1n : Nat) (a1c : Nat) {h : Heap} (H : F171 B R a1 a1n a1c h) : Ent Tryz.prog B 171 #[.slice a1 a1n a1c] R h :=
  Ent_of_W mixed Tryz.func171 (by kernel_rfl) (by kernel_rfl) (by kernel_rfl) F171_L [] (by rw [F171_W]; exact H)

/-- (math/big.nat).mul -/
def F208_j44 (B : World) (R : Ending → Heap → Prop) (y45 : Option Addr) (y45n : Nat) (y45c : Nat) (y46 : Option Addr) (y46n : Nat) (y46c : Nat) (y47 : Option Addr) (y47n : Nat) (y47c : Nat) (y48 : Int) (y49 : Int) (h50 : Heap) : Prop :=
  Ent Tryz.prog B 194 #[.slice y45 y45n y45c, .int .i64 (IntKind.i64.wrap (y48 + y49))] (retE (fun v51 h52 => ∃ x55 x55n x55c, v51 = .slice x55 x55n x55c ∧
 isP (some ⟨4, 0, none⟩) fun b56 o57 => ∃ x58, cell? h52 ⟨b56, o57, none⟩ = some (.int .i64 x58) ∧
((decide (y49 < x58)) = true →
 Ent Tryz.prog B 223 #[.slice x55 x55n x55c, .slice y46 y46n y46c, .slice y47 y47n y47c] (retE (fun v59 h60 => v59 = .tuple #[] ∧
 Ent Tryz.prog B 197 #[.slice x55 x55n x55c] (retE (fun v63 h64 => ∃ x67 x67n x67c, v63 = .slice x67 x67n x67c ∧
 R (.returned (.slice x67 x67n x67c)) h64)
 (fun ch65 h66 => R (.panicked ch65) h66)) h60)
 (fun ch61 h62 => R (.panicked ch61) h62)) h52) ∧
((decide (y49 < x58)) = false →
 False))
 (fun ch53 h54 => R (.panicked ch53) h54)) h50
def F208_j36 (B : World) (R : Ending → Heap → Prop) (y37 : Option Addr) (y37n : Nat) (y37c : Nat) (y38 : Option Addr) (y38n : Nat) (y38c : Nat) (y39 : Option Addr) (y39n : Nat) (y39c : Nat) (y40 : Int) (y41 : Int) (y42 : Bool) (h43 : Heap) : Prop :=
  (y42 = true →
 F208_j44 B R none 0 0 y38 y38n y38c y39 y39n y39c y40 y41 h43) ∧
(y42 = false →
 F208_j44 B R y37 y37n y37c y38 y38n y38c y39 y39n y39c y40 y41 h43)
def F208_j10 (B : World) (R : Ending → Heap → Prop) (y11 : Option Addr) (y11n : Nat) (y11c : Nat) (y12 : Option Addr) (y12n : Nat) (y12c : Nat) (y13 : Option Addr) (y13n : Nat) (y13c : Nat) (y14 : Int) (y15 : Int) (y16 : Bool) (h17 : Heap) : Prop :=
  (y16 = true →
 slW y11n y11c none (some (.int .i64 (0 : Int))) none fun l18 l19 l20 =>
 R (.returned (.slice (slP y11 l18 l20 1) (l19 - l18) (l20 - l18))) h17) ∧
(y16 = false →
 ((decide (y15 = (1 : Int))) = true →
 ixW y13 y13n (0 : Int) 1 fun b21 o22 =>
 isP (some ⟨b21, o22, none⟩) fun b23 o24 => ∃ x25, cell? h17 ⟨b23, o24, none⟩ = some (.int .u64 x25) ∧
 Ent Tryz.prog B 228 #[.slice y11 y11n y11c, .slice y12 y12n y12c, .int .u64 x25, .int .u64 (0 : Int)] (retE (fun v26 h27 => ∃ x30 x30n x30c, v26 = .slice x30 x30n x30c ∧
 R (.returned (.slice x30 x30n x30c)) h27)
 (fun ch28 h29 => R (.panicked ch28) h29)) h17) ∧
((decide (y15 = (1 : Int))) = false →
 Ent Tryz.prog B 200 #[.slice y11 y11n y11c, .slice y12 y12n y12c] (retE (fun v31 h32 => ∃ x35, v31 = .bool x35 ∧
(x35 = true →
 F208_j36 B R y11 y11n y11c y12 y12n y12c y13 y13n y13c y14 y15 true h32) ∧
(x35 = false →
 Ent Tryz.prog B 200 #[.slice y11 y11n y11c, .slice y13 y13n y13c] (retE (fun v68 h69 => ∃ x72, v68 = .bool x72 ∧
 F208_j36 B R y11 y11n y11c y12 y12n y12c y13 y13n y13c y14 y15 x72 h69)
 (fun ch70 h71 => R (.panicked ch70) h71)) h32))
 (fun ch33 h34 => R (.panicked ch33) h34)) h17))
def F208 (B : World) (R : Ending → Heap → Prop) (a1 : Option Addr) (a1n : Nat) (a1c : Nat) (a2 : Option Addr) (a3 : Option Addr) (a3n : Nat) (a3c : Nat) (a4 : Option Addr) (a4n : Nat) (a4c : Nat) (h : Heap) : Prop :=
  ((decide (((a3n : Nat) : Int) < ((a4n : Nat) : Int))) = true →
 Ent Tryz.prog B 208 #[.slice a1 a1n a1c, .pointer a2, .slice a4 a4n a4c, .slice a3 a3n a3c] (retE (fun v5 h6 => ∃ x9 x9n x9c, v5 = .slice x9 x9n x9c ∧
 R (.returned (.slice x9 x9n x9c)) h6)
 (fun ch7 h8 => R (.panicked ch7) h8)) h) ∧
((decide (((a3n : Nat) : Int) < ((a4n : Nat) : Int))) = false →
 ((decide (((a3n : Nat) : Int) = (0 : Int))) = true →
 F208_j10 B R a1 a1n a1c a3 a3n a3c a4 a4n a4c ((a3n : Nat) : Int) ((a4n : Nat) : Int) true h) ∧
((decide (((a3n : Nat) : Int) = (0 : Int))) = false →
 F208_j10 B R a1 a1n a1c a3 a3n a3c a4 a4n a4c ((a3n : Nat) : Int) ((a4n : Nat) : Int) (decide (((a4n : Nat) : Int) = (0 : Int))) h))
def F208_L : Nat → List (Nat × TypeDesc) := fun _ => []
theorem F208_W (B : World) (R : Ending → Heap → Prop) (a1 : Option Addr) (a1n : Nat) (a1c : Nat) (a2 : Option Addr) (a3 : Option Addr) (a3n : Nat) (a3c : Nat) (a4 : Option Addr) (a4n : Nat) (a4c : Nat) (h : Heap) : W Tryz.prog B Tryz.f208.ntmps F208_L (prune [15, 16, 17, 18, 19, 20, 21, 22, 23, 24, 25, 26, 27, 28] (codeOf Tryz.f208)) (endQ Tryz.prog Tryz.f208 R) (env0 #[.slice a1 a1n a1c, .pointer a2, .slice a3 a3n a3c, .slice a4 a4n a4c]) h = F208 B R a1 a1n a1c a2 a3 a3n a3c a4 a4n a4c h := by kernel_rfl
theorem F208_ok {B : World} {R : Ending → Heap → Prop} (a1 : Option Addr) (a1n : Nat) (a1c : Nat) (a2 : Option Addr) (a3 : Option Addr) (a3n : Nat) (a3c : Nat) (a4 : Option Addr) (a4n : Nat) (a4c : Nat) {h : Heap} (H : F208 B R a1 a1n a1c a2 a3 a3n a3c a4 a4n a4c h) : Ent Tryz.prog B 208 #[.slice a1 a1n a1c, .pointer a2, .slice a3 a3n a3c, .slice a4 a4n a4c] R h :=
  Ent_of_W mixed Tryz.func208 (by kernel_rfl) (by kernel_rfl) (by kernel_rfl) F208_L [15, 16, 17, 18, 19, 20, 21, 22, 23, 24, 25, 26, 27, 28] (by rw [F208_W]; exact H)

/-- (*math/big.Int).Neg -/
def F74_j29 (B : World) (R : Ending → Heap → Prop) (y30 : Option Addr) (h31 : Heap) : Prop :=
  R (.returned (.pointer y30)) h31
def F74 (B : World) (R : Ending → Heap → Prop) (a1 : Option Addr) (a2 : Option Addr) (h : Heap) : Prop :=
  Ent Tryz.prog B 144 #[.pointer a1, .pointer a2] (retE (fun v3 h4 => ∃ x7, v3 = .pointer x7 ∧
 isP a1 fun b8 o9 =>
 isP (some ⟨b8, o9, none⟩) fun b10 o11 =>
 isP (some ⟨b10, o11 + 1, none⟩) fun b12 o13 => ∃ x14 x14n x14c, cell? h4 ⟨b12, o13, none⟩ = some (.slice x14 x14n x14c) ∧
((decide ((0 : Int) < ((x14n : Nat) : Int))) = true →
 isP a1 fun b15 o16 =>
 isP (some ⟨b15, o16, none⟩) fun b17 o18 =>
 isP (some ⟨b17, o18, none⟩) fun b19 o20 => ∃ x21, cell? h4 ⟨b19, o20, none⟩ = some (.bool x21) ∧
 isP a1 fun b22 o23 =>
 isP (some ⟨b22, o23, none⟩) fun b24 o25 =>
 isP (some ⟨b24, o25, none⟩) fun b26 o27 => stC h4 b26 o27 (.bool (!x21)) fun h28 =>
 F74_j29 B R a1 h28) ∧
((decide ((0 : Int) < ((x14n : Nat) : Int))) = false →
 isP a1 fun b32 o33 =>
 isP (some ⟨b32, o33, none⟩) fun b34 o35 =>
 isP (some ⟨b34, o35, none⟩) fun b36 o37 => stC h4 b36 o37 (.bool false) fun h38 =>
 F74_j29 B R a1 h38))
 (fun ch5 h6 => R (.panicked ch5) h6)) h
def F74_L : Nat → List (Nat × TypeDesc) := fun _ => []
theorem F74_W (B : World) (R : Ending → Heap → Prop) (a1 : Option Addr) (a2 : Option Addr) (h : Heap) : W Tryz.prog B Tryz.f74.ntmps F74_L (prune [] (codeOf Tryz.f74)) (endQ Tryz.prog Tryz.f74 R) (env0 #[.pointer a1, .pointer a2]) h = F74 B R a1 a2 h := by kernel_rfl
theorem F74_ok {B : World} {R : Ending → Heap → Prop} (a1 : Option Addr) (a2 : Option Addr) {h : Heap} (H : F74 B R a1 a2 h) : Ent Tryz.prog B 74 #[.pointer a1, .pointer a2] R h :=
  Ent_of_W mixed Tryz.func74 (by kernel_rfl) (by kernel_rfl) (by kernel_rfl) F74_L [] (by rw [F74_W]; exact H)

/-- (*math/big.Int).Sign -/
def F75 (B : World) (R : Ending → Heap → Prop) (a1 : Option Addr) (h : Heap) : Prop :=
  isP a1 fun b2 o3 =>
 isP (some ⟨b2, o3, none⟩) fun b4 o5 =>
 isP (some ⟨b4, o5 + 1, none⟩) fun b6 o7 => ∃ x8 x8n x8c, cell? h ⟨b6, o7, none⟩ = some (.slice x8 x8n x8c) ∧
((decide (((x8n : Nat) : Int) = (0 : Int))) = true →
 R (.returned (.int .i64 (0 : Int))) h) ∧
((decide (((x8n : Nat) : Int) = (0 : Int))) = false →
 isP a1 fun b9 o10 =>
 isP (some ⟨b9, o10, none⟩) fun b11 o12 =>
 isP (some ⟨b11, o12, none⟩) fun b13 o14 => ∃ x15, cell? h ⟨b13, o14, none⟩ = some (.bool x15) ∧
(x15 = true →
 R (.returned (.int .i64 (-1 : Int))) h) ∧
(x15 = false →
 R (.returned (.int .i64 (1 : Int))) h))
def F75_L : Nat → List (Nat × TypeDesc) := fun _ => []
theorem F75_W (B : World) (R : Ending → Heap → Prop) (a1 : Option Addr) (h : Heap) : W Tryz.prog B Tryz.f75.ntmps F75_L (prune [] (codeOf Tryz.f75)) (endQ Tryz.prog Tryz.f75 R) (env0 #[.pointer a1]) h = F75 B R a1 h := by kernel_rfl
theorem F75_ok {B : World} {R : Ending → Heap → Prop} (a1 : Option Addr) {h : Heap} (H : F75 B R a1 h) : Ent Tryz.prog B 75 #[.pointer a1] R h :=
  Ent_of_W mixed Tryz.func75 (by kernel_rfl) (by kernel_rfl) (by kernel_rfl) F75_L [] (by rw [F75_W]; exact H)

/-- math/big.NewInt -/
def F120_j6 (B : World) (R : Ending → Heap → Prop) (y7 : Int) (y8 : Option Addr) (y8n : Nat) (y8c : Nat) (h9 : Heap) : Prop :=
  alW h9 (.cells #[.bool (decide (y7 < (0 : Int))), .slice y8 y8n y8c] 131) fun r10 h11 =>
 R (.returned (.pointer (some ⟨r10, 0, none⟩))) h11
def F120_j19 (B : World) (R : Ending → Heap → Prop) (y20 : Int) (y21 : Option Addr) (y21n : Nat) (y21c : Nat) (h22 : Heap) : Prop :=
  F120_j6 B R y20 y21 y21n y21c h22
def F120_j12 (B : World) (R : Ending → Heap → Prop) (y13 : Int) (y14 : Int) (y15 : Bool) (h16 : Heap) : Prop :=
  (y15 = true →
 0 ≤ (32 : Int) ∧
 alW h16 (.cells #[.int .u64 y14, .int .u64 (Int.fdiv y14 (2 ^ min (Int.toNat (32 : Int)) IntKind.u64.bits))] 153) fun r17 h18 =>
 F120_j19 B R y13 (some ⟨r17, 0, none⟩) 2 2 h18) ∧
(y15 = false →
 alW h16 (.cells #[.int .u64 y14] 153) fun r23 h24 =>
 F120_j19 B R y13 (some ⟨r23, 0, none⟩) 1 1 h24)
def F120_j2 (B : World) (R : Ending → Heap → Prop) (y3 : Int) (y4 : Int) (h5 : Heap) : Prop :=
  ((decide (y3 = (0 : Int))) = true →
 F120_j6 B R y3 none 0 0 h5) ∧
((decide (y3 = (0 : Int))) = false →
 (false = true →
 0 ≤ (32 : Int) ∧
 F120_j12 B R y3 y4 (!decide ((Int.fdiv y4 (2 ^ min (Int.toNat (32 : Int)) IntKind.u64.bits)) = (0 : Int))) h5) ∧
(false = false →
 F120_j12 B R y3 y4 false h5))
def F120 (B : World) (R : Ending → Heap → Prop) (a1 : Int) (h : Heap) : Prop :=
  ((decide (a1 < (0 : Int))) = true →
 F120_j2 B R a1 (IntKind.u64.wrap (0 - (IntKind.u64.wrap a1))) h) ∧
((decide (a1 < (0 : Int))) = false →
 F120_j2 B R a1 (IntKind.u64.wrap a1) h)
def F120_L : Nat → List (Nat × TypeDesc) := fun _ => []
theorem F120_W (B : World) (R : Ending → Heap → Prop) (a1 : Int) (h : Heap) : W Tryz.prog B Tryz.f120.ntmps F120_L (prune [] (codeOf Tryz.f120)) (endQ Tryz.prog Tryz.f120 R) (env0 #[.int .i64 a1]) h = F120 B R a1 h := by kernel_rfl
theorem F120_ok {B : World} {R : Ending → Heap → Prop} (a1 : Int) {h : Heap} (H : F120 B R a1 h) : Ent Tryz.prog B 120 #[.int .i64 a1] R h :=
  Ent_of_W mixed Tryz.func120 (by kernel_rfl) (by kernel_rfl) (by kernel_rfl) F120_L [] (by rw [F120_W]; exact H)

/-- (*math/big.Int).TrailingZeroBits -/
def F121 (B : World) (R : Ending → Heap → Prop) (a1 : Option Addr) (h : Heap) : Prop :=
  isP a1 fun b2 o3 =>
 isP (some ⟨b2, o3, none⟩) fun b4 o5 =>
 isP (some ⟨b4, o5 + 1, none⟩) fun b6 o7 => ∃ x8 x8n x8c, cell? h ⟨b6, o7, none⟩ = some (.slice x8 x8n x8c) ∧
 Ent Tryz.prog B 163 #[.slice x8 x8n x8c] (retE (fun v9 h10 => ∃ x13, v9 = .int .u64 x13 ∧
 R (.returned (.int .u64 x13)) h10)
 (fun ch11 h12 => R (.panicked ch11) h12)) h
def F121_L : Nat → List (Nat × TypeDesc) := fun _ => []
theorem F121_W (B : World) (R : Ending → Heap → Prop) (a1 : Option Addr) (h : Heap) : W Tryz.prog B Tryz.f121.ntmps F121_L (prune [] (codeOf Tryz.f121)) (endQ Tryz.prog Tryz.f121 R) (env0 #[.pointer a1]) h = F121 B R a1 h := by kernel_rfl
theorem F121_ok {B : World} {R : Ending → Heap → Prop} (a1 : Option Addr) {h : Heap} (H : F121 B R a1 h) : Ent Tryz.prog B 121 #[.pointer a1] R h :=
  Ent_of_W mixed Tryz.func121 (by kernel_rfl) (by kernel_rfl) (by kernel_rfl) F121_L [] (by rw [F121_W]; exact H)

/-- (*math/big.Int).Rsh -/
def F122_j33 (B : World) (R : Ending → Heap → Prop) (y34 : Option Addr) (y35 : Int) (y36 : Option Addr) (y36n : Nat) (y36c : Nat) (h37 : Heap) : Prop :=
  Ent Tryz.prog B 165 #[.slice y36 y36n y36c, .slice y36 y36n y36c, .int .u64 y35] (retE (fun v38 h39 => ∃ x42 x42n x42c, v38 = .slice x42 x42n x42c ∧
 isP (some ⟨1, 0, none⟩) fun b43 o44 => ∃ x45 x45n x45c, cell? h39 ⟨b43, o44, none⟩ = some (.slice x45 x45n x45c) ∧
 Ent Tryz.prog B 166 #[.slice x42 x42n x42c, .slice x42 x42n x42c, .slice x45 x45n x45c] (retE (fun v46 h47 => ∃ x50 x50n x50c, v46 = .slice x50 x50n x50c ∧
 isP y34 fun b51 o52 =>
 isP (some ⟨b51, o52, none⟩) fun b53 o54 =>
 isP (some ⟨b53, o54 + 1, none⟩) fun b55 o56 => stC h47 b55 o56 (.slice x50 x50n x50c) fun h57 =>
 isP y34 fun b58 o59 =>
 isP (some ⟨b58, o59, none⟩) fun b60 o61 =>
 isP (some ⟨b60, o61, none⟩) fun b62 o63 => stC h57 b62 o63 (.bool true) fun h64 =>
 R (.returned (.pointer y34)) h64)
 (fun ch48 h49 => R (.panicked ch48) h49)) h39)
 (fun ch40 h41 => R (.panicked ch40) h41)) h37
def F122_j91 (B : World) (R : Ending → Heap → Prop) (y92 : Option Addr) (h93 : Heap) : Prop :=
  isP y92 fun b94 o95 =>
 isP (some ⟨b94, o95, none⟩) fun b96 o97 =>
 isP (some ⟨b96, o97, none⟩) fun b98 o99 => stC h93 b98 o99 (.bool false) fun h100 =>
 R (.returned (.pointer y92)) h100
def F122 (B : World) (R : Ending → Heap → Prop) (a1 : Option Addr) (a2 : Option Addr) (a3 : Int) (h : Heap) : Prop :=
  isP a2 fun b4 o5 =>
 isP (some ⟨b4, o5, none⟩) fun b6 o7 =>
 isP (some ⟨b6, o7, none⟩) fun b8 o9 => ∃ x10, cell? h ⟨b8, o9, none⟩ = some (.bool x10) ∧
(x10 = true →
 isP a1 fun b11 o12 =>
 isP (some ⟨b11, o12, none⟩) fun b13 o14 =>
 isP (some ⟨b13, o14 + 1, none⟩) fun b15 o16 => ∃ x17 x17n x17c, cell? h ⟨b15, o16, none⟩ = some (.slice x17 x17n x17c) ∧
 isP a2 fun b18 o19 =>
 isP (some ⟨b18, o19, none⟩) fun b20 o21 =>
 isP (some ⟨b20, o21 + 1, none⟩) fun b22 o23 => ∃ x24 x24n x24c, cell? h ⟨b22, o23, none⟩ = some (.slice x24 x24n x24c) ∧
 isP (some ⟨1, 0, none⟩) fun b25 o26 => ∃ x27 x27n x27c, cell? h ⟨b25, o26, none⟩ = some (.slice x27 x27n x27c) ∧
 Ent Tryz.prog B 164 #[.slice x17 x17n x17c, .slice x24 x24n x24c, .slice x27 x27n x27c] (retE (fun v28 h29 => ∃ x32 x32n x32c, v28 = .slice x32 x32n x32c ∧
 F122_j33 B R a1 a3 x32 x32n x32c h29)
 (fun _ _ => False)) h) ∧
(x10 = false →
 isP a1 fun b65 o66 =>
 isP (some ⟨b65, o66, none⟩) fun b67 o68 =>
 isP (some ⟨b67, o68 + 1, none⟩) fun b69 o70 => ∃ x71 x71n x71c, cell? h ⟨b69, o70, none⟩ = some (.slice x71 x71n x71c) ∧
 isP a2 fun b72 o73 =>
 isP (some ⟨b72, o73, none⟩) fun b74 o75 =>
 isP (some ⟨b74, o75 + 1, none⟩) fun b76 o77 => ∃ x78 x78n x78c, cell? h ⟨b76, o77, none⟩ = some (.slice x78 x78n x78c) ∧
 Ent Tryz.prog B 165 #[.slice x71 x71n x71c, .slice x78 x78n x78c, .int .u64 a3] (retE (fun v79 h80 => ∃ x83 x83n x83c, v79 = .slice x83 x83n x83c ∧
 isP a1 fun b84 o85 =>
 isP (some ⟨b84, o85, none⟩) fun b86 o87 =>
 isP (some ⟨b86, o87 + 1, none⟩) fun b88 o89 => stC h80 b88 o89 (.slice x83 x83n x83c) fun h90 =>
 F122_j91 B R a1 h90)
 (fun _ _ => False)) h)
def F122_L : Nat → List (Nat × TypeDesc) := fun _ => []
theorem F122_W (B : World) (R : Ending → Heap → Prop) (a1 : Option Addr) (a2 : Option Addr) (a3 : Int) (h : Heap) : W Tryz.prog B Tryz.f122.ntmps F122_L (prune [] (codeOf Tryz.f122)) (endQ Tryz.prog Tryz.f122 R) (env0 #[.pointer a1, .pointer a2, .int .u64 a3]) h = F122 B R a1 a2 a3 h := by kernel_rfl
theorem F122_ok {B : World} {R : Ending → Heap → Prop} (a1 : Option Addr) (a2 : Option Addr) (a3 : Int) {h : Heap} (H : F122 B R a1 a2 a3 h) : Ent Tryz.prog B 122 #[.pointer a1, .pointer a2, .int .u64 a3] R h :=
  Ent_of_W mixed Tryz.func122 (by kernel_rfl) (by kernel_rfl) (by kernel_rfl) F122_L [] (by rw [F122_W]; exact H)

/-- (*math/big.Int).Abs -/
def F123 (B : World) (R : Ending → Heap → Prop) (a1 : Option Addr) (a2 : Option Addr) (h : Heap) : Prop :=
  Ent Tryz.prog B 144 #[.pointer a1, .pointer a2] (retE (fun v3 h4 => ∃ x7, v3 = .pointer x7 ∧
 isP a1 fun b8 o9 =>
 isP (some ⟨b8, o9, none⟩) fun b10 o11 =>
 isP (some ⟨b10, o11, none⟩) fun b12 o13 => stC h4 b12 o13 (.bool false) fun h14 =>
 R (.returned (.pointer a1)) h14)
 (fun ch5 h6 => R (.panicked ch5) h6)) h
def F123_L : Nat → List (Nat × TypeDesc) := fun _ => []
theorem F123_W (B : World) (R : Ending → Heap → Prop) (a1 : Option Addr) (a2 : Option Addr) (h : Heap) : W Tryz.prog B Tryz.f123.ntmps F123_L (prune [] (codeOf Tryz.f123)) (endQ Tryz.prog Tryz.f123 R) (env0 #[.pointer a1, .pointer a2]) h = F123 B R a1 a2 h := by kernel_rfl
theorem F123_ok {B : World} {R : Ending → Heap → Prop} (a1 : Option Addr) (a2 : Option Addr) {h : Heap} (H : F123 B R a1 a2 h) : Ent Tryz.prog B 123 #[.pointer a1, .pointer a2] R h :=
  Ent_of_W mixed Tryz.func123 (by kernel_rfl) (by kernel_rfl) (by kernel_rfl) F123_L [] (by rw [F123_W]; exact H)

/-- (*math/big.Int).BitLen -/
def F124 (B : World) (R : Ending → Heap → Prop) (a1 : Option Addr) (h : Heap) : Prop :=
  isP a1 fun b2 o3 =>
 isP (some ⟨b2, o3, none⟩) fun b4 o5 =>
 isP (some ⟨b4, o5 + 1, none⟩) fun b6 o7 => ∃ x8 x8n x8c, cell? h ⟨b6, o7, none⟩ = some (.slice x8 x8n x8c) ∧
 Ent Tryz.prog B 167 #[.slice x8 x8n x8c] (retE (fun v9 h10 => ∃ x13, v9 = .int .i64 x13 ∧
 R (.returned (.int .i64 x13)) h10)
 (fun ch11 h12 => R (.panicked ch11) h12)) h
def F124_L : Nat → List (Nat × TypeDesc) := fun _ => []
theorem F124_W (B : World) (R : Ending → Heap → Prop) (a1 : Option Addr) (h : Heap) : W Tryz.prog B Tryz.f124.ntmps F124_L (prune [] (codeOf Tryz.f124)) (endQ Tryz.prog Tryz.f124 R) (env0 #[.pointer a1]) h = F124 B R a1 h := by kernel_rfl
theorem F124_ok {B : World} {R : Ending → Heap → Prop} (a1 : Option Addr) {h : Heap} (H : F124 B R a1 h) : Ent Tryz.prog B 124 #[.pointer a1] R h :=
  Ent_of_W mixed Tryz.func124 (by kernel_rfl) (by kernel_rfl) (by kernel_rfl) F124_L [] (by rw [F124_W]; exact H)

/-- (*math/big.Int).And -/
def F125_j105 (B : World) (R : Ending → Heap → Prop) (y106 : Option Addr) (h107 : Heap) : Prop :=
  isP y106 fun b108 o109 =>
 isP (some ⟨b108, o109, none⟩) fun b110 o111 =>
 isP (some ⟨b110, o111, none⟩) fun b112 o113 => stC h107 b112 o113 (.bool true) fun h114 =>
 R (.returned (.pointer y106)) h114
def F125_j66 (B : World) (R : Ending → Heap → Prop) (y67 : Option Addr) (y68 : Option Addr) (y68n : Nat) (y68c : Nat) (y69 : Option Addr) (y69n : Nat) (y69c : Nat) (h70 : Heap) : Prop :=
  isP y67 fun b71 o72 =>
 isP (some ⟨b71, o72, none⟩) fun b73 o74 =>
 isP (some ⟨b73, o74 + 1, none⟩) fun b75 o76 => ∃ x77 x77n x77c, cell? h70 ⟨b75, o76, none⟩ = some (.slice x77 x77n x77c) ∧
 isP y67 fun b78 o79 =>
 isP (some ⟨b78, o79, none⟩) fun b80 o81 =>
 isP (some ⟨b80, o81 + 1, none⟩) fun b82 o83 => ∃ x84 x84n x84c, cell? h70 ⟨b82, o83, none⟩ = some (.slice x84 x84n x84c) ∧
 isP (some ⟨1, 0, none⟩) fun b85 o86 => ∃ x87 x87n x87c, cell? h70 ⟨b85, o86, none⟩ = some (.slice x87 x87n x87c) ∧
 Ent Tryz.prog B 168 #[.slice x84 x84n x84c, .slice y68 y68n y68c, .slice y69 y69n y69c] (retE (fun v88 h89 => ∃ x92 x92n x92c, v88 = .slice x92 x92n x92c ∧
 sameCells h70 h89 b85 o86 1 ∧ sameCells h70 h89 b75 o76 1 ∧ Ent Tryz.prog B 166 #[.slice x77 x77n x77c, .slice x92 x92n x92c, .slice x87 x87n x87c] (retE (fun v93 h94 => ∃ x97 x97n x97c, v93 = .slice x97 x97n x97c ∧
 isP y67 fun b98 o99 =>
 isP (some ⟨b98, o99, none⟩) fun b100 o101 =>
 isP (some ⟨b100, o101 + 1, none⟩) fun b102 o103 => stC h94 b102 o103 (.slice x97 x97n x97c) fun h104 =>
 F125_j105 B R y67 h104)
 (fun _ _ => False)) h89)
 (fun _ _ => False)) h70
def F125_j46 (B : World) (R : Ending → Heap → Prop) (y47 : Option Addr) (y48 : Option Addr) (y49 : Option Addr) (y49n : Nat) (y49c : Nat) (h50 : Heap) : Prop :=
  isP y48 fun b51 o52 =>
 isP (some ⟨b51, o52, none⟩) fun b53 o54 =>
 isP (some ⟨b53, o54 + 1, none⟩) fun b55 o56 => ∃ x57 x57n x57c, cell? h50 ⟨b55, o56, none⟩ = some (.slice x57 x57n x57c) ∧
 isP (some ⟨1, 0, none⟩) fun b58 o59 => ∃ x60 x60n x60c, cell? h50 ⟨b58, o59, none⟩ = some (.slice x60 x60n x60c) ∧
 Ent Tryz.prog B 164 #[.slice none 0 0, .slice x57 x57n x57c, .slice x60 x60n x60c] (retE (fun v61 h62 => ∃ x65 x65n x65c, v61 = .slice x65 x65n x65c ∧
 F125_j66 B R y47 y49 y49n y49c x65 x65n x65c h62)
 (fun _ _ => False)) h50
def F125_j148 (B : World) (R : Ending → Heap → Prop) (y149 : Option Addr) (h150 : Heap) : Prop :=
  isP y149 fun b151 o152 =>
 isP (some ⟨b151, o152, none⟩) fun b153 o154 =>
 isP (some ⟨b153, o154, none⟩) fun b155 o156 => stC h150 b155 o156 (.bool false) fun h157 =>
 R (.returned (.pointer y149)) h157
def F125_j216 (B : World) (R : Ending → Heap → Prop) (y217 : Option Addr) (h218 : Heap) : Prop :=
  isP y217 fun b219 o220 =>
 isP (some ⟨b219, o220, none⟩) fun b221 o222 =>
 isP (some ⟨b221, o222, none⟩) fun b223 o224 => stC h218 b223 o224 (.bool false) fun h225 =>
 R (.returned (.pointer y217)) h225
def F125_j185 (B : World) (R : Ending → Heap → Prop) (y186 : Option Addr) (y187 : Option Addr) (y188 : Option Addr) (y188n : Nat) (y188c : Nat) (h189 : Heap) : Prop :=
  isP y186 fun b190 o191 =>
 isP (some ⟨b190, o191, none⟩) fun b192 o193 =>
 isP (some ⟨b192, o193 + 1, none⟩) fun b194 o195 => ∃ x196 x196n x196c, cell? h189 ⟨b194, o195, none⟩ = some (.slice x196 x196n x196c) ∧
 isP y187 fun b197 o198 =>
 isP (some ⟨b197, o198, none⟩) fun b199 o200 =>
 isP (some ⟨b199, o200 + 1, none⟩) fun b201 o202 => ∃ x203 x203n x203c, cell? h189 ⟨b201, o202, none⟩ = some (.slice x203 x203n x203c) ∧
 Ent Tryz.prog B 170 #[.slice x196 x196n x196c, .slice x203 x203n x203c, .slice y188 y188n y188c] (retE (fun v204 h205 => ∃ x208 x208n x208c, v204 = .slice x208 x208n x208c ∧
 isP y186 fun b209 o210 =>
 isP (some ⟨b209, o210, none⟩) fun b211 o212 =>
 isP (some ⟨b211, o212 + 1, none⟩) fun b213 o214 => stC h205 b213 o214 (.slice x208 x208n x208c) fun h215 =>
 F125_j216 B R y186 h215)
 (fun _ _ => False)) h189
def F125_j165 (B : World) (R : Ending → Heap → Prop) (y166 : Option Addr) (y167 : Option Addr) (y168 : Option Addr) (h169 : Heap) : Prop :=
  isP y168 fun b170 o171 =>
 isP (some ⟨b170, o171, none⟩) fun b172 o173 =>
 isP (some ⟨b172, o173 + 1, none⟩) fun b174 o175 => ∃ x176 x176n x176c, cell? h169 ⟨b174, o175, none⟩ = some (.slice x176 x176n x176c) ∧
 isP (some ⟨1, 0, none⟩) fun b177 o178 => ∃ x179 x179n x179c, cell? h169 ⟨b177, o178, none⟩ = some (.slice x179 x179n x179c) ∧
 Ent Tryz.prog B 164 #[.slice none 0 0, .slice x176 x176n x176c, .slice x179 x179n x179c] (retE (fun v180 h181 => ∃ x184 x184n x184c, v180 = .slice x184 x184n x184c ∧
 F125_j185 B R y166 y167 x184 x184n x184c h181)
 (fun _ _ => False)) h169
def F125_j18 (B : World) (R : Ending → Heap → Prop) (y19 : Option Addr) (y20 : Option Addr) (y21 : Option Addr) (y22 : Bool) (h23 : Heap) : Prop :=
  (y22 = true →
 isP y20 fun b24 o25 =>
 isP (some ⟨b24, o25, none⟩) fun b26 o27 =>
 isP (some ⟨b26, o27, none⟩) fun b28 o29 => ∃ x30, cell? h23 ⟨b28, o29, none⟩ = some (.bool x30) ∧
(x30 = true →
 isP y20 fun b31 o32 =>
 isP (some ⟨b31, o32, none⟩) fun b33 o34 =>
 isP (some ⟨b33, o34 + 1, none⟩) fun b35 o36 => ∃ x37 x37n x37c, cell? h23 ⟨b35, o36, none⟩ = some (.slice x37 x37n x37c) ∧
 isP (some ⟨1, 0, none⟩) fun b38 o39 => ∃ x40 x40n x40c, cell? h23 ⟨b38, o39, none⟩ = some (.slice x40 x40n x40c) ∧
 Ent Tryz.prog B 164 #[.slice none 0 0, .slice x37 x37n x37c, .slice x40 x40n x40c] (retE (fun v41 h42 => ∃ x45 x45n x45c, v41 = .slice x45 x45n x45c ∧
 F125_j46 B R y19 y21 x45 x45n x45c h42)
 (fun _ _ => False)) h23) ∧
(x30 = false →
 isP y19 fun b115 o116 =>
 isP (some ⟨b115, o116, none⟩) fun b117 o118 =>
 isP (some ⟨b117, o118 + 1, none⟩) fun b119 o120 => ∃ x121 x121n x121c, cell? h23 ⟨b119, o120, none⟩ = some (.slice x121 x121n x121c) ∧
 isP y20 fun b122 o123 =>
 isP (some ⟨b122, o123, none⟩) fun b124 o125 =>
 isP (some ⟨b124, o125 + 1, none⟩) fun b126 o127 => ∃ x128 x128n x128c, cell? h23 ⟨b126, o127, none⟩ = some (.slice x128 x128n x128c) ∧
 isP y21 fun b129 o130 =>
 isP (some ⟨b129, o130, none⟩) fun b131 o132 =>
 isP (some ⟨b131, o132 + 1, none⟩) fun b133 o134 => ∃ x135 x135n x135c, cell? h23 ⟨b133, o134, none⟩ = some (.slice x135 x135n x135c) ∧
 Ent Tryz.prog B 169 #[.slice x121 x121n x121c, .slice x128 x128n x128c, .slice x135 x135n x135c] (retE (fun v136 h137 => ∃ x140 x140n x140c, v136 = .slice x140 x140n x140c ∧
 isP y19 fun b141 o142 =>
 isP (some ⟨b141, o142, none⟩) fun b143 o144 =>
 isP (some ⟨b143, o144 + 1, none⟩) fun b145 o146 => stC h137 b145 o146 (.slice x140 x140n x140c) fun h147 =>
 F125_j148 B R y19 h147)
 (fun _ _ => False)) h23)) ∧
(y22 = false →
 isP y20 fun b158 o159 =>
 isP (some ⟨b158, o159, none⟩) fun b160 o161 =>
 isP (some ⟨b160, o161, none⟩) fun b162 o163 => ∃ x164, cell? h23 ⟨b162, o163, none⟩ = some (.bool x164) ∧
(x164 = true →
 F125_j165 B R y19 y21 y20 h23) ∧
(x164 = false →
 F125_j165 B R y19 y20 y21 h23))
def F125 (B : World) (R : Ending → Heap → Prop) (a1 : Option Addr) (a2 : Option Addr) (a3 : Option Addr) (h : Heap) : Prop :=
  isP a2 fun b4 o5 =>
 isP (some ⟨b4, o5, none⟩) fun b6 o7 =>
 isP (some ⟨b6, o7, none⟩) fun b8 o9 => ∃ x10, cell? h ⟨b8, o9, none⟩ = some (.bool x10) ∧
 isP a3 fun b11 o12 =>
 isP (some ⟨b11, o12, none⟩) fun b13 o14 =>
 isP (some ⟨b13, o14, none⟩) fun b15 o16 => ∃ x17, cell? h ⟨b15, o16, none⟩ = some (.bool x17) ∧
 F125_j18 B R a1 a2 a3 (x10 == x17) h
def F125_L : Nat → List (Nat × TypeDesc) := fun _ => []
theorem F125_W (B : World) (R : Ending → Heap → Prop) (a1 : Option Addr) (a2 : Option Addr) (a3 : Option Addr) (h : Heap) : W Tryz.prog B Tryz.f125.ntmps F125_L (prune [] (codeOf Tryz.f125)) (endQ Tryz.prog Tryz.f125 R) (env0 #[.pointer a1, .pointer a2, .pointer a3]) h = F125 B R a1 a2 a3 h := by kernel_rfl
theorem F125_ok {B : World} {R : Ending → Heap → Prop} (a1 : Option Addr) (a2 : Option Addr) (a3 : Option Addr) {h : Heap} (H : F125 B R a1 a2 a3 h) : Ent Tryz.prog B 125 #[.pointer a1, .pointer a2, .pointer a3] R h :=
  Ent_of_W mixed Tryz.func125 (by kernel_rfl) (by kernel_rfl) (by kernel_rfl) F125_L [] (by rw [F125_W]; exact H)

/-- (*math/big.Int).Int64 -/
def F126_j21 (B : World) (R : Ending → Heap → Prop) (y22 : Int) (h23 : Heap) : Prop :=
  R (.returned (.int .i64 y22)) h23
def F126 (B : World) (R : Ending → Heap → Prop) (a1 : Option Addr) (h : Heap) : Prop :=
  isP a1 fun b2 o3 =>
 isP (some ⟨b2, o3, none⟩) fun b4 o5 =>
 isP (some ⟨b4, o5 + 1, none⟩) fun b6 o7 => ∃ x8 x8n x8c, cell? h ⟨b6, o7, none⟩ = some (.slice x8 x8n x8c) ∧
 Ent Tryz.prog B 171 #[.slice x8 x8n x8c] (retE (fun v9 h10 => ∃ x13, v9 = .int .u64 x13 ∧
 isP a1 fun b14 o15 =>
 isP (some ⟨b14, o15, none⟩) fun b16 o17 =>
 isP (some ⟨b16, o17, none⟩) fun b18 o19 => ∃ x20, cell? h10 ⟨b18, o19, none⟩ = some (.bool x20) ∧
(x20 = true →
 F126_j21 B R (IntKind.i64.wrap (0 - (IntKind.i64.wrap x13))) h10) ∧
(x20 = false →
 F126_j21 B R (IntKind.i64.wrap x13) h10))
 (fun ch11 h12 => R (.panicked ch11) h12)) h
def F126_L : Nat → List (Nat × TypeDesc) := fun _ => []
theorem F126_W (B : World) (R : Ending → Heap → Prop) (a1 : Option Addr) (h : Heap) : W Tryz.prog B Tryz.f126.ntmps F126_L (prune [] (codeOf Tryz.f126)) (endQ Tryz.prog Tryz.f126 R) (env0 #[.pointer a1]) h = F126 B R a1 h := by kernel_rfl
theorem F126_ok {B : World} {R : Ending → Heap → Prop} (a1 : Option Addr) {h : Heap} (H : F126 B R a1 h) : Ent Tryz.prog B 126 #[.pointer a1] R h :=
  Ent_of_W mixed Tryz.func126 (by kernel_rfl) (by kernel_rfl) (by kernel_rfl) F126_L [] (by rw [F126_W]; exact H)

/-- (*math/big.Int).Add -/
def F127_j87 (B : World) (R : Ending → Heap → Prop) (y88 : Option Addr) (h89 : Heap) : Prop :=
  R (.returned (.pointer y88)) h89
def F127_j69 (B : World) (R : Ending → Heap → Prop) (y70 : Option Addr) (y71 : Bool) (h72 : Heap) : Prop :=
  isP y70 fun b73 o74 =>
 isP (some ⟨b73, o74, none⟩) fun b75 o76 =>
 isP (some ⟨b75, o76 + 1, none⟩) fun b77 o78 => ∃ x79 x79n x79c, cell? h72 ⟨b77, o78, none⟩ = some (.slice x79 x79n x79c) ∧
((decide ((0 : Int) < ((x79n : Nat) : Int))) = true →
 isP y70 fun b80 o81 =>
 isP (some ⟨b80, o81, none⟩) fun b82 o83 =>
 isP (some ⟨b82, o83, none⟩) fun b84 o85 => stC h72 b84 o85 (.bool y71) fun h86 =>
 F127_j87 B R y70 h86) ∧
((decide ((0 : Int) < ((x79n : Nat) : Int))) = false →
 isP y70 fun b90 o91 =>
 isP (some ⟨b90, o91, none⟩) fun b92 o93 =>
 isP (some ⟨b92, o93, none⟩) fun b94 o95 => stC h72 b94 o95 (.bool false) fun h96 =>
 F127_j87 B R y70 h96)
def F127_j65 (B : World) (R : Ending → Heap → Prop) (y66 : Option Addr) (y67 : Bool) (h68 : Heap) : Prop :=
  F127_j69 B R y66 y67 h68
def F127_j160 (B : World) (R : Ending → Heap → Prop) (y161 : Option Addr) (y162 : Bool) (h163 : Heap) : Prop :=
  F127_j69 B R y161 y162 h163
def F127_j156 (B : World) (R : Ending → Heap → Prop) (y157 : Option Addr) (y158 : Bool) (h159 : Heap) : Prop :=
  F127_j160 B R y157 y158 h159
def F127_j197 (B : World) (R : Ending → Heap → Prop) (y198 : Option Addr) (y199 : Bool) (h200 : Heap) : Prop :=
  F127_j160 B R y198 y199 h200
def F127_j116 (B : World) (R : Ending → Heap → Prop) (y117 : Option Addr) (y118 : Option Addr) (y119 : Option Addr) (y120 : Bool) (y121 : Bool) (h122 : Heap) : Prop :=
  (y121 = true →
 isP y117 fun b123 o124 =>
 isP (some ⟨b123, o124, none⟩) fun b125 o126 =>
 isP (some ⟨b125, o126 + 1, none⟩) fun b127 o128 => ∃ x129 x129n x129c, cell? h122 ⟨b127, o128, none⟩ = some (.slice x129 x129n x129c) ∧
 isP y118 fun b130 o131 =>
 isP (some ⟨b130, o131, none⟩) fun b132 o133 =>
 isP (some ⟨b132, o133 + 1, none⟩) fun b134 o135 => ∃ x136 x136n x136c, cell? h122 ⟨b134, o135, none⟩ = some (.slice x136 x136n x136c) ∧
 isP y119 fun b137 o138 =>
 isP (some ⟨b137, o138, none⟩) fun b139 o140 =>
 isP (some ⟨b139, o140 + 1, none⟩) fun b141 o142 => ∃ x143 x143n x143c, cell? h122 ⟨b141, o142, none⟩ = some (.slice x143 x143n x143c) ∧
 Ent Tryz.prog B 164 #[.slice x129 x129n x129c, .slice x136 x136n x136c, .slice x143 x143n x143c] (retE (fun v144 h145 => ∃ x148 x148n x148c, v144 = .slice x148 x148n x148c ∧
 isP y117 fun b149 o150 =>
 isP (some ⟨b149, o150, none⟩) fun b151 o152 =>
 isP (some ⟨b151, o152 + 1, none⟩) fun b153 o154 => stC h145 b153 o154 (.slice x148 x148n x148c) fun h155 =>
 F127_j156 B R y117 y120 h155)
 (fun _ _ => False)) h122) ∧
(y121 = false →
 isP y117 fun b164 o165 =>
 isP (some ⟨b164, o165, none⟩) fun b166 o167 =>
 isP (some ⟨b166, o167 + 1, none⟩) fun b168 o169 => ∃ x170 x170n x170c, cell? h122 ⟨b168, o169, none⟩ = some (.slice x170 x170n x170c) ∧
 isP y119 fun b171 o172 =>
 isP (some ⟨b171, o172, none⟩) fun b173 o174 =>
 isP (some ⟨b173, o174 + 1, none⟩) fun b175 o176 => ∃ x177 x177n x177c, cell? h122 ⟨b175, o176, none⟩ = some (.slice x177 x177n x177c) ∧
 isP y118 fun b178 o179 =>
 isP (some ⟨b178, o179, none⟩) fun b180 o181 =>
 isP (some ⟨b180, o181 + 1, none⟩) fun b182 o183 => ∃ x184 x184n x184c, cell? h122 ⟨b182, o183, none⟩ = some (.slice x184 x184n x184c) ∧
 Ent Tryz.prog B 164 #[.slice x170 x170n x170c, .slice x177 x177n x177c, .slice x184 x184n x184c] (retE (fun v185 h186 => ∃ x189 x189n x189c, v185 = .slice x189 x189n x189c ∧
 isP y117 fun b190 o191 =>
 isP (some ⟨b190, o191, none⟩) fun b192 o193 =>
 isP (some ⟨b192, o193 + 1, none⟩) fun b194 o195 => stC h186 b194 o195 (.slice x189 x189n x189c) fun h196 =>
 F127_j197 B R y117 (!y120) h196)
 (fun _ _ => False)) h122)
def F127_j25 (B : World) (R : Ending → Heap → Prop) (y26 : Option Addr) (y27 : Option Addr) (y28 : Option Addr) (y29 : Bool) (y30 : Bool) (h31 : Heap) : Prop :=
  (y30 = true →
 isP y26 fun b32 o33 =>
 isP (some ⟨b32, o33, none⟩) fun b34 o35 =>
 isP (some ⟨b34, o35 + 1, none⟩) fun b36 o37 => ∃ x38 x38n x38c, cell? h31 ⟨b36, o37, none⟩ = some (.slice x38 x38n x38c) ∧
 isP y27 fun b39 o40 =>
 isP (some ⟨b39, o40, none⟩) fun b41 o42 =>
 isP (some ⟨b41, o42 + 1, none⟩) fun b43 o44 => ∃ x45 x45n x45c, cell? h31 ⟨b43, o44, none⟩ = some (.slice x45 x45n x45c) ∧
 isP y28 fun b46 o47 =>
 isP (some ⟨b46, o47, none⟩) fun b48 o49 =>
 isP (some ⟨b48, o49 + 1, none⟩) fun b50 o51 => ∃ x52 x52n x52c, cell? h31 ⟨b50, o51, none⟩ = some (.slice x52 x52n x52c) ∧
 Ent Tryz.prog B 166 #[.slice x38 x38n x38c, .slice x45 x45n x45c, .slice x52 x52n x52c] (retE (fun v53 h54 => ∃ x57 x57n x57c, v53 = .slice x57 x57n x57c ∧
 isP y26 fun b58 o59 =>
 isP (some ⟨b58, o59, none⟩) fun b60 o61 =>
 isP (some ⟨b60, o61 + 1, none⟩) fun b62 o63 => stC h54 b62 o63 (.slice x57 x57n x57c) fun h64 =>
 F127_j65 B R y26 y29 h64)
 (fun _ _ => False)) h31) ∧
(y30 = false →
 isP y27 fun b97 o98 =>
 isP (some ⟨b97, o98, none⟩) fun b99 o100 =>
 isP (some ⟨b99, o100 + 1, none⟩) fun b101 o102 => ∃ x103 x103n x103c, cell? h31 ⟨b101, o102, none⟩ = some (.slice x103 x103n x103c) ∧
 isP y28 fun b104 o105 =>
 isP (some ⟨b104, o105, none⟩) fun b106 o107 =>
 isP (some ⟨b106, o107 + 1, none⟩) fun b108 o109 => ∃ x110 x110n x110c, cell? h31 ⟨b108, o109, none⟩ = some (.slice x110 x110n x110c) ∧
 Ent Tryz.prog B 172 #[.slice x103 x103n x103c, .slice x110 x110n x110c] (retE (fun v111 h112 => ∃ x115, v111 = .int .i64 x115 ∧
 F127_j116 B R y26 y27 y28 y29 (decide ((0 : Int) ≤ x115)) h112)
 (fun _ _ => False)) h31)
def F127 (B : World) (R : Ending → Heap → Prop) (a1 : Option Addr) (a2 : Option Addr) (a3 : Option Addr) (h : Heap) : Prop :=
  isP a2 fun b4 o5 =>
 isP (some ⟨b4, o5, none⟩) fun b6 o7 =>
 isP (some ⟨b6, o7, none⟩) fun b8 o9 => ∃ x10, cell? h ⟨b8, o9, none⟩ = some (.bool x10) ∧
 isP a2 fun b11 o12 =>
 isP (some ⟨b11, o12, none⟩) fun b13 o14 =>
 isP (some ⟨b13, o14, none⟩) fun b15 o16 => ∃ x17, cell? h ⟨b15, o16, none⟩ = some (.bool x17) ∧
 isP a3 fun b18 o19 =>
 isP (some ⟨b18, o19, none⟩) fun b20 o21 =>
 isP (some ⟨b20, o21, none⟩) fun b22 o23 => ∃ x24, cell? h ⟨b22, o23, none⟩ = some (.bool x24) ∧
 F127_j25 B R a1 a2 a3 x10 (x17 == x24) h
def F127_L : Nat → List (Nat × TypeDesc) := fun _ => []
theorem F127_W (B : World) (R : Ending → Heap → Prop) (a1 : Option Addr) (a2 : Option Addr) (a3 : Option Addr) (h : Heap) : W Tryz.prog B Tryz.f127.ntmps F127_L (prune [] (codeOf Tryz.f127)) (endQ Tryz.prog Tryz.f127 R) (env0 #[.pointer a1, .pointer a2, .pointer a3]) h = F127 B R a1 a2 a3 h := by kernel_rfl
theorem F127_ok {B : World} {R : Ending → Heap → Prop} (a1 : Option Addr) (a2 : Option Addr) (a3 : Option Addr) {h : Heap} (H : F127 B R a1 a2 a3 h) : Ent Tryz.prog B 127 #[.pointer a1, .pointer a2, .pointer a3] R h :=
  Ent_of_W mixed Tryz.func127 (by kernel_rfl) (by kernel_rfl) (by kernel_rfl) F127_L [] (by rw [F127_W]; exact H)

/-- (*math/big.Int).Lsh -/
def F128_j30 (B : World) (R : Ending → Heap → Prop) (y31 : Option Addr) (y32 : Option Addr) (h33 : Heap) : Prop :=
  isP y32 fun b34 o35 =>
 isP (some ⟨b34, o35, none⟩) fun b36 o37 =>
 isP (some ⟨b36, o37, none⟩) fun b38 o39 => ∃ x40, cell? h33 ⟨b38, o39, none⟩ = some (.bool x40) ∧
 isP y31 fun b41 o42 =>
 isP (some ⟨b41, o42, none⟩) fun b43 o44 =>
 isP (some ⟨b43, o44, none⟩) fun b45 o46 => stC h33 b45 o46 (.bool x40) fun h47 =>
 R (.returned (.pointer y31)) h47
def F128 (B : World) (R : Ending → Heap → Prop) (a1 : Option Addr) (a2 : Option Addr) (a3 : Int) (h : Heap) : Prop :=
  isP a1 fun b4 o5 =>
 isP (some ⟨b4, o5, none⟩) fun b6 o7 =>
 isP (some ⟨b6, o7 + 1, none⟩) fun b8 o9 => ∃ x10 x10n x10c, cell? h ⟨b8, o9, none⟩ = some (.slice x10 x10n x10c) ∧
 isP a2 fun b11 o12 =>
 isP (some ⟨b11, o12, none⟩) fun b13 o14 =>
 isP (some ⟨b13, o14 + 1, none⟩) fun b15 o16 => ∃ x17 x17n x17c, cell? h ⟨b15, o16, none⟩ = some (.slice x17 x17n x17c) ∧
 Ent Tryz.prog B 173 #[.slice x10 x10n x10c, .slice x17 x17n x17c, .int .u64 a3] (retE (fun v18 h19 => ∃ x22 x22n x22c, v18 = .slice x22 x22n x22c ∧
 isP a1 fun b23 o24 =>
 isP (some ⟨b23, o24, none⟩) fun b25 o26 =>
 isP (some ⟨b25, o26 + 1, none⟩) fun b27 o28 => stC h19 b27 o28 (.slice x22 x22n x22c) fun h29 =>
 F128_j30 B R a1 a2 h29)
 (fun _ _ => False)) h
def F128_L : Nat → List (Nat × TypeDesc) := fun _ => []
theorem F128_W (B : World) (R : Ending → Heap → Prop) (a1 : Option Addr) (a2 : Option Addr) (a3 : Int) (h : Heap) : W Tryz.prog B Tryz.f128.ntmps F128_L (prune [] (codeOf Tryz.f128)) (endQ Tryz.prog Tryz.f128 R) (env0 #[.pointer a1, .pointer a2, .int .u64 a3]) h = F128 B R a1 a2 a3 h := by kernel_rfl
theorem F128_ok {B : World} {R : Ending → Heap → Prop} (a1 : Option Addr) (a2 : Option Addr) (a3 : Int) {h : Heap} (H : F128 B R a1 a2 a3 h) : Ent Tryz.prog B 128 #[.pointer a1, .pointer a2, .int .u64 a3] R h :=
  Ent_of_W mixed Tryz.func128 (by kernel_rfl) (by kernel_rfl) (by kernel_rfl) F128_L [] (by rw [F128_W]; exact H)

/-- (*math/big.Int).Mul -/
def F131 (B : World) (R : Ending → Heap → Prop) (a1 : Option Addr) (a2 : Option Addr) (a3 : Option Addr) (h : Heap) : Prop :=
  Ent Tryz.prog B 176 #[.pointer a1, .pointer none, .pointer a2, .pointer a3] (retE (fun v4 h5 => v4 = .tuple #[] ∧
 R (.returned (.pointer a1)) h5)
 (fun ch6 h7 => R (.panicked ch6) h7)) h
def F131_L : Nat → List (Nat × TypeDesc) := fun _ => []
theorem F131_W (B : World) (R : Ending → Heap → Prop) (a1 : Option Addr) (a2 : Option Addr) (a3 : Option Addr) (h : Heap) : W Tryz.prog B Tryz.f131.ntmps F131_L (prune [] (codeOf Tryz.f131)) (endQ Tryz.prog Tryz.f131 R) (env0 #[.pointer a1, .pointer a2, .pointer a3]) h = F131 B R a1 a2 a3 h := by kernel_rfl
theorem F131_ok {B : World} {R : Ending → Heap → Prop} (a1 : Option Addr) (a2 : Option Addr) (a3 : Option Addr) {h : Heap} (H : F131 B R a1 a2 a3 h) : Ent Tryz.prog B 131 #[.pointer a1, .pointer a2, .pointer a3] R h :=
  Ent_of_W mixed Tryz.func131 (by kernel_rfl) (by kernel_rfl) (by kernel_rfl) F131_L [] (by rw [F131_W]; exact H)

/-- (*math/big.Int).Set -/
def F144_j48 (B : World) (R : Ending → Heap → Prop) (y49 : Option Addr) (h50 : Heap) : Prop :=
  R (.returned (.pointer y49)) h50
def F144_j30 (B : World) (R : Ending → Heap → Prop) (y31 : Option Addr) (y32 : Option Addr) (h33 : Heap) : Prop :=
  isP y32 fun b34 o35 =>
 isP (some ⟨b34, o35, none⟩) fun b36 o37 =>
 isP (some ⟨b36, o37, none⟩) fun b38 o39 => ∃ x40, cell? h33 ⟨b38, o39, none⟩ = some (.bool x40) ∧
 isP y31 fun b41 o42 =>
 isP (some ⟨b41, o42, none⟩) fun b43 o44 =>
 isP (some ⟨b43, o44, none⟩) fun b45 o46 => stC h33 b45 o46 (.bool x40) fun h47 =>
 F144_j48 B R y31 h47
def F144 (B : World) (R : Ending → Heap → Prop) (a1 : Option Addr) (a2 : Option Addr) (h : Heap) : Prop :=
  pEq h a1 a2 fun q3 =>
((!q3) = true →
 isP a1 fun b4 o5 =>
 isP (some ⟨b4, o5, none⟩) fun b6 o7 =>
 isP (some ⟨b6, o7 + 1, none⟩) fun b8 o9 => ∃ x10 x10n x10c, cell? h ⟨b8, o9, none⟩ = some (.slice x10 x10n x10c) ∧
 isP a2 fun b11 o12 =>
 isP (some ⟨b11, o12, none⟩) fun b13 o14 =>
 isP (some ⟨b13, o14 + 1, none⟩) fun b15 o16 => ∃ x17 x17n x17c, cell? h ⟨b15, o16, none⟩ = some (.slice x17 x17n x17c) ∧
 Ent Tryz.prog B 182 #[.slice x10 x10n x10c, .slice x17 x17n x17c] (retE (fun v18 h19 => ∃ x22 x22n x22c, v18 = .slice x22 x22n x22c ∧
 isP a1 fun b23 o24 =>
 isP (some ⟨b23, o24, none⟩) fun b25 o26 =>
 isP (some ⟨b25, o26 + 1, none⟩) fun b27 o28 => stC h19 b27 o28 (.slice x22 x22n x22c) fun h29 =>
 F144_j30 B R a1 a2 h29)
 (fun _ _ => False)) h) ∧
((!q3) = false →
 F144_j48 B R a1 h)
def F144_L : Nat → List (Nat × TypeDesc) := fun _ => []
theorem F144_W (B : World) (R : Ending → Heap → Prop) (a1 : Option Addr) (a2 : Option Addr) (h : Heap) : W Tryz.prog B Tryz.f144.ntmps F144_L (prune [] (codeOf Tryz.f144)) (endQ Tryz.prog Tryz.f144 R) (env0 #[.pointer a1, .pointer a2]) h = F144 B R a1 a2 h := by kernel_rfl
theorem F144_ok {B : World} {R : Ending → Heap → Prop} (a1 : Option Addr) (a2 : Option Addr) {h : Heap} (H : F144 B R a1 a2 h) : Ent Tryz.prog B 144 #[.pointer a1, .pointer a2] R h :=
  Ent_of_W mixed Tryz.func144 (by kernel_rfl) (by kernel_rfl) (by kernel_rfl) F144_L [] (by rw [F144_W]; exact H)

/-- (*math/big.Int).Or -/
def F175_j105 (B : World) (R : Ending → Heap → Prop) (y106 : Option Addr) (h107 : Heap) : Prop :=
  isP y106 fun b108 o109 =>
 isP (some ⟨b108, o109, none⟩) fun b110 o111 =>
 isP (some ⟨b110, o111, none⟩) fun b112 o113 => stC h107 b112 o113 (.bool true) fun h114 =>
 R (.returned (.pointer y106)) h114
def F175_j66 (B : World) (R : Ending → Heap → Prop) (y67 : Option Addr) (y68 : Option Addr) (y68n : Nat) (y68c : Nat) (y69 : Option Addr) (y69n : Nat) (y69c : Nat) (h70 : Heap) : Prop :=
  isP y67 fun b71 o72 =>
 isP (some ⟨b71, o72, none⟩) fun b73 o74 =>
 isP (some ⟨b73, o74 + 1, none⟩) fun b75 o76 => ∃ x77 x77n x77c, cell? h70 ⟨b75, o76, none⟩ = some (.slice x77 x77n x77c) ∧
 isP y67 fun b78 o79 =>
 isP (some ⟨b78, o79, none⟩) fun b80 o81 =>
 isP (some ⟨b80, o81 + 1, none⟩) fun b82 o83 => ∃ x84 x84n x84c, cell? h70 ⟨b82, o83, none⟩ = some (.slice x84 x84n x84c) ∧
 isP (some ⟨1, 0, none⟩) fun b85 o86 => ∃ x87 x87n x87c, cell? h70 ⟨b85, o86, none⟩ = some (.slice x87 x87n x87c) ∧
 Ent Tryz.prog B 169 #[.slice x84 x84n x84c, .slice y68 y68n y68c, .slice y69 y69n y69c] (retE (fun v88 h89 => ∃ x92 x92n x92c, v88 = .slice x92 x92n x92c ∧
 sameCells h70 h89 b85 o86 1 ∧ sameCells h70 h89 b75 o76 1 ∧ Ent Tryz.prog B 166 #[.slice x77 x77n x77c, .slice x92 x92n x92c, .slice x87 x87n x87c] (retE (fun v93 h94 => ∃ x97 x97n x97c, v93 = .slice x97 x97n x97c ∧
 isP y67 fun b98 o99 =>
 isP (some ⟨b98, o99, none⟩) fun b100 o101 =>
 isP (some ⟨b100, o101 + 1, none⟩) fun b102 o103 => stC h94 b102 o103 (.slice x97 x97n x97c) fun h104 =>
 F175_j105 B R y67 h104)
 (fun _ _ => False)) h89)
 (fun _ _ => False)) h70
def F175_j46 (B : World) (R : Ending → Heap → Prop) (y47 : Option Addr) (y48 : Option Addr) (y49 : Option Addr) (y49n : Nat) (y49c : Nat) (h50 : Heap) : Prop :=
  isP y48 fun b51 o52 =>
 isP (some ⟨b51, o52, none⟩) fun b53 o54 =>
 isP (some ⟨b53, o54 + 1, none⟩) fun b55 o56 => ∃ x57 x57n x57c, cell? h50 ⟨b55, o56, none⟩ = some (.slice x57 x57n x57c) ∧
 isP (some ⟨1, 0, none⟩) fun b58 o59 => ∃ x60 x60n x60c, cell? h50 ⟨b58, o59, none⟩ = some (.slice x60 x60n x60c) ∧
 Ent Tryz.prog B 164 #[.slice none 0 0, .slice x57 x57n x57c, .slice x60 x60n x60c] (retE (fun v61 h62 => ∃ x65 x65n x65c, v61 = .slice x65 x65n x65c ∧
 F175_j66 B R y47 y49 y49n y49c x65 x65n x65c h62)
 (fun _ _ => False)) h50
def F175_j148 (B : World) (R : Ending → Heap → Prop) (y149 : Option Addr) (h150 : Heap) : Prop :=
  isP y149 fun b151 o152 =>
 isP (some ⟨b151, o152, none⟩) fun b153 o154 =>
 isP (some ⟨b153, o154, none⟩) fun b155 o156 => stC h150 b155 o156 (.bool false) fun h157 =>
 R (.returned (.pointer y149)) h157
def F175_j231 (B : World) (R : Ending → Heap → Prop) (y232 : Option Addr) (h233 : Heap) : Prop :=
  isP y232 fun b234 o235 =>
 isP (some ⟨b234, o235, none⟩) fun b236 o237 =>
 isP (some ⟨b236, o237, none⟩) fun b238 o239 => stC h233 b238 o239 (.bool true) fun h240 =>
 R (.returned (.pointer y232)) h240
def F175_j185 (B : World) (R : Ending → Heap → Prop) (y186 : Option Addr) (y187 : Option Addr) (y188 : Option Addr) (y188n : Nat) (y188c : Nat) (h189 : Heap) : Prop :=
  isP y186 fun b190 o191 =>
 isP (some ⟨b190, o191, none⟩) fun b192 o193 =>
 isP (some ⟨b192, o193 + 1, none⟩) fun b194 o195 => ∃ x196 x196n x196c, cell? h189 ⟨b194, o195, none⟩ = some (.slice x196 x196n x196c) ∧
 isP y186 fun b197 o198 =>
 isP (some ⟨b197, o198, none⟩) fun b199 o200 =>
 isP (some ⟨b199, o200 + 1, none⟩) fun b201 o202 => ∃ x203 x203n x203c, cell? h189 ⟨b201, o202, none⟩ = some (.slice x203 x203n x203c) ∧
 isP y187 fun b204 o205 =>
 isP (some ⟨b204, o205, none⟩) fun b206 o207 =>
 isP (some ⟨b206, o207 + 1, none⟩) fun b208 o209 => ∃ x210 x210n x210c, cell? h189 ⟨b208, o209, none⟩ = some (.slice x210 x210n x210c) ∧
 isP (some ⟨1, 0, none⟩) fun b211 o212 => ∃ x213 x213n x213c, cell? h189 ⟨b211, o212, none⟩ = some (.slice x213 x213n x213c) ∧
 Ent Tryz.prog B 170 #[.slice x203 x203n x203c, .slice y188 y188n y188c, .slice x210 x210n x210c] (retE (fun v214 h215 => ∃ x218 x218n x218c, v214 = .slice x218 x218n x218c ∧
 sameCells h189 h215 b211 o212 1 ∧ sameCells h189 h215 b194 o195 1 ∧ Ent Tryz.prog B 166 #[.slice x196 x196n x196c, .slice x218 x218n x218c, .slice x213 x213n x213c] (retE (fun v219 h220 => ∃ x223 x223n x223c, v219 = .slice x223 x223n x223c ∧
 isP y186 fun b224 o225 =>
 isP (some ⟨b224, o225, none⟩) fun b226 o227 =>
 isP (some ⟨b226, o227 + 1, none⟩) fun b228 o229 => stC h220 b228 o229 (.slice x223 x223n x223c) fun h230 =>
 F175_j231 B R y186 h230)
 (fun _ _ => False)) h215)
 (fun _ _ => False)) h189
def F175_j165 (B : World) (R : Ending → Heap → Prop) (y166 : Option Addr) (y167 : Option Addr) (y168 : Option Addr) (h169 : Heap) : Prop :=
  isP y168 fun b170 o171 =>
 isP (some ⟨b170, o171, none⟩) fun b172 o173 =>
 isP (some ⟨b172, o173 + 1, none⟩) fun b174 o175 => ∃ x176 x176n x176c, cell? h169 ⟨b174, o175, none⟩ = some (.slice x176 x176n x176c) ∧
 isP (some ⟨1, 0, none⟩) fun b177 o178 => ∃ x179 x179n x179c, cell? h169 ⟨b177, o178, none⟩ = some (.slice x179 x179n x179c) ∧
 Ent Tryz.prog B 164 #[.slice none 0 0, .slice x176 x176n x176c, .slice x179 x179n x179c] (retE (fun v180 h181 => ∃ x184 x184n x184c, v180 = .slice x184 x184n x184c ∧
 F175_j185 B R y166 y167 x184 x184n x184c h181)
 (fun _ _ => False)) h169
def F175_j18 (B : World) (R : Ending → Heap → Prop) (y19 : Option Addr) (y20 : Option Addr) (y21 : Option Addr) (y22 : Bool) (h23 : Heap) : Prop :=
  (y22 = true →
 isP y20 fun b24 o25 =>
 isP (some ⟨b24, o25, none⟩) fun b26 o27 =>
 isP (some ⟨b26, o27, none⟩) fun b28 o29 => ∃ x30, cell? h23 ⟨b28, o29, none⟩ = some (.bool x30) ∧
(x30 = true →
 isP y20 fun b31 o32 =>
 isP (some ⟨b31, o32, none⟩) fun b33 o34 =>
 isP (some ⟨b33, o34 + 1, none⟩) fun b35 o36 => ∃ x37 x37n x37c, cell? h23 ⟨b35, o36, none⟩ = some (.slice x37 x37n x37c) ∧
 isP (some ⟨1, 0, none⟩) fun b38 o39 => ∃ x40 x40n x40c, cell? h23 ⟨b38, o39, none⟩ = some (.slice x40 x40n x40c) ∧
 Ent Tryz.prog B 164 #[.slice none 0 0, .slice x37 x37n x37c, .slice x40 x40n x40c] (retE (fun v41 h42 => ∃ x45 x45n x45c, v41 = .slice x45 x45n x45c ∧
 F175_j46 B R y19 y21 x45 x45n x45c h42)
 (fun _ _ => False)) h23) ∧
(x30 = false →
 isP y19 fun b115 o116 =>
 isP (some ⟨b115, o116, none⟩) fun b117 o118 =>
 isP (some ⟨b117, o118 + 1, none⟩) fun b119 o120 => ∃ x121 x121n x121c, cell? h23 ⟨b119, o120, none⟩ = some (.slice x121 x121n x121c) ∧
 isP y20 fun b122 o123 =>
 isP (some ⟨b122, o123, none⟩) fun b124 o125 =>
 isP (some ⟨b124, o125 + 1, none⟩) fun b126 o127 => ∃ x128 x128n x128c, cell? h23 ⟨b126, o127, none⟩ = some (.slice x128 x128n x128c) ∧
 isP y21 fun b129 o130 =>
 isP (some ⟨b129, o130, none⟩) fun b131 o132 =>
 isP (some ⟨b131, o132 + 1, none⟩) fun b133 o134 => ∃ x135 x135n x135c, cell? h23 ⟨b133, o134, none⟩ = some (.slice x135 x135n x135c) ∧
 Ent Tryz.prog B 168 #[.slice x121 x121n x121c, .slice x128 x128n x128c, .slice x135 x135n x135c] (retE (fun v136 h137 => ∃ x140 x140n x140c, v136 = .slice x140 x140n x140c ∧
 isP y19 fun b141 o142 =>
 isP (some ⟨b141, o142, none⟩) fun b143 o144 =>
 isP (some ⟨b143, o144 + 1, none⟩) fun b145 o146 => stC h137 b145 o146 (.slice x140 x140n x140c) fun h147 =>
 F175_j148 B R y19 h147)
 (fun _ _ => False)) h23)) ∧
(y22 = false →
 isP y20 fun b158 o159 =>
 isP (some ⟨b158, o159, none⟩) fun b160 o161 =>
 isP (some ⟨b160, o161, none⟩) fun b162 o163 => ∃ x164, cell? h23 ⟨b162, o163, none⟩ = some (.bool x164) ∧
(x164 = true →
 F175_j165 B R y19 y21 y20 h23) ∧
(x164 = false →
 F175_j165 B R y19 y20 y21 h23))
def F175 (B : World) (R : Ending → Heap → Prop) (a1 : Option Addr) (a2 : Option Addr) (a3 : Option Addr) (h : Heap) : Prop :=
  isP a2 fun b4 o5 =>
 isP (some ⟨b4, o5, none⟩) fun b6 o7 =>
 isP (some ⟨b6, o7, none⟩) fun b8 o9 => ∃ x10, cell? h ⟨b8, o9, none⟩ = some (.bool x10) ∧
 isP a3 fun b11 o12 =>
 isP (some ⟨b11, o12, none⟩) fun b13 o14 =>
 isP (some ⟨b13, o14, none⟩) fun b15 o16 => ∃ x17, cell? h ⟨b15, o16, none⟩ = some (.bool x17) ∧
 F175_j18 B R a1 a2 a3 (x10 == x17) h
def F175_L : Nat → List (Nat × TypeDesc) := fun _ => []
theorem F175_W (B : World) (R : Ending → Heap → Prop) (a1 : Option Addr) (a2 : Option Addr) (a3 : Option Addr) (h : Heap) : W Tryz.prog B Tryz.f175.ntmps F175_L (prune [] (codeOf Tryz.f175)) (endQ Tryz.prog Tryz.f175 R) (env0 #[.pointer a1, .pointer a2, .pointer a3]) h = F175 B R a1 a2 a3 h := by kernel_rfl
theorem F175_ok {B : World} {R : Ending → Heap → Prop} (a1 : Option Addr) (a2 : Option Addr) (a3 : Option Addr) {h : Heap} (H : F175 B R a1 a2 a3 h) : Ent Tryz.prog B 175 #[.pointer a1, .pointer a2, .pointer a3] R h :=
  Ent_of_W mixed Tryz.func175 (by kernel_rfl) (by kernel_rfl) (by kernel_rfl) F175_L [] (by rw [F175_W]; exact H)

/-- (*math/big.Int).mul -/
def F176_j32 (B : World) (R : Ending → Heap → Prop) (y33 : Option Addr) (h34 : Heap) : Prop :=
  isP y33 fun b35 o36 =>
 isP (some ⟨b35, o36, none⟩) fun b37 o38 =>
 isP (some ⟨b37, o38, none⟩) fun b39 o40 => stC h34 b39 o40 (.bool false) fun h41 =>
 R (.returned (.tuple #[])) h41
def F176_j108 (B : World) (R : Ending → Heap → Prop) (h109 : Heap) : Prop :=
  R (.returned (.tuple #[])) h109
def F176_j75 (B : World) (R : Ending → Heap → Prop) (y76 : Option Addr) (y77 : Option Addr) (y78 : Option Addr) (h79 : Heap) : Prop :=
  isP y76 fun b80 o81 =>
 isP (some ⟨b80, o81, none⟩) fun b82 o83 =>
 isP (some ⟨b82, o83 + 1, none⟩) fun b84 o85 => ∃ x86 x86n x86c, cell? h79 ⟨b84, o85, none⟩ = some (.slice x86 x86n x86c) ∧
((decide ((0 : Int) < ((x86n : Nat) : Int))) = true →
 isP y77 fun b87 o88 =>
 isP (some ⟨b87, o88, none⟩) fun b89 o90 =>
 isP (some ⟨b89, o90, none⟩) fun b91 o92 => ∃ x93, cell? h79 ⟨b91, o92, none⟩ = some (.bool x93) ∧
 isP y78 fun b94 o95 =>
 isP (some ⟨b94, o95, none⟩) fun b96 o97 =>
 isP (some ⟨b96, o97, none⟩) fun b98 o99 => ∃ x100, cell? h79 ⟨b98, o99, none⟩ = some (.bool x100) ∧
 isP y76 fun b101 o102 =>
 isP (some ⟨b101, o102, none⟩) fun b103 o104 =>
 isP (some ⟨b103, o104, none⟩) fun b105 o106 => stC h79 b105 o106 (.bool (!(x93 == x100))) fun h107 =>
 F176_j108 B R h107) ∧
((decide ((0 : Int) < ((x86n : Nat) : Int))) = false →
 isP y76 fun b110 o111 =>
 isP (some ⟨b110, o111, none⟩) fun b112 o113 =>
 isP (some ⟨b112, o113, none⟩) fun b114 o115 => stC h79 b114 o115 (.bool false) fun h116 =>
 F176_j108 B R h116)
def F176 (B : World) (R : Ending → Heap → Prop) (a1 : Option Addr) (a2 : Option Addr) (a3 : Option Addr) (a4 : Option Addr) (h : Heap) : Prop :=
  pEq h a3 a4 fun q5 =>
(q5 = true →
 isP a1 fun b6 o7 =>
 isP (some ⟨b6, o7, none⟩) fun b8 o9 =>
 isP (some ⟨b8, o9 + 1, none⟩) fun b10 o11 => ∃ x12 x12n x12c, cell? h ⟨b10, o11, none⟩ = some (.slice x12 x12n x12c) ∧
 isP a3 fun b13 o14 =>
 isP (some ⟨b13, o14, none⟩) fun b15 o16 =>
 isP (some ⟨b15, o16 + 1, none⟩) fun b17 o18 => ∃ x19 x19n x19c, cell? h ⟨b17, o18, none⟩ = some (.slice x19 x19n x19c) ∧
 Ent Tryz.prog B 207 #[.slice x12 x12n x12c, .pointer a2, .slice x19 x19n x19c] (retE (fun v20 h21 => ∃ x24 x24n x24c, v20 = .slice x24 x24n x24c ∧
 isP a1 fun b25 o26 =>
 isP (some ⟨b25, o26, none⟩) fun b27 o28 =>
 isP (some ⟨b27, o28 + 1, none⟩) fun b29 o30 => stC h21 b29 o30 (.slice x24 x24n x24c) fun h31 =>
 F176_j32 B R a1 h31)
 (fun _ _ => False)) h) ∧
(q5 = false →
 isP a1 fun b42 o43 =>
 isP (some ⟨b42, o43, none⟩) fun b44 o45 =>
 isP (some ⟨b44, o45 + 1, none⟩) fun b46 o47 => ∃ x48 x48n x48c, cell? h ⟨b46, o47, none⟩ = some (.slice x48 x48n x48c) ∧
 isP a3 fun b49 o50 =>
 isP (some ⟨b49, o50, none⟩) fun b51 o52 =>
 isP (some ⟨b51, o52 + 1, none⟩) fun b53 o54 => ∃ x55 x55n x55c, cell? h ⟨b53, o54, none⟩ = some (.slice x55 x55n x55c) ∧
 isP a4 fun b56 o57 =>
 isP (some ⟨b56, o57, none⟩) fun b58 o59 =>
 isP (some ⟨b58, o59 + 1, none⟩) fun b60 o61 => ∃ x62 x62n x62c, cell? h ⟨b60, o61, none⟩ = some (.slice x62 x62n x62c) ∧
 Ent Tryz.prog B 208 #[.slice x48 x48n x48c, .pointer a2, .slice x55 x55n x55c, .slice x62 x62n x62c] (retE (fun v63 h64 => ∃ x67 x67n x67c, v63 = .slice x67 x67n x67c ∧
 isP a1 fun b68 o69 =>
 isP (some ⟨b68, o69, none⟩) fun b70 o71 =>
 isP (some ⟨b70, o71 + 1, none⟩) fun b72 o73 => stC h64 b72 o73 (.slice x67 x67n x67c) fun h74 =>
 F176_j75 B R a1 a3 a4 h74)
 (fun _ _ => False)) h)
def F176_L : Nat → List (Nat × TypeDesc) := fun _ => []
theorem F176_W (B : World) (R : Ending → Heap → Prop) (a1 : Option Addr) (a2 : Option Addr) (a3 : Option Addr) (a4 : Option Addr) (h : Heap) : W Tryz.prog B Tryz.f176.ntmps F176_L (prune [] (codeOf Tryz.f176)) (endQ Tryz.prog Tryz.f176 R) (env0 #[.pointer a1, .pointer a2, .pointer a3, .pointer a4]) h = F176 B R a1 a2 a3 a4 h := by kernel_rfl
theorem F176_ok {B : World} {R : Ending → Heap → Prop} (a1 : Option Addr) (a2 : Option Addr) (a3 : Option Addr) (a4 : Option Addr) {h : Heap} (H : F176 B R a1 a2 a3 a4 h) : Ent Tryz.prog B 176 #[.pointer a1, .pointer a2, .pointer a3, .pointer a4] R h :=
  Ent_of_W mixed Tryz.func176 (by kernel_rfl) (by kernel_rfl) (by kernel_rfl) F176_L [] (by rw [F176_W]; exact H)
end Go.Proofs
