import Derived.Test.YtkfafikejdhccaaGreatDoorA20
/- Here stand lemmas: what the functions of expansion come to (written by program). -/
set_option linter.unusedVariables false
namespace Go.Proofs
open Go Go.Eng
/-- plumb/expansion.Valid -/
def F37_j20 (B : World) (R : Ending → Heap → Prop) (I2 : Nat → List Value → Heap → Prop) (n4 : Nat) (y21 : Option Addr) (y21n : Nat) (y21c : Nat) (y22 : Nat) (y23 : Int) (y24 : Int) (y25 : Int) (y26 : Bool) (h27 : Heap) : Prop :=
  (y26 = true →
 R (.returned (.bool false)) h27) ∧
(y26 = false →
 ixW y21 y21n y23 1 fun b28 o29 =>
 isP (some ⟨b28, o29, none⟩) fun b30 o31 => ∃ x32, cell? h27 ⟨b30, o31, none⟩ = some (.int .i64 x32) ∧
 Ent Tryz.prog B 63 #[.int .i64 x32] (retE (fun v33 h34 => ∃ x37 x38 x39 x40, v33 = .tuple #[.bool x37, .int .i64 x38, .int .i64 x39, .bool x40] ∧
 Ent Tryz.prog B 93 #[.float .f64 (FloatKind.f64.nearest (bitsI .and .i64 x38 (IntKind.i64.wrap (0 - x38)))), .int .i64 x39] (retE (fun v41 h42 => ∃ x45, v41 = .float .f64 x45 ∧
((!(FloatKind.f64.format.order y22 x45 == some .lt)) = true →
 R (.returned (.bool false)) h42) ∧
((!(FloatKind.f64.format.order y22 x45 == some .lt)) = false →
 ixW y21 y21n y23 1 fun b46 o47 =>
 isP (some ⟨b46, o47, none⟩) fun b48 o49 => ∃ x50, cell? h42 ⟨b48, o49, none⟩ = some (.int .i64 x50) ∧
 Ent Tryz.prog B 54 #[.int .i64 x50] (retE (fun v51 h52 => ∃ x55, v51 = .float .f64 x55 ∧
 Ent Tryz.prog B 94 #[.float .f64 x55] (retE (fun v56 h57 => ∃ x60, v56 = .float .f64 x60 ∧
∃ m61, m61 < n4 ∧ I2 m61 [.slice y21 y21n y21c, .float .f64 x60, .int .i64 y24, .int .i64 (IntKind.i64.wrap (y25 + (1 : Int)))] h57)
 (fun ch58 h59 => R (.panicked ch58) h59)) h52)
 (fun ch53 h54 => R (.panicked ch53) h54)) h42))
 (fun ch43 h44 => R (.panicked ch43) h44)) h34)
 (fun ch35 h36 => R (.panicked ch35) h36)) h27)
def F37 (B : World) (R : Ending → Heap → Prop) (a1 : Option Addr) (a1n : Nat) (a1c : Nat) (h : Heap) : Prop :=
  ((decide ((4096 : Int) < ((a1n : Nat) : Int))) = true →
 R (.returned (.bool false)) h) ∧
((decide ((4096 : Int) < ((a1n : Nat) : Int))) = false →
 ∃ I2 : Nat → List Value → Heap → Prop, ∃ n3, I2 n3 [.slice a1 a1n a1c, .float .f64 0, .int .i64 ((a1n : Nat) : Int), .int .i64 (0 : Int)] h ∧
∀ (n4 : Nat) (h9 : Heap) (z5 : Option Addr) (z5n : Nat) (z5c : Nat) (z6 : Nat) (z7 : Int) (z8 : Int), I2 n4 [.slice z5 z5n z5c, .float .f64 z6, .int .i64 z7, .int .i64 z8] h9 → ∀ _r : Nat → Value,
 ((decide (z8 < z7)) = true →
 ixW z5 z5n z8 1 fun b10 o11 =>
 isP (some ⟨b10, o11, none⟩) fun b12 o13 => ∃ x14, cell? h9 ⟨b12, o13, none⟩ = some (.int .i64 x14) ∧
 Ent Tryz.prog B 17 #[.int .i64 x14] (retE (fun v15 h16 => ∃ x19, v15 = .int .i64 x19 ∧
((!decide (x19 = (1 : Int))) = true →
 F37_j20 B R I2 n4 z5 z5n z5c z6 z8 z7 z8 (!decide (x19 = (2 : Int))) h16) ∧
((!decide (x19 = (1 : Int))) = false →
 F37_j20 B R I2 n4 z5 z5n z5c z6 z8 z7 z8 false h16))
 (fun ch17 h18 => R (.panicked ch17) h18)) h9) ∧
((decide (z8 < z7)) = false →
 R (.returned (.bool true)) h9))
def F37_L : Nat → List (Nat × TypeDesc) := fun i => match i with
  | 5 => [(0, .slice 0), (3, .float .f64), (14, .int .i64), (15, .int .i64)]
  | _ => []
theorem F37_W (B : World) (R : Ending → Heap → Prop) (a1 : Option Addr) (a1n : Nat) (a1c : Nat) (h : Heap) : W Tryz.prog B Tryz.f37.ntmps F37_L (prune [] (codeOf Tryz.f37)) (endQ Tryz.prog Tryz.f37 R) (env0 #[.slice a1 a1n a1c]) h = F37 B R a1 a1n a1c h := by kernel_rfl
theorem F37_ok {B : World} {R : Ending → Heap → Prop} (a1 : Option Addr) (a1n : Nat) (a1c : Nat) {h : Heap} (H : F37 B R a1 a1n a1c h) : Ent Tryz.prog B 37 #[.slice a1 a1n a1c] R h :=
  Ent_of_W mixed Tryz.func37 (by kernel_rfl) (by kernel_rfl) (by kernel_rfl) F37_L [] (by rw [F37_W]; exact H)

/-- plumb/expansion.valid -/
def F87 (B : World) (R : Ending → Heap → Prop) (a1 : Option Addr) (a1n : Nat) (a1c : Nat) (h : Heap) : Prop :=
  ∃ I2 : Nat → List Value → Heap → Prop, ∃ n3, I2 n3 [.slice a1 a1n a1c, .int .i64 ((a1n : Nat) : Int), .int .i64 (0 : Int)] h ∧
∀ (n4 : Nat) (h8 : Heap) (z5 : Option Addr) (z5n : Nat) (z5c : Nat) (z6 : Int) (z7 : Int), I2 n4 [.slice z5 z5n z5c, .int .i64 z6, .int .i64 z7] h8 → ∀ _r : Nat → Value,
 ((decide (z7 < z6)) = true →
 ixW z5 z5n z7 1 fun b9 o10 =>
 isP (some ⟨b9, o10, none⟩) fun b11 o12 => ∃ x13 x13n x13c, cell? h8 ⟨b11, o12, none⟩ = some (.slice x13 x13n x13c) ∧
 Ent Tryz.prog B 37 #[.slice x13 x13n x13c] (retE (fun v14 h15 => ∃ x18, v14 = .bool x18 ∧
((!x18) = true →
 R (.returned (.int .i64 (1 : Int))) h15) ∧
((!x18) = false →
 ∃ m19, m19 < n4 ∧ I2 m19 [.slice z5 z5n z5c, .int .i64 z6, .int .i64 (IntKind.i64.wrap (z7 + (1 : Int)))] h15))
 (fun ch16 h17 => R (.panicked ch16) h17)) h8) ∧
((decide (z7 < z6)) = false →
 R (.returned (.int .i64 (0 : Int))) h8)
def F87_L : Nat → List (Nat × TypeDesc) := fun i => match i with
  | 2 => [(5, .slice 0), (6, .int .i64), (7, .int .i64)]
  | _ => []
theorem F87_W (B : World) (R : Ending → Heap → Prop) (a1 : Option Addr) (a1n : Nat) (a1c : Nat) (h : Heap) : W Tryz.prog B Tryz.f87.ntmps F87_L (prune [] (codeOf Tryz.f87)) (endQ Tryz.prog Tryz.f87 R) (env0 #[.slice a1 a1n a1c]) h = F87 B R a1 a1n a1c h := by kernel_rfl
theorem F87_ok {B : World} {R : Ending → Heap → Prop} (a1 : Option Addr) (a1n : Nat) (a1c : Nat) {h : Heap} (H : F87 B R a1 a1n a1c h) : Ent Tryz.prog B 87 #[.slice a1 a1n a1c] R h :=
  Ent_of_W mixed Tryz.func87 (by kernel_rfl) (by kernel_rfl) (by kernel_rfl) F87_L [] (by rw [F87_W]; exact H)

/-- plumb/expansion.finite -/
def F88 (B : World) (R : Ending → Heap → Prop) (a1 : Int) (h : Heap) : Prop :=
  Ent Tryz.prog B 17 #[.int .i64 a1] (retE (fun v2 h3 => ∃ x6, v2 = .int .i64 x6 ∧
 R (.returned (.bool (decide (x6 < (3 : Int))))) h3)
 (fun ch4 h5 => R (.panicked ch4) h5)) h
def F88_L : Nat → List (Nat × TypeDesc) := fun _ => []
theorem F88_W (B : World) (R : Ending → Heap → Prop) (a1 : Int) (h : Heap) : W Tryz.prog B Tryz.f88.ntmps F88_L (prune [] (codeOf Tryz.f88)) (endQ Tryz.prog Tryz.f88 R) (env0 #[.int .i64 a1]) h = F88 B R a1 h := by kernel_rfl
theorem F88_ok {B : World} {R : Ending → Heap → Prop} (a1 : Int) {h : Heap} (H : F88 B R a1 h) : Ent Tryz.prog B 88 #[.int .i64 a1] R h :=
  Ent_of_W mixed Tryz.func88 (by kernel_rfl) (by kernel_rfl) (by kernel_rfl) F88_L [] (by rw [F88_W]; exact H)

/-- plumb/expansion.told -/
def F89 (B : World) (R : Ending → Heap → Prop) (a1 : Option Addr) (a1n : Nat) (a1c : Nat) (h : Heap) : Prop :=
  ((decide ((4096 : Int) < ((a1n : Nat) : Int))) = true →
 R (.returned (.tuple #[.slice none 0 0, .int .i64 (2 : Int)])) h) ∧
((decide ((4096 : Int) < ((a1n : Nat) : Int))) = false →
 R (.returned (.tuple #[.slice a1 a1n a1c, .int .i64 (0 : Int)])) h)
def F89_L : Nat → List (Nat × TypeDesc) := fun _ => []
theorem F89_W (B : World) (R : Ending → Heap → Prop) (a1 : Option Addr) (a1n : Nat) (a1c : Nat) (h : Heap) : W Tryz.prog B Tryz.f89.ntmps F89_L (prune [] (codeOf Tryz.f89)) (endQ Tryz.prog Tryz.f89 R) (env0 #[.slice a1 a1n a1c]) h = F89 B R a1 a1n a1c h := by kernel_rfl
theorem F89_ok {B : World} {R : Ending → Heap → Prop} (a1 : Option Addr) (a1n : Nat) (a1c : Nat) {h : Heap} (H : F89 B R a1 a1n a1c h) : Ent Tryz.prog B 89 #[.slice a1 a1n a1c] R h :=
  Ent_of_W mixed Tryz.func89 (by kernel_rfl) (by kernel_rfl) (by kernel_rfl) F89_L [] (by rw [F89_W]; exact H)

/-- plumb/expansion.step -/
def F107 (B : World) (R : Ending → Heap → Prop) (a1 : Int) (a2 : Int) (a3 : Bool) (h : Heap) : Prop :=
  ((!a3) = true →
 R (.panicked [{ v := .iface 147 (.agg #[]), recovered := false }]) h) ∧
((!a3) = false →
 R (.returned (.tuple #[.int .i64 a1, .int .i64 a2])) h)
def F107_L : Nat → List (Nat × TypeDesc) := fun _ => []
theorem F107_W (B : World) (R : Ending → Heap → Prop) (a1 : Int) (a2 : Int) (a3 : Bool) (h : Heap) : W Tryz.prog B Tryz.f107.ntmps F107_L (prune [] (codeOf Tryz.f107)) (endQ Tryz.prog Tryz.f107 R) (env0 #[.int .i64 a1, .int .i64 a2, .bool a3]) h = F107 B R a1 a2 a3 h := by kernel_rfl
theorem F107_ok {B : World} {R : Ending → Heap → Prop} (a1 : Int) (a2 : Int) (a3 : Bool) {h : Heap} (H : F107 B R a1 a2 a3 h) : Ent Tryz.prog B 107 #[.int .i64 a1, .int .i64 a2, .bool a3] R h :=
  Ent_of_W mixed Tryz.func107 (by kernel_rfl) (by kernel_rfl) (by kernel_rfl) F107_L [] (by rw [F107_W]; exact H)

/-- plumb/expansion.add -/
def F108 (B : World) (R : Ending → Heap → Prop) (a1 : Option Addr) (a1n : Nat) (a1c : Nat) (a2 : Int) (h : Heap) : Prop :=
  Ent Tryz.prog B 17 #[.int .i64 a2] (retE (fun v3 h4 => ∃ x7, v3 = .int .i64 x7 ∧
((decide (x7 = (0 : Int))) = true →
 R (.returned (.slice a1 a1n a1c)) h4) ∧
((decide (x7 = (0 : Int))) = false →
 alW h4 (.cells #[.int .i64 a2] 3) fun r8 h9 =>
 apW h9 a1 a1n a1c (some ⟨r8, 0, none⟩) 1 1 8 3 #[.int .i64 0] fun q11 n12 c13 h10 =>
 R (.returned (.slice q11 n12 c13)) h10))
 (fun ch5 h6 => R (.panicked ch5) h6)) h
def F108_L : Nat → List (Nat × TypeDesc) := fun _ => []
theorem F108_W (B : World) (R : Ending → Heap → Prop) (a1 : Option Addr) (a1n : Nat) (a1c : Nat) (a2 : Int) (h : Heap) : W Tryz.prog B Tryz.f108.ntmps F108_L (prune [] (codeOf Tryz.f108)) (endQ Tryz.prog Tryz.f108 R) (env0 #[.slice a1 a1n a1c, .int .i64 a2]) h = F108 B R a1 a1n a1c a2 h := by kernel_rfl
theorem F108_ok {B : World} {R : Ending → Heap → Prop} (a1 : Option Addr) (a1n : Nat) (a1c : Nat) (a2 : Int) {h : Heap} (H : F108 B R a1 a1n a1c a2 h) : Ent Tryz.prog B 108 #[.slice a1 a1n a1c, .int .i64 a2] R h :=
  Ent_of_W mixed Tryz.func108 (by kernel_rfl) (by kernel_rfl) (by kernel_rfl) F108_L [] (by rw [F108_W]; exact H)

/-- plumb/expansion.grow -/
def F90 (B : World) (R : Ending → Heap → Prop) (a1 : Option Addr) (a1n : Nat) (a1c : Nat) (a2 : Int) (h : Heap) : Prop :=
  0 ≤ (0 : Int) ∧ (0 : Int) ≤ (IntKind.i64.wrap (((a1n : Nat) : Int) + (1 : Int))) ∧ 8 * (IntKind.i64.wrap (((a1n : Nat) : Int) + (1 : Int))) ≤ 281474976710656 ∧ (IntKind.i64.wrap (((a1n : Nat) : Int) + (1 : Int))) < 9223372036854775808 ∧
 alW h (.cells (mkCells #[.int .i64 0] (Int.toNat (IntKind.i64.wrap (((a1n : Nat) : Int) + (1 : Int))) * 1)) 3) fun r3 h4 =>
∃ I5 : Nat → List Value → Heap → Prop, ∃ n6, I5 n6 [.slice (some ⟨r3, 0, none⟩) (Int.toNat (0 : Int)) (Int.toNat (IntKind.i64.wrap (((a1n : Nat) : Int) + (1 : Int)))), .int .i64 a2, .slice a1 a1n a1c, .int .i64 ((a1n : Nat) : Int), .int .i64 (0 : Int)] h4 ∧
∀ (n7 : Nat) (h13 : Heap) (z8 : Option Addr) (z8n : Nat) (z8c : Nat) (z9 : Int) (z10 : Option Addr) (z10n : Nat) (z10c : Nat) (z11 : Int) (z12 : Int), I5 n7 [.slice z8 z8n z8c, .int .i64 z9, .slice z10 z10n z10c, .int .i64 z11, .int .i64 z12] h13 → ∀ _r : Nat → Value,
 ((decide (z12 < z11)) = true →
 ixW z10 z10n z12 1 fun b14 o15 =>
 isP (some ⟨b14, o15, none⟩) fun b16 o17 => ∃ x18, cell? h13 ⟨b16, o17, none⟩ = some (.int .i64 x18) ∧
 Ent Tryz.prog B 18 #[.int .i64 z9, .int .i64 x18] (retE (fun v19 h20 => ∃ x23 x24 x25, v19 = .tuple #[.int .i64 x23, .int .i64 x24, .bool x25] ∧
 Ent Tryz.prog B 107 #[.int .i64 x23, .int .i64 x24, .bool x25] (retE (fun v26 h27 => ∃ x30 x31, v26 = .tuple #[.int .i64 x30, .int .i64 x31] ∧
 Ent Tryz.prog B 108 #[.slice z8 z8n z8c, .int .i64 x31] (retE (fun v32 h33 => ∃ x36 x36n x36c, v32 = .slice x36 x36n x36c ∧
∃ m37, m37 < n7 ∧ I5 m37 [.slice x36 x36n x36c, .int .i64 x30, .slice z10 z10n z10c, .int .i64 z11, .int .i64 (IntKind.i64.wrap (z12 + (1 : Int)))] h33)
 (fun ch34 h35 => R (.panicked ch34) h35)) h27)
 (fun ch28 h29 => R (.panicked ch28) h29)) h20)
 (fun ch21 h22 => R (.panicked ch21) h22)) h13) ∧
((decide (z12 < z11)) = false →
 Ent Tryz.prog B 108 #[.slice z8 z8n z8c, .int .i64 z9] (retE (fun v38 h39 => ∃ x42 x42n x42c, v38 = .slice x42 x42n x42c ∧
 R (.returned (.slice x42 x42n x42c)) h39)
 (fun ch40 h41 => R (.panicked ch40) h41)) h13)
def F90_L : Nat → List (Nat × TypeDesc) := fun i => match i with
  | 4 => [(5, .slice 0), (6, .int .i64), (15, .slice 0), (16, .int .i64), (17, .int .i64)]
  | _ => []
theorem F90_W (B : World) (R : Ending → Heap → Prop) (a1 : Option Addr) (a1n : Nat) (a1c : Nat) (a2 : Int) (h : Heap) : W Tryz.prog B Tryz.f90.ntmps F90_L (prune [] (codeOf Tryz.f90)) (endQ Tryz.prog Tryz.f90 R) (env0 #[.slice a1 a1n a1c, .int .i64 a2]) h = F90 B R a1 a1n a1c a2 h := by kernel_rfl
theorem F90_ok {B : World} {R : Ending → Heap → Prop} (a1 : Option Addr) (a1n : Nat) (a1c : Nat) (a2 : Int) {h : Heap} (H : F90 B R a1 a1n a1c a2 h) : Ent Tryz.prog B 90 #[.slice a1 a1n a1c, .int .i64 a2] R h :=
  Ent_of_W mixed Tryz.func90 (by kernel_rfl) (by kernel_rfl) (by kernel_rfl) F90_L [] (by rw [F90_W]; exact H)

/-- plumb/expansion.Grow -/
def F34 (B : World) (R : Ending → Heap → Prop) (a1 : Option Addr) (a1n : Nat) (a1c : Nat) (a2 : Int) (h : Heap) : Prop :=
  alW h (.cells #[.slice none 0 0] 27) fun r3 h4 =>
 alW h4 (.cells #[.int .i64 0] 30) fun r5 h6 =>
 alW h6 (.cells #[.slice a1 a1n a1c] 27) fun r7 h8 =>
 Ent Tryz.prog B 87 #[.slice (some ⟨r7, 0, none⟩) 1 1] (retE (fun v9 h10 => ∃ x13, v9 = .int .i64 x13 ∧
((!decide (x13 = (0 : Int))) = true →
 isP (some ⟨r3, 0, none⟩) fun b25 o26 => stC h10 b25 o26 (.slice none 0 0) fun h27 =>
 isP (some ⟨r5, 0, none⟩) fun b28 o29 => stC h27 b28 o29 (.int .i64 x13) fun h30 =>
 Enters Tryz.prog 86 ∧ FnD Tryz.prog B 86 #[.pointer (some ⟨r3, 0, none⟩), .pointer (some ⟨r5, 0, none⟩)] .returning (dfE fun u31 h32 => lvW (fun h33 => isP (some ⟨r3, 0, none⟩) fun b36 o37 => ∃ x38 x38n x38c, cell? h33 ⟨b36, o37, none⟩ = some (.slice x38 x38n x38c) ∧
 isP (some ⟨r5, 0, none⟩) fun b39 o40 => ∃ x41, cell? h33 ⟨b39, o40, none⟩ = some (.int .i64 x41) ∧
 R (.returned (.tuple #[.slice x38 x38n x38c, .int .i64 x41])) h33) (fun ch35 h34 => R (.panicked ch35) h34) u31 h32) h30) ∧
((!decide (x13 = (0 : Int))) = false →
 Ent Tryz.prog B 88 #[.int .i64 a2] (retE (fun v42 h43 => ∃ x46, v42 = .bool x46 ∧
((!x46) = true →
 isP (some ⟨r3, 0, none⟩) fun b58 o59 => stC h43 b58 o59 (.slice none 0 0) fun h60 =>
 isP (some ⟨r5, 0, none⟩) fun b61 o62 => stC h60 b61 o62 (.int .i64 (10 : Int)) fun h63 =>
 Enters Tryz.prog 86 ∧ FnD Tryz.prog B 86 #[.pointer (some ⟨r3, 0, none⟩), .pointer (some ⟨r5, 0, none⟩)] .returning (dfE fun u64 h65 => lvW (fun h66 => isP (some ⟨r3, 0, none⟩) fun b69 o70 => ∃ x71 x71n x71c, cell? h66 ⟨b69, o70, none⟩ = some (.slice x71 x71n x71c) ∧
 isP (some ⟨r5, 0, none⟩) fun b72 o73 => ∃ x74, cell? h66 ⟨b72, o73, none⟩ = some (.int .i64 x74) ∧
 R (.returned (.tuple #[.slice x71 x71n x71c, .int .i64 x74])) h66) (fun ch68 h67 => R (.panicked ch68) h67) u64 h65) h63) ∧
((!x46) = false →
 Ent Tryz.prog B 90 #[.slice a1 a1n a1c, .int .i64 a2] (retE (fun v75 h76 => ∃ x79 x79n x79c, v75 = .slice x79 x79n x79c ∧
 Ent Tryz.prog B 89 #[.slice x79 x79n x79c] (retE (fun v91 h92 => ∃ x95 x95n x95c x96, v91 = .tuple #[.slice x95 x95n x95c, .int .i64 x96] ∧
 isP (some ⟨r3, 0, none⟩) fun b108 o109 => stC h92 b108 o109 (.slice x95 x95n x95c) fun h110 =>
 isP (some ⟨r5, 0, none⟩) fun b111 o112 => stC h110 b111 o112 (.int .i64 x96) fun h113 =>
 Enters Tryz.prog 86 ∧ FnD Tryz.prog B 86 #[.pointer (some ⟨r3, 0, none⟩), .pointer (some ⟨r5, 0, none⟩)] .returning (dfE fun u114 h115 => lvW (fun h116 => isP (some ⟨r3, 0, none⟩) fun b119 o120 => ∃ x121 x121n x121c, cell? h116 ⟨b119, o120, none⟩ = some (.slice x121 x121n x121c) ∧
 isP (some ⟨r5, 0, none⟩) fun b122 o123 => ∃ x124, cell? h116 ⟨b122, o123, none⟩ = some (.int .i64 x124) ∧
 R (.returned (.tuple #[.slice x121 x121n x121c, .int .i64 x124])) h116) (fun ch118 h117 => R (.panicked ch118) h117) u114 h115) h113)
 (fun ch93 h94 => Enters Tryz.prog 86 ∧ FnD Tryz.prog B 86 #[.pointer (some ⟨r3, 0, none⟩), .pointer (some ⟨r5, 0, none⟩)] (.panicking ch93) (dfE fun u97 h98 => lvW (fun h99 => isP (some ⟨r3, 0, none⟩) fun b102 o103 => ∃ x104 x104n x104c, cell? h99 ⟨b102, o103, none⟩ = some (.slice x104 x104n x104c) ∧
 isP (some ⟨r5, 0, none⟩) fun b105 o106 => ∃ x107, cell? h99 ⟨b105, o106, none⟩ = some (.int .i64 x107) ∧
 R (.returned (.tuple #[.slice x104 x104n x104c, .int .i64 x107])) h99) (fun ch101 h100 => R (.panicked ch101) h100) u97 h98) h94)) h76)
 (fun ch77 h78 => Enters Tryz.prog 86 ∧ FnD Tryz.prog B 86 #[.pointer (some ⟨r3, 0, none⟩), .pointer (some ⟨r5, 0, none⟩)] (.panicking ch77) (dfE fun u80 h81 => lvW (fun h82 => isP (some ⟨r3, 0, none⟩) fun b85 o86 => ∃ x87 x87n x87c, cell? h82 ⟨b85, o86, none⟩ = some (.slice x87 x87n x87c) ∧
 isP (some ⟨r5, 0, none⟩) fun b88 o89 => ∃ x90, cell? h82 ⟨b88, o89, none⟩ = some (.int .i64 x90) ∧
 R (.returned (.tuple #[.slice x87 x87n x87c, .int .i64 x90])) h82) (fun ch84 h83 => R (.panicked ch84) h83) u80 h81) h78)) h43))
 (fun ch44 h45 => Enters Tryz.prog 86 ∧ FnD Tryz.prog B 86 #[.pointer (some ⟨r3, 0, none⟩), .pointer (some ⟨r5, 0, none⟩)] (.panicking ch44) (dfE fun u47 h48 => lvW (fun h49 => isP (some ⟨r3, 0, none⟩) fun b52 o53 => ∃ x54 x54n x54c, cell? h49 ⟨b52, o53, none⟩ = some (.slice x54 x54n x54c) ∧
 isP (some ⟨r5, 0, none⟩) fun b55 o56 => ∃ x57, cell? h49 ⟨b55, o56, none⟩ = some (.int .i64 x57) ∧
 R (.returned (.tuple #[.slice x54 x54n x54c, .int .i64 x57])) h49) (fun ch51 h50 => R (.panicked ch51) h50) u47 h48) h45)) h10))
 (fun ch11 h12 => Enters Tryz.prog 86 ∧ FnD Tryz.prog B 86 #[.pointer (some ⟨r3, 0, none⟩), .pointer (some ⟨r5, 0, none⟩)] (.panicking ch11) (dfE fun u14 h15 => lvW (fun h16 => isP (some ⟨r3, 0, none⟩) fun b19 o20 => ∃ x21 x21n x21c, cell? h16 ⟨b19, o20, none⟩ = some (.slice x21 x21n x21c) ∧
 isP (some ⟨r5, 0, none⟩) fun b22 o23 => ∃ x24, cell? h16 ⟨b22, o23, none⟩ = some (.int .i64 x24) ∧
 R (.returned (.tuple #[.slice x21 x21n x21c, .int .i64 x24])) h16) (fun ch18 h17 => R (.panicked ch18) h17) u14 h15) h12)) h8
def F34_L : Nat → List (Nat × TypeDesc) := fun _ => []
theorem F34_W (B : World) (R : Ending → Heap → Prop) (a1 : Option Addr) (a1n : Nat) (a1c : Nat) (a2 : Int) (h : Heap) : W Tryz.prog B Tryz.f34.ntmps F34_L (prune [] (codeOf Tryz.f34)) (endQD Tryz.prog B Tryz.f34 R) (env0 #[.slice a1 a1n a1c, .int .i64 a2]) h = F34 B R a1 a1n a1c a2 h := by kernel_rfl
theorem F34_ok {B : World} {R : Ending → Heap → Prop} (a1 : Option Addr) (a1n : Nat) (a1c : Nat) (a2 : Int) {h : Heap} (H : F34 B R a1 a1n a1c a2 h) : Ent Tryz.prog B 34 #[.slice a1 a1n a1c, .int .i64 a2] R h :=
  Ent_of_WD mixed Tryz.func34 (by kernel_rfl) (by kernel_rfl) (by kernel_rfl) F34_L [] (by rw [F34_W]; exact H)

/-- plumb/expansion.sum -/
def F92 (B : World) (R : Ending → Heap → Prop) (a1 : Option Addr) (a1n : Nat) (a1c : Nat) (a2 : Option Addr) (a2n : Nat) (a2c : Nat) (h : Heap) : Prop :=
  slW a1n a1c none (some (.int .i64 ((a1n : Nat) : Int))) (some (.int .i64 ((a1n : Nat) : Int))) fun l3 l4 l5 =>
∃ I6 : Nat → List Value → Heap → Prop, ∃ n7, I6 n7 [.slice (slP a1 l3 l5 1) (l4 - l3) (l5 - l3), .slice a2 a2n a2c, .int .i64 ((a2n : Nat) : Int), .int .i64 (0 : Int)] h ∧
∀ (n8 : Nat) (h13 : Heap) (z9 : Option Addr) (z9n : Nat) (z9c : Nat) (z10 : Option Addr) (z10n : Nat) (z10c : Nat) (z11 : Int) (z12 : Int), I6 n8 [.slice z9 z9n z9c, .slice z10 z10n z10c, .int .i64 z11, .int .i64 z12] h13 → ∀ _r : Nat → Value,
 ((decide (z12 < z11)) = true →
 ixW z10 z10n z12 1 fun b14 o15 =>
 isP (some ⟨b14, o15, none⟩) fun b16 o17 => ∃ x18, cell? h13 ⟨b16, o17, none⟩ = some (.int .i64 x18) ∧
 Ent Tryz.prog B 90 #[.slice z9 z9n z9c, .int .i64 x18] (retE (fun v19 h20 => ∃ x23 x23n x23c, v19 = .slice x23 x23n x23c ∧
∃ m24, m24 < n8 ∧ I6 m24 [.slice x23 x23n x23c, .slice z10 z10n z10c, .int .i64 z11, .int .i64 (IntKind.i64.wrap (z12 + (1 : Int)))] h20)
 (fun ch21 h22 => R (.panicked ch21) h22)) h13) ∧
((decide (z12 < z11)) = false →
 apW h13 none 0 0 z9 z9n 1 8 3 #[.int .i64 0] fun q26 n27 c28 h25 =>
 R (.returned (.slice q26 n27 c28)) h25)
def F92_L : Nat → List (Nat × TypeDesc) := fun i => match i with
  | 3 => [(5, .slice 0), (14, .slice 0), (15, .int .i64), (16, .int .i64)]
  | _ => []
theorem F92_W (B : World) (R : Ending → Heap → Prop) (a1 : Option Addr) (a1n : Nat) (a1c : Nat) (a2 : Option Addr) (a2n : Nat) (a2c : Nat) (h : Heap) : W Tryz.prog B Tryz.f92.ntmps F92_L (prune [] (codeOf Tryz.f92)) (endQ Tryz.prog Tryz.f92 R) (env0 #[.slice a1 a1n a1c, .slice a2 a2n a2c]) h = F92 B R a1 a1n a1c a2 a2n a2c h := by kernel_rfl
theorem F92_ok {B : World} {R : Ending → Heap → Prop} (a1 : Option Addr) (a1n : Nat) (a1c : Nat) (a2 : Option Addr) (a2n : Nat) (a2c : Nat) {h : Heap} (H : F92 B R a1 a1n a1c a2 a2n a2c h) : Ent Tryz.prog B 92 #[.slice a1 a1n a1c, .slice a2 a2n a2c] R h :=
  Ent_of_W mixed Tryz.func92 (by kernel_rfl) (by kernel_rfl) (by kernel_rfl) F92_L [] (by rw [F92_W]; exact H)

/-- plumb/expansion.Sum -/
def F36 (B : World) (R : Ending → Heap → Prop) (a1 : Option Addr) (a1n : Nat) (a1c : Nat) (a2 : Option Addr) (a2n : Nat) (a2c : Nat) (h : Heap) : Prop :=
  alW h (.cells #[.slice none 0 0] 27) fun r3 h4 =>
 alW h4 (.cells #[.int .i64 0] 30) fun r5 h6 =>
 alW h6 (.cells #[.slice a1 a1n a1c, .slice a2 a2n a2c] 27) fun r7 h8 =>
 Ent Tryz.prog B 87 #[.slice (some ⟨r7, 0, none⟩) 2 2] (retE (fun v9 h10 => ∃ x13, v9 = .int .i64 x13 ∧
((!decide (x13 = (0 : Int))) = true →
 isP (some ⟨r3, 0, none⟩) fun b25 o26 => stC h10 b25 o26 (.slice none 0 0) fun h27 =>
 isP (some ⟨r5, 0, none⟩) fun b28 o29 => stC h27 b28 o29 (.int .i64 x13) fun h30 =>
 Enters Tryz.prog 86 ∧ FnD Tryz.prog B 86 #[.pointer (some ⟨r3, 0, none⟩), .pointer (some ⟨r5, 0, none⟩)] .returning (dfE fun u31 h32 => lvW (fun h33 => isP (some ⟨r3, 0, none⟩) fun b36 o37 => ∃ x38 x38n x38c, cell? h33 ⟨b36, o37, none⟩ = some (.slice x38 x38n x38c) ∧
 isP (some ⟨r5, 0, none⟩) fun b39 o40 => ∃ x41, cell? h33 ⟨b39, o40, none⟩ = some (.int .i64 x41) ∧
 R (.returned (.tuple #[.slice x38 x38n x38c, .int .i64 x41])) h33) (fun ch35 h34 => R (.panicked ch35) h34) u31 h32) h30) ∧
((!decide (x13 = (0 : Int))) = false →
 Ent Tryz.prog B 92 #[.slice a1 a1n a1c, .slice a2 a2n a2c] (retE (fun v42 h43 => ∃ x46 x46n x46c, v42 = .slice x46 x46n x46c ∧
 Ent Tryz.prog B 89 #[.slice x46 x46n x46c] (retE (fun v58 h59 => ∃ x62 x62n x62c x63, v58 = .tuple #[.slice x62 x62n x62c, .int .i64 x63] ∧
 isP (some ⟨r3, 0, none⟩) fun b75 o76 => stC h59 b75 o76 (.slice x62 x62n x62c) fun h77 =>
 isP (some ⟨r5, 0, none⟩) fun b78 o79 => stC h77 b78 o79 (.int .i64 x63) fun h80 =>
 Enters Tryz.prog 86 ∧ FnD Tryz.prog B 86 #[.pointer (some ⟨r3, 0, none⟩), .pointer (some ⟨r5, 0, none⟩)] .returning (dfE fun u81 h82 => lvW (fun h83 => isP (some ⟨r3, 0, none⟩) fun b86 o87 => ∃ x88 x88n x88c, cell? h83 ⟨b86, o87, none⟩ = some (.slice x88 x88n x88c) ∧
 isP (some ⟨r5, 0, none⟩) fun b89 o90 => ∃ x91, cell? h83 ⟨b89, o90, none⟩ = some (.int .i64 x91) ∧
 R (.returned (.tuple #[.slice x88 x88n x88c, .int .i64 x91])) h83) (fun ch85 h84 => R (.panicked ch85) h84) u81 h82) h80)
 (fun ch60 h61 => Enters Tryz.prog 86 ∧ FnD Tryz.prog B 86 #[.pointer (some ⟨r3, 0, none⟩), .pointer (some ⟨r5, 0, none⟩)] (.panicking ch60) (dfE fun u64 h65 => lvW (fun h66 => isP (some ⟨r3, 0, none⟩) fun b69 o70 => ∃ x71 x71n x71c, cell? h66 ⟨b69, o70, none⟩ = some (.slice x71 x71n x71c) ∧
 isP (some ⟨r5, 0, none⟩) fun b72 o73 => ∃ x74, cell? h66 ⟨b72, o73, none⟩ = some (.int .i64 x74) ∧
 R (.returned (.tuple #[.slice x71 x71n x71c, .int .i64 x74])) h66) (fun ch68 h67 => R (.panicked ch68) h67) u64 h65) h61)) h43)
 (fun ch44 h45 => Enters Tryz.prog 86 ∧ FnD Tryz.prog B 86 #[.pointer (some ⟨r3, 0, none⟩), .pointer (some ⟨r5, 0, none⟩)] (.panicking ch44) (dfE fun u47 h48 => lvW (fun h49 => isP (some ⟨r3, 0, none⟩) fun b52 o53 => ∃ x54 x54n x54c, cell? h49 ⟨b52, o53, none⟩ = some (.slice x54 x54n x54c) ∧
 isP (some ⟨r5, 0, none⟩) fun b55 o56 => ∃ x57, cell? h49 ⟨b55, o56, none⟩ = some (.int .i64 x57) ∧
 R (.returned (.tuple #[.slice x54 x54n x54c, .int .i64 x57])) h49) (fun ch51 h50 => R (.panicked ch51) h50) u47 h48) h45)) h10))
 (fun ch11 h12 => Enters Tryz.prog 86 ∧ FnD Tryz.prog B 86 #[.pointer (some ⟨r3, 0, none⟩), .pointer (some ⟨r5, 0, none⟩)] (.panicking ch11) (dfE fun u14 h15 => lvW (fun h16 => isP (some ⟨r3, 0, none⟩) fun b19 o20 => ∃ x21 x21n x21c, cell? h16 ⟨b19, o20, none⟩ = some (.slice x21 x21n x21c) ∧
 isP (some ⟨r5, 0, none⟩) fun b22 o23 => ∃ x24, cell? h16 ⟨b22, o23, none⟩ = some (.int .i64 x24) ∧
 R (.returned (.tuple #[.slice x21 x21n x21c, .int .i64 x24])) h16) (fun ch18 h17 => R (.panicked ch18) h17) u14 h15) h12)) h8
def F36_L : Nat → List (Nat × TypeDesc) := fun _ => []
theorem F36_W (B : World) (R : Ending → Heap → Prop) (a1 : Option Addr) (a1n : Nat) (a1c : Nat) (a2 : Option Addr) (a2n : Nat) (a2c : Nat) (h : Heap) : W Tryz.prog B Tryz.f36.ntmps F36_L (prune [] (codeOf Tryz.f36)) (endQD Tryz.prog B Tryz.f36 R) (env0 #[.slice a1 a1n a1c, .slice a2 a2n a2c]) h = F36 B R a1 a1n a1c a2 a2n a2c h := by kernel_rfl
theorem F36_ok {B : World} {R : Ending → Heap → Prop} (a1 : Option Addr) (a1n : Nat) (a1c : Nat) (a2 : Option Addr) (a2n : Nat) (a2c : Nat) {h : Heap} (H : F36 B R a1 a1n a1c a2 a2n a2c h) : Ent Tryz.prog B 36 #[.slice a1 a1n a1c, .slice a2 a2n a2c] R h :=
  Ent_of_WD mixed Tryz.func36 (by kernel_rfl) (by kernel_rfl) (by kernel_rfl) F36_L [] (by rw [F36_W]; exact H)

/-- plumb/expansion.scale -/
def F91_j3 (B : World) (R : Ending → Heap → Prop) (y4 : Option Addr) (y4n : Nat) (y4c : Nat) (y5 : Int) (y6 : Bool) (h7 : Heap) : Prop :=
  (y6 = true →
 R (.returned (.slice none 0 0)) h7) ∧
(y6 = false →
 0 ≤ (0 : Int) ∧ (0 : Int) ≤ (IntKind.i64.wrap ((2 : Int) * ((y4n : Nat) : Int))) ∧ 8 * (IntKind.i64.wrap ((2 : Int) * ((y4n : Nat) : Int))) ≤ 281474976710656 ∧ (IntKind.i64.wrap ((2 : Int) * ((y4n : Nat) : Int))) < 9223372036854775808 ∧
 alW h7 (.cells (mkCells #[.int .i64 0] (Int.toNat (IntKind.i64.wrap ((2 : Int) * ((y4n : Nat) : Int))) * 1)) 3) fun r8 h9 =>
 ixW y4 y4n (0 : Int) 1 fun b10 o11 =>
 isP (some ⟨b10, o11, none⟩) fun b12 o13 => ∃ x14, cell? h9 ⟨b12, o13, none⟩ = some (.int .i64 x14) ∧
 Ent Tryz.prog B 19 #[.int .i64 x14, .int .i64 y5] (retE (fun v15 h16 => ∃ x19 x20 x21, v15 = .tuple #[.int .i64 x19, .int .i64 x20, .bool x21] ∧
 Ent Tryz.prog B 107 #[.int .i64 x19, .int .i64 x20, .bool x21] (retE (fun v22 h23 => ∃ x26 x27, v22 = .tuple #[.int .i64 x26, .int .i64 x27] ∧
 Ent Tryz.prog B 108 #[.slice (some ⟨r8, 0, none⟩) (Int.toNat (0 : Int)) (Int.toNat (IntKind.i64.wrap ((2 : Int) * ((y4n : Nat) : Int)))), .int .i64 x27] (retE (fun v28 h29 => ∃ x32 x32n x32c, v28 = .slice x32 x32n x32c ∧
 slW y4n y4c (some (.int .i64 (1 : Int))) none none fun l33 l34 l35 =>
∃ I36 : Nat → List Value → Heap → Prop, ∃ n37, I36 n37 [.int .i64 y5, .slice x32 x32n x32c, .int .i64 x26, .slice (slP y4 l33 l35 1) (l34 - l33) (l35 - l33), .int .i64 ((l34 - l33 : Nat) : Int), .int .i64 (0 : Int)] h29 ∧
∀ (n38 : Nat) (h45 : Heap) (z39 : Int) (z40 : Option Addr) (z40n : Nat) (z40c : Nat) (z41 : Int) (z42 : Option Addr) (z42n : Nat) (z42c : Nat) (z43 : Int) (z44 : Int), I36 n38 [.int .i64 z39, .slice z40 z40n z40c, .int .i64 z41, .slice z42 z42n z42c, .int .i64 z43, .int .i64 z44] h45 → ∀ _r : Nat → Value,
 ((decide (z44 < z43)) = true →
 ixW z42 z42n z44 1 fun b46 o47 =>
 isP (some ⟨b46, o47, none⟩) fun b48 o49 => ∃ x50, cell? h45 ⟨b48, o49, none⟩ = some (.int .i64 x50) ∧
 Ent Tryz.prog B 19 #[.int .i64 x50, .int .i64 z39] (retE (fun v51 h52 => ∃ x55 x56 x57, v51 = .tuple #[.int .i64 x55, .int .i64 x56, .bool x57] ∧
 Ent Tryz.prog B 107 #[.int .i64 x55, .int .i64 x56, .bool x57] (retE (fun v58 h59 => ∃ x62 x63, v58 = .tuple #[.int .i64 x62, .int .i64 x63] ∧
 Ent Tryz.prog B 18 #[.int .i64 z41, .int .i64 x63] (retE (fun v64 h65 => ∃ x68 x69 x70, v64 = .tuple #[.int .i64 x68, .int .i64 x69, .bool x70] ∧
 Ent Tryz.prog B 107 #[.int .i64 x68, .int .i64 x69, .bool x70] (retE (fun v71 h72 => ∃ x75 x76, v71 = .tuple #[.int .i64 x75, .int .i64 x76] ∧
 Ent Tryz.prog B 108 #[.slice z40 z40n z40c, .int .i64 x76] (retE (fun v77 h78 => ∃ x81 x81n x81c, v77 = .slice x81 x81n x81c ∧
 Ent Tryz.prog B 20 #[.int .i64 x62, .int .i64 x75] (retE (fun v82 h83 => ∃ x86 x87 x88, v82 = .tuple #[.int .i64 x86, .int .i64 x87, .bool x88] ∧
 Ent Tryz.prog B 107 #[.int .i64 x86, .int .i64 x87, .bool x88] (retE (fun v89 h90 => ∃ x93 x94, v89 = .tuple #[.int .i64 x93, .int .i64 x94] ∧
 Ent Tryz.prog B 108 #[.slice x81 x81n x81c, .int .i64 x94] (retE (fun v95 h96 => ∃ x99 x99n x99c, v95 = .slice x99 x99n x99c ∧
∃ m100, m100 < n38 ∧ I36 m100 [.int .i64 z39, .slice x99 x99n x99c, .int .i64 x93, .slice z42 z42n z42c, .int .i64 z43, .int .i64 (IntKind.i64.wrap (z44 + (1 : Int)))] h96)
 (fun ch97 h98 => R (.panicked ch97) h98)) h90)
 (fun ch91 h92 => R (.panicked ch91) h92)) h83)
 (fun ch84 h85 => R (.panicked ch84) h85)) h78)
 (fun ch79 h80 => R (.panicked ch79) h80)) h72)
 (fun ch73 h74 => R (.panicked ch73) h74)) h65)
 (fun ch66 h67 => R (.panicked ch66) h67)) h59)
 (fun ch60 h61 => R (.panicked ch60) h61)) h52)
 (fun ch53 h54 => R (.panicked ch53) h54)) h45) ∧
((decide (z44 < z43)) = false →
 Ent Tryz.prog B 108 #[.slice z40 z40n z40c, .int .i64 z41] (retE (fun v101 h102 => ∃ x105 x105n x105c, v101 = .slice x105 x105n x105c ∧
 R (.returned (.slice x105 x105n x105c)) h102)
 (fun ch103 h104 => R (.panicked ch103) h104)) h45))
 (fun ch30 h31 => R (.panicked ch30) h31)) h23)
 (fun ch24 h25 => R (.panicked ch24) h25)) h16)
 (fun ch17 h18 => R (.panicked ch17) h18)) h9)
def F91 (B : World) (R : Ending → Heap → Prop) (a1 : Option Addr) (a1n : Nat) (a1c : Nat) (a2 : Int) (h : Heap) : Prop :=
  ((decide (((a1n : Nat) : Int) = (0 : Int))) = true →
 F91_j3 B R a1 a1n a1c a2 true h) ∧
((decide (((a1n : Nat) : Int) = (0 : Int))) = false →
 Ent Tryz.prog B 17 #[.int .i64 a2] (retE (fun v106 h107 => ∃ x110, v106 = .int .i64 x110 ∧
 F91_j3 B R a1 a1n a1c a2 (decide (x110 = (0 : Int))) h107)
 (fun ch108 h109 => R (.panicked ch108) h109)) h)
def F91_L : Nat → List (Nat × TypeDesc) := fun i => match i with
  | 7 => [(1, .int .i64), (5, .slice 0), (6, .int .i64), (40, .slice 0), (41, .int .i64), (42, .int .i64)]
  | _ => []
theorem F91_W (B : World) (R : Ending → Heap → Prop) (a1 : Option Addr) (a1n : Nat) (a1c : Nat) (a2 : Int) (h : Heap) : W Tryz.prog B Tryz.f91.ntmps F91_L (prune [] (codeOf Tryz.f91)) (endQ Tryz.prog Tryz.f91 R) (env0 #[.slice a1 a1n a1c, .int .i64 a2]) h = F91 B R a1 a1n a1c a2 h := by kernel_rfl
theorem F91_ok {B : World} {R : Ending → Heap → Prop} (a1 : Option Addr) (a1n : Nat) (a1c : Nat) (a2 : Int) {h : Heap} (H : F91 B R a1 a1n a1c a2 h) : Ent Tryz.prog B 91 #[.slice a1 a1n a1c, .int .i64 a2] R h :=
  Ent_of_W mixed Tryz.func91 (by kernel_rfl) (by kernel_rfl) (by kernel_rfl) F91_L [] (by rw [F91_W]; exact H)

/-- plumb/expansion.Scale -/
def F35 (B : World) (R : Ending → Heap → Prop) (a1 : Option Addr) (a1n : Nat) (a1c : Nat) (a2 : Int) (h : Heap) : Prop :=
  alW h (.cells #[.slice none 0 0] 27) fun r3 h4 =>
 alW h4 (.cells #[.int .i64 0] 30) fun r5 h6 =>
 alW h6 (.cells #[.slice a1 a1n a1c] 27) fun r7 h8 =>
 Ent Tryz.prog B 87 #[.slice (some ⟨r7, 0, none⟩) 1 1] (retE (fun v9 h10 => ∃ x13, v9 = .int .i64 x13 ∧
((!decide (x13 = (0 : Int))) = true →
 isP (some ⟨r3, 0, none⟩) fun b25 o26 => stC h10 b25 o26 (.slice none 0 0) fun h27 =>
 isP (some ⟨r5, 0, none⟩) fun b28 o29 => stC h27 b28 o29 (.int .i64 x13) fun h30 =>
 Enters Tryz.prog 86 ∧ FnD Tryz.prog B 86 #[.pointer (some ⟨r3, 0, none⟩), .pointer (some ⟨r5, 0, none⟩)] .returning (dfE fun u31 h32 => lvW (fun h33 => isP (some ⟨r3, 0, none⟩) fun b36 o37 => ∃ x38 x38n x38c, cell? h33 ⟨b36, o37, none⟩ = some (.slice x38 x38n x38c) ∧
 isP (some ⟨r5, 0, none⟩) fun b39 o40 => ∃ x41, cell? h33 ⟨b39, o40, none⟩ = some (.int .i64 x41) ∧
 R (.returned (.tuple #[.slice x38 x38n x38c, .int .i64 x41])) h33) (fun ch35 h34 => R (.panicked ch35) h34) u31 h32) h30) ∧
((!decide (x13 = (0 : Int))) = false →
 Ent Tryz.prog B 88 #[.int .i64 a2] (retE (fun v42 h43 => ∃ x46, v42 = .bool x46 ∧
((!x46) = true →
 isP (some ⟨r3, 0, none⟩) fun b58 o59 => stC h43 b58 o59 (.slice none 0 0) fun h60 =>
 isP (some ⟨r5, 0, none⟩) fun b61 o62 => stC h60 b61 o62 (.int .i64 (10 : Int)) fun h63 =>
 Enters Tryz.prog 86 ∧ FnD Tryz.prog B 86 #[.pointer (some ⟨r3, 0, none⟩), .pointer (some ⟨r5, 0, none⟩)] .returning (dfE fun u64 h65 => lvW (fun h66 => isP (some ⟨r3, 0, none⟩) fun b69 o70 => ∃ x71 x71n x71c, cell? h66 ⟨b69, o70, none⟩ = some (.slice x71 x71n x71c) ∧
 isP (some ⟨r5, 0, none⟩) fun b72 o73 => ∃ x74, cell? h66 ⟨b72, o73, none⟩ = some (.int .i64 x74) ∧
 R (.returned (.tuple #[.slice x71 x71n x71c, .int .i64 x74])) h66) (fun ch68 h67 => R (.panicked ch68) h67) u64 h65) h63) ∧
((!x46) = false →
 Ent Tryz.prog B 91 #[.slice a1 a1n a1c, .int .i64 a2] (retE (fun v75 h76 => ∃ x79 x79n x79c, v75 = .slice x79 x79n x79c ∧
 Ent Tryz.prog B 89 #[.slice x79 x79n x79c] (retE (fun v91 h92 => ∃ x95 x95n x95c x96, v91 = .tuple #[.slice x95 x95n x95c, .int .i64 x96] ∧
 isP (some ⟨r3, 0, none⟩) fun b108 o109 => stC h92 b108 o109 (.slice x95 x95n x95c) fun h110 =>
 isP (some ⟨r5, 0, none⟩) fun b111 o112 => stC h110 b111 o112 (.int .i64 x96) fun h113 =>
 Enters Tryz.prog 86 ∧ FnD Tryz.prog B 86 #[.pointer (some ⟨r3, 0, none⟩), .pointer (some ⟨r5, 0, none⟩)] .returning (dfE fun u114 h115 => lvW (fun h116 => isP (some ⟨r3, 0, none⟩) fun b119 o120 => ∃ x121 x121n x121c, cell? h116 ⟨b119, o120, none⟩ = some (.slice x121 x121n x121c) ∧
 isP (some ⟨r5, 0, none⟩) fun b122 o123 => ∃ x124, cell? h116 ⟨b122, o123, none⟩ = some (.int .i64 x124) ∧
 R (.returned (.tuple #[.slice x121 x121n x121c, .int .i64 x124])) h116) (fun ch118 h117 => R (.panicked ch118) h117) u114 h115) h113)
 (fun ch93 h94 => Enters Tryz.prog 86 ∧ FnD Tryz.prog B 86 #[.pointer (some ⟨r3, 0, none⟩), .pointer (some ⟨r5, 0, none⟩)] (.panicking ch93) (dfE fun u97 h98 => lvW (fun h99 => isP (some ⟨r3, 0, none⟩) fun b102 o103 => ∃ x104 x104n x104c, cell? h99 ⟨b102, o103, none⟩ = some (.slice x104 x104n x104c) ∧
 isP (some ⟨r5, 0, none⟩) fun b105 o106 => ∃ x107, cell? h99 ⟨b105, o106, none⟩ = some (.int .i64 x107) ∧
 R (.returned (.tuple #[.slice x104 x104n x104c, .int .i64 x107])) h99) (fun ch101 h100 => R (.panicked ch101) h100) u97 h98) h94)) h76)
 (fun ch77 h78 => Enters Tryz.prog 86 ∧ FnD Tryz.prog B 86 #[.pointer (some ⟨r3, 0, none⟩), .pointer (some ⟨r5, 0, none⟩)] (.panicking ch77) (dfE fun u80 h81 => lvW (fun h82 => isP (some ⟨r3, 0, none⟩) fun b85 o86 => ∃ x87 x87n x87c, cell? h82 ⟨b85, o86, none⟩ = some (.slice x87 x87n x87c) ∧
 isP (some ⟨r5, 0, none⟩) fun b88 o89 => ∃ x90, cell? h82 ⟨b88, o89, none⟩ = some (.int .i64 x90) ∧
 R (.returned (.tuple #[.slice x87 x87n x87c, .int .i64 x90])) h82) (fun ch84 h83 => R (.panicked ch84) h83) u80 h81) h78)) h43))
 (fun ch44 h45 => Enters Tryz.prog 86 ∧ FnD Tryz.prog B 86 #[.pointer (some ⟨r3, 0, none⟩), .pointer (some ⟨r5, 0, none⟩)] (.panicking ch44) (dfE fun u47 h48 => lvW (fun h49 => isP (some ⟨r3, 0, none⟩) fun b52 o53 => ∃ x54 x54n x54c, cell? h49 ⟨b52, o53, none⟩ = some (.slice x54 x54n x54c) ∧
 isP (some ⟨r5, 0, none⟩) fun b55 o56 => ∃ x57, cell? h49 ⟨b55, o56, none⟩ = some (.int .i64 x57) ∧
 R (.returned (.tuple #[.slice x54 x54n x54c, .int .i64 x57])) h49) (fun ch51 h50 => R (.panicked ch51) h50) u47 h48) h45)) h10))
 (fun ch11 h12 => Enters Tryz.prog 86 ∧ FnD Tryz.prog B 86 #[.pointer (some ⟨r3, 0, none⟩), .pointer (some ⟨r5, 0, none⟩)] (.panicking ch11) (dfE fun u14 h15 => lvW (fun h16 => isP (some ⟨r3, 0, none⟩) fun b19 o20 => ∃ x21 x21n x21c, cell? h16 ⟨b19, o20, none⟩ = some (.slice x21 x21n x21c) ∧
 isP (some ⟨r5, 0, none⟩) fun b22 o23 => ∃ x24, cell? h16 ⟨b22, o23, none⟩ = some (.int .i64 x24) ∧
 R (.returned (.tuple #[.slice x21 x21n x21c, .int .i64 x24])) h16) (fun ch18 h17 => R (.panicked ch18) h17) u14 h15) h12)) h8
def F35_L : Nat → List (Nat × TypeDesc) := fun _ => []
theorem F35_W (B : World) (R : Ending → Heap → Prop) (a1 : Option Addr) (a1n : Nat) (a1c : Nat) (a2 : Int) (h : Heap) : W Tryz.prog B Tryz.f35.ntmps F35_L (prune [] (codeOf Tryz.f35)) (endQD Tryz.prog B Tryz.f35 R) (env0 #[.slice a1 a1n a1c, .int .i64 a2]) h = F35 B R a1 a1n a1c a2 h := by kernel_rfl
theorem F35_ok {B : World} {R : Ending → Heap → Prop} (a1 : Option Addr) (a1n : Nat) (a1c : Nat) (a2 : Int) {h : Heap} (H : F35 B R a1 a1n a1c a2 h) : Ent Tryz.prog B 35 #[.slice a1 a1n a1c, .int .i64 a2] R h :=
  Ent_of_WD mixed Tryz.func35 (by kernel_rfl) (by kernel_rfl) (by kernel_rfl) F35_L [] (by rw [F35_W]; exact H)

/-- plumb/plumblaw2.Same -/
def F76_j20 (B : World) (R : Ending → Heap → Prop) (I3 : Nat → List Value → Heap → Prop) (n5 : Nat) (y21 : Option Addr) (y21n : Nat) (y21c : Nat) (y22 : Option Addr) (y22n : Nat) (y22c : Nat) (y23 : Int) (y24 : Bool) (h25 : Heap) : Prop :=
  (y24 = true →
 R (.returned (.bool false)) h25) ∧
(y24 = false →
 ∃ m26, m26 < n5 ∧ I3 m26 [.slice y21 y21n y21c, .slice y22 y22n y22c, .int .i64 (IntKind.i64.wrap (y23 + (1 : Int)))] h25)
def F76 (B : World) (R : Ending → Heap → Prop) (a1 : Option Addr) (a1n : Nat) (a1c : Nat) (a2 : Option Addr) (a2n : Nat) (a2c : Nat) (h : Heap) : Prop :=
  ((!decide (((a1n : Nat) : Int) = ((a2n : Nat) : Int))) = true →
 R (.returned (.bool false)) h) ∧
((!decide (((a1n : Nat) : Int) = ((a2n : Nat) : Int))) = false →
 ∃ I3 : Nat → List Value → Heap → Prop, ∃ n4, I3 n4 [.slice a1 a1n a1c, .slice a2 a2n a2c, .int .i64 (0 : Int)] h ∧
∀ (n5 : Nat) (h9 : Heap) (z6 : Option Addr) (z6n : Nat) (z6c : Nat) (z7 : Option Addr) (z7n : Nat) (z7c : Nat) (z8 : Int), I3 n5 [.slice z6 z6n z6c, .slice z7 z7n z7c, .int .i64 z8] h9 → ∀ _r : Nat → Value,
 ((decide (z8 < ((z6n : Nat) : Int))) = true →
 ixW z6 z6n z8 1 fun b10 o11 =>
 isP (some ⟨b10, o11, none⟩) fun b12 o13 => ∃ x14, cell? h9 ⟨b12, o13, none⟩ = some (.int .i64 x14) ∧
 ixW z7 z7n z8 1 fun b15 o16 =>
 isP (some ⟨b15, o16, none⟩) fun b17 o18 => ∃ x19, cell? h9 ⟨b17, o18, none⟩ = some (.int .i64 x19) ∧
 F76_j20 B R I3 n5 z6 z6n z6c z7 z7n z7c z8 (!decide (x14 = x19)) h9) ∧
((decide (z8 < ((z6n : Nat) : Int))) = false →
 R (.returned (.bool true)) h9))
def F76_L : Nat → List (Nat × TypeDesc) := fun i => match i with
  | 4 => [(0, .slice 0), (1, .slice 0), (5, .int .i64)]
  | _ => []
theorem F76_W (B : World) (R : Ending → Heap → Prop) (a1 : Option Addr) (a1n : Nat) (a1c : Nat) (a2 : Option Addr) (a2n : Nat) (a2c : Nat) (h : Heap) : W Tryz.prog B Tryz.f76.ntmps F76_L (prune [] (codeOf Tryz.f76)) (endQ Tryz.prog Tryz.f76 R) (env0 #[.slice a1 a1n a1c, .slice a2 a2n a2c]) h = F76 B R a1 a1n a1c a2 a2n a2c h := by kernel_rfl
theorem F76_ok {B : World} {R : Ending → Heap → Prop} (a1 : Option Addr) (a1n : Nat) (a1c : Nat) (a2 : Option Addr) (a2n : Nat) (a2c : Nat) {h : Heap} (H : F76 B R a1 a1n a1c a2 a2n a2c h) : Ent Tryz.prog B 76 #[.slice a1 a1n a1c, .slice a2 a2n a2c] R h :=
  Ent_of_W mixed Tryz.func76 (by kernel_rfl) (by kernel_rfl) (by kernel_rfl) F76_L [] (by rw [F76_W]; exact H)

/-- plumb/plumblaw7.alive -/
def F29_j29 (B : World) (R : Ending → Heap → Prop) (y30 : Bool) (h31 : Heap) : Prop :=
  R (.returned (.bool y30)) h31
def F29 (B : World) (R : Ending → Heap → Prop) (h : Heap) : Prop :=
  alW h (.cells #[.int .i64 (4607182418800017408 : Int)] 3) fun r1 h2 =>
 Ent Tryz.prog B 34 #[.slice (some ⟨r1, 0, none⟩) 1 1, .int .i64 (4336966441157787648 : Int)] (retE (fun v3 h4 => ∃ x7 x7n x7c x8, v3 = .tuple #[.slice x7 x7n x7c, .int .i64 x8] ∧
 alW h4 (.cells #[.int .i64 (4336966441157787648 : Int), .int .i64 (4607182418800017408 : Int)] 3) fun r9 h10 =>
 Ent Tryz.prog B 35 #[.slice (some ⟨r9, 0, none⟩) 2 2, .int .i64 (4611686018427387904 : Int)] (retE (fun v11 h12 => ∃ x15 x15n x15c x16, v11 = .tuple #[.slice x15 x15n x15c, .int .i64 x16] ∧
((decide (x8 = (0 : Int))) = true →
 alW h12 (.cells #[.int .i64 (4336966441157787648 : Int), .int .i64 (4607182418800017408 : Int)] 3) fun r17 h18 =>
 Ent Tryz.prog B 76 #[.slice x7 x7n x7c, .slice (some ⟨r17, 0, none⟩) 2 2] (retE (fun v19 h20 => ∃ x23, v19 = .bool x23 ∧
(x23 = true →
 ((decide (x16 = (0 : Int))) = true →
 ((decide (((x15n : Nat) : Int) = (2 : Int))) = true →
 Ent Tryz.prog B 37 #[.slice x7 x7n x7c] (retE (fun v24 h25 => ∃ x28, v24 = .bool x28 ∧
 F29_j29 B R x28 h25)
 (fun ch26 h27 => R (.panicked ch26) h27)) h20) ∧
((decide (((x15n : Nat) : Int) = (2 : Int))) = false →
 F29_j29 B R false h20)) ∧
((decide (x16 = (0 : Int))) = false →
 (false = true →
 Ent Tryz.prog B 37 #[.slice x7 x7n x7c] (retE (fun v32 h33 => ∃ x36, v32 = .bool x36 ∧
 F29_j29 B R x36 h33)
 (fun ch34 h35 => R (.panicked ch34) h35)) h20) ∧
(false = false →
 F29_j29 B R false h20))) ∧
(x23 = false →
 (false = true →
 ((decide (((x15n : Nat) : Int) = (2 : Int))) = true →
 Ent Tryz.prog B 37 #[.slice x7 x7n x7c] (retE (fun v37 h38 => ∃ x41, v37 = .bool x41 ∧
 F29_j29 B R x41 h38)
 (fun ch39 h40 => R (.panicked ch39) h40)) h20) ∧
((decide (((x15n : Nat) : Int) = (2 : Int))) = false →
 F29_j29 B R false h20)) ∧
(false = false →
 (false = true →
 Ent Tryz.prog B 37 #[.slice x7 x7n x7c] (retE (fun v42 h43 => ∃ x46, v42 = .bool x46 ∧
 F29_j29 B R x46 h43)
 (fun ch44 h45 => R (.panicked ch44) h45)) h20) ∧
(false = false →
 F29_j29 B R false h20))))
 (fun ch21 h22 => R (.panicked ch21) h22)) h18) ∧
((decide (x8 = (0 : Int))) = false →
 (false = true →
 ((decide (x16 = (0 : Int))) = true →
 ((decide (((x15n : Nat) : Int) = (2 : Int))) = true →
 Ent Tryz.prog B 37 #[.slice x7 x7n x7c] (retE (fun v47 h48 => ∃ x51, v47 = .bool x51 ∧
 F29_j29 B R x51 h48)
 (fun ch49 h50 => R (.panicked ch49) h50)) h12) ∧
((decide (((x15n : Nat) : Int) = (2 : Int))) = false →
 F29_j29 B R false h12)) ∧
((decide (x16 = (0 : Int))) = false →
 (false = true →
 Ent Tryz.prog B 37 #[.slice x7 x7n x7c] (retE (fun v52 h53 => ∃ x56, v52 = .bool x56 ∧
 F29_j29 B R x56 h53)
 (fun ch54 h55 => R (.panicked ch54) h55)) h12) ∧
(false = false →
 F29_j29 B R false h12))) ∧
(false = false →
 (false = true →
 ((decide (((x15n : Nat) : Int) = (2 : Int))) = true →
 Ent Tryz.prog B 37 #[.slice x7 x7n x7c] (retE (fun v57 h58 => ∃ x61, v57 = .bool x61 ∧
 F29_j29 B R x61 h58)
 (fun ch59 h60 => R (.panicked ch59) h60)) h12) ∧
((decide (((x15n : Nat) : Int) = (2 : Int))) = false →
 F29_j29 B R false h12)) ∧
(false = false →
 (false = true →
 Ent Tryz.prog B 37 #[.slice x7 x7n x7c] (retE (fun v62 h63 => ∃ x66, v62 = .bool x66 ∧
 F29_j29 B R x66 h63)
 (fun ch64 h65 => R (.panicked ch64) h65)) h12) ∧
(false = false →
 F29_j29 B R false h12)))))
 (fun ch13 h14 => R (.panicked ch13) h14)) h10)
 (fun ch5 h6 => R (.panicked ch5) h6)) h2
def F29_L : Nat → List (Nat × TypeDesc) := fun _ => []
theorem F29_W (B : World) (R : Ending → Heap → Prop) (h : Heap) : W Tryz.prog B Tryz.f29.ntmps F29_L (prune [] (codeOf Tryz.f29)) (endQ Tryz.prog Tryz.f29 R) (env0 #[]) h = F29 B R h := by kernel_rfl
theorem F29_ok {B : World} {R : Ending → Heap → Prop} {h : Heap} (H : F29 B R h) : Ent Tryz.prog B 29 #[] R h :=
  Ent_of_W mixed Tryz.func29 (by kernel_rfl) (by kernel_rfl) (by kernel_rfl) F29_L [] (by rw [F29_W]; exact H)

/-- plumb/plumblaw7.ExpansionRefuses -/
def F9_j67 (B : World) (R : Ending → Heap → Prop) (y68 : Bool) (h69 : Heap) : Prop :=
  R (.returned (.bool y68)) h69
def F9_j55 (B : World) (R : Ending → Heap → Prop) (y56 : Int) (y57 : Int) (y58 : Bool) (y59 : Int) (y60 : Bool) (h61 : Heap) : Prop :=
  (y60 = true →
 R (.returned (.bool false)) h61) ∧
(y60 = false →
 Ent Tryz.prog B 37 #[.slice none 0 0] (retE (fun v62 h63 => ∃ x66, v62 = .bool x66 ∧
(x66 = true →
 (y58 = true →
 F9_j67 B R true h63) ∧
(y58 = false →
 alW h63 (.cells #[.int .i64 y56, .int .i64 y57] 3) fun r70 h71 =>
 Ent Tryz.prog B 37 #[.slice (some ⟨r70, 0, none⟩) 2 2] (retE (fun v72 h73 => ∃ x76, v72 = .bool x76 ∧
 F9_j67 B R (x76 == (decide (y59 = (0 : Int)))) h73)
 (fun ch74 h75 => R (.panicked ch74) h75)) h71)) ∧
(x66 = false →
 F9_j67 B R false h63))
 (fun ch64 h65 => R (.panicked ch64) h65)) h61)
def F9_j13 (B : World) (R : Ending → Heap → Prop) (y14 : Int) (y15 : Int) (y16 : Bool) (h17 : Heap) : Prop :=
  alW h17 (.cells #[.int .i64 (9218868437227405311 : Int)] 3) fun r18 h19 =>
 Ent Tryz.prog B 34 #[.slice (some ⟨r18, 0, none⟩) 1 1, .int .i64 (9218868437227405311 : Int)] (retE (fun v20 h21 => ∃ x24 x24n x24c x25, v20 = .tuple #[.slice x24 x24n x24c, .int .i64 x25] ∧
 alW h21 (.cells #[.int .i64 (9218868437227405311 : Int)] 3) fun r26 h27 =>
 Ent Tryz.prog B 35 #[.slice (some ⟨r26, 0, none⟩) 1 1, .int .i64 (9218868437227405311 : Int)] (retE (fun v28 h29 => ∃ x32 x32n x32c x33, v28 = .tuple #[.slice x32 x32n x32c, .int .i64 x33] ∧
 alW h29 (.cells #[.int .i64 (1 : Int)] 3) fun r34 h35 =>
 Ent Tryz.prog B 35 #[.slice (some ⟨r34, 0, none⟩) 1 1, .int .i64 (1 : Int)] (retE (fun v36 h37 => ∃ x40 x40n x40c x41, v36 = .tuple #[.slice x40 x40n x40c, .int .i64 x41] ∧
 alW h37 (.cells #[.int .i64 y14, .int .i64 y15] 3) fun r42 h43 =>
 Ent Tryz.prog B 36 #[.slice (some ⟨r42, 0, none⟩) 2 2, .slice none 0 0] (retE (fun v44 h45 => ∃ x48 x48n x48c x49, v44 = .tuple #[.slice x48 x48n x48c, .int .i64 x49] ∧
 Ent Tryz.prog B 29 #[] (retE (fun v50 h51 => ∃ x54, v50 = .bool x54 ∧
((!x54) = true →
 (true = true →
 (true = true →
 (true = true →
 F9_j55 B R y14 y15 y16 x49 true h51) ∧
(true = false →
 (y16 = true →
 alW h51 (.cells #[.int .i64 y14, .int .i64 y15] 3) fun r77 h78 =>
 Ent Tryz.prog B 37 #[.slice (some ⟨r77, 0, none⟩) 2 2] (retE (fun v79 h80 => ∃ x83, v79 = .bool x83 ∧
(x83 = true →
 F9_j55 B R y14 y15 y16 x49 true h80) ∧
(x83 = false →
 F9_j55 B R y14 y15 y16 x49 (!decide (x49 = (1 : Int))) h80))
 (fun ch81 h82 => R (.panicked ch81) h82)) h78) ∧
(y16 = false →
 F9_j55 B R y14 y15 y16 x49 false h51))) ∧
(true = false →
 ((!decide (x41 = (14 : Int))) = true →
 F9_j55 B R y14 y15 y16 x49 true h51) ∧
((!decide (x41 = (14 : Int))) = false →
 (y16 = true →
 alW h51 (.cells #[.int .i64 y14, .int .i64 y15] 3) fun r84 h85 =>
 Ent Tryz.prog B 37 #[.slice (some ⟨r84, 0, none⟩) 2 2] (retE (fun v86 h87 => ∃ x90, v86 = .bool x90 ∧
(x90 = true →
 F9_j55 B R y14 y15 y16 x49 true h87) ∧
(x90 = false →
 F9_j55 B R y14 y15 y16 x49 (!decide (x49 = (1 : Int))) h87))
 (fun ch88 h89 => R (.panicked ch88) h89)) h85) ∧
(y16 = false →
 F9_j55 B R y14 y15 y16 x49 false h51)))) ∧
(true = false →
 ((!decide (x33 = (14 : Int))) = true →
 (true = true →
 F9_j55 B R y14 y15 y16 x49 true h51) ∧
(true = false →
 (y16 = true →
 alW h51 (.cells #[.int .i64 y14, .int .i64 y15] 3) fun r91 h92 =>
 Ent Tryz.prog B 37 #[.slice (some ⟨r91, 0, none⟩) 2 2] (retE (fun v93 h94 => ∃ x97, v93 = .bool x97 ∧
(x97 = true →
 F9_j55 B R y14 y15 y16 x49 true h94) ∧
(x97 = false →
 F9_j55 B R y14 y15 y16 x49 (!decide (x49 = (1 : Int))) h94))
 (fun ch95 h96 => R (.panicked ch95) h96)) h92) ∧
(y16 = false →
 F9_j55 B R y14 y15 y16 x49 false h51))) ∧
((!decide (x33 = (14 : Int))) = false →
 ((!decide (x41 = (14 : Int))) = true →
 F9_j55 B R y14 y15 y16 x49 true h51) ∧
((!decide (x41 = (14 : Int))) = false →
 (y16 = true →
 alW h51 (.cells #[.int .i64 y14, .int .i64 y15] 3) fun r98 h99 =>
 Ent Tryz.prog B 37 #[.slice (some ⟨r98, 0, none⟩) 2 2] (retE (fun v100 h101 => ∃ x104, v100 = .bool x104 ∧
(x104 = true →
 F9_j55 B R y14 y15 y16 x49 true h101) ∧
(x104 = false →
 F9_j55 B R y14 y15 y16 x49 (!decide (x49 = (1 : Int))) h101))
 (fun ch102 h103 => R (.panicked ch102) h103)) h99) ∧
(y16 = false →
 F9_j55 B R y14 y15 y16 x49 false h51))))) ∧
((!x54) = false →
 ((!decide (x25 = (14 : Int))) = true →
 (true = true →
 (true = true →
 F9_j55 B R y14 y15 y16 x49 true h51) ∧
(true = false →
 (y16 = true →
 alW h51 (.cells #[.int .i64 y14, .int .i64 y15] 3) fun r105 h106 =>
 Ent Tryz.prog B 37 #[.slice (some ⟨r105, 0, none⟩) 2 2] (retE (fun v107 h108 => ∃ x111, v107 = .bool x111 ∧
(x111 = true →
 F9_j55 B R y14 y15 y16 x49 true h108) ∧
(x111 = false →
 F9_j55 B R y14 y15 y16 x49 (!decide (x49 = (1 : Int))) h108))
 (fun ch109 h110 => R (.panicked ch109) h110)) h106) ∧
(y16 = false →
 F9_j55 B R y14 y15 y16 x49 false h51))) ∧
(true = false →
 ((!decide (x41 = (14 : Int))) = true →
 F9_j55 B R y14 y15 y16 x49 true h51) ∧
((!decide (x41 = (14 : Int))) = false →
 (y16 = true →
 alW h51 (.cells #[.int .i64 y14, .int .i64 y15] 3) fun r112 h113 =>
 Ent Tryz.prog B 37 #[.slice (some ⟨r112, 0, none⟩) 2 2] (retE (fun v114 h115 => ∃ x118, v114 = .bool x118 ∧
(x118 = true →
 F9_j55 B R y14 y15 y16 x49 true h115) ∧
(x118 = false →
 F9_j55 B R y14 y15 y16 x49 (!decide (x49 = (1 : Int))) h115))
 (fun ch116 h117 => R (.panicked ch116) h117)) h113) ∧
(y16 = false →
 F9_j55 B R y14 y15 y16 x49 false h51)))) ∧
((!decide (x25 = (14 : Int))) = false →
 ((!decide (x33 = (14 : Int))) = true →
 (true = true →
 F9_j55 B R y14 y15 y16 x49 true h51) ∧
(true = false →
 (y16 = true →
 alW h51 (.cells #[.int .i64 y14, .int .i64 y15] 3) fun r119 h120 =>
 Ent Tryz.prog B 37 #[.slice (some ⟨r119, 0, none⟩) 2 2] (retE (fun v121 h122 => ∃ x125, v121 = .bool x125 ∧
(x125 = true →
 F9_j55 B R y14 y15 y16 x49 true h122) ∧
(x125 = false →
 F9_j55 B R y14 y15 y16 x49 (!decide (x49 = (1 : Int))) h122))
 (fun ch123 h124 => R (.panicked ch123) h124)) h120) ∧
(y16 = false →
 F9_j55 B R y14 y15 y16 x49 false h51))) ∧
((!decide (x33 = (14 : Int))) = false →
 ((!decide (x41 = (14 : Int))) = true →
 F9_j55 B R y14 y15 y16 x49 true h51) ∧
((!decide (x41 = (14 : Int))) = false →
 (y16 = true →
 alW h51 (.cells #[.int .i64 y14, .int .i64 y15] 3) fun r126 h127 =>
 Ent Tryz.prog B 37 #[.slice (some ⟨r126, 0, none⟩) 2 2] (retE (fun v128 h129 => ∃ x132, v128 = .bool x132 ∧
(x132 = true →
 F9_j55 B R y14 y15 y16 x49 true h129) ∧
(x132 = false →
 F9_j55 B R y14 y15 y16 x49 (!decide (x49 = (1 : Int))) h129))
 (fun ch130 h131 => R (.panicked ch130) h131)) h127) ∧
(y16 = false →
 F9_j55 B R y14 y15 y16 x49 false h51))))))
 (fun ch52 h53 => R (.panicked ch52) h53)) h45)
 (fun ch46 h47 => R (.panicked ch46) h47)) h43)
 (fun ch38 h39 => R (.panicked ch38) h39)) h35)
 (fun ch30 h31 => R (.panicked ch30) h31)) h27)
 (fun ch22 h23 => R (.panicked ch22) h23)) h19
def F9 (B : World) (R : Ending → Heap → Prop) (a1 : Int) (a2 : Int) (h : Heap) : Prop :=
  Ent Tryz.prog B 17 #[.int .i64 a1] (retE (fun v3 h4 => ∃ x7, v3 = .int .i64 x7 ∧
((!decide (x7 = (1 : Int))) = true →
 Ent Tryz.prog B 17 #[.int .i64 a1] (retE (fun v8 h9 => ∃ x12, v8 = .int .i64 x12 ∧
((!decide (x12 = (2 : Int))) = true →
 (true = true →
 F9_j13 B R a1 a2 true h9) ∧
(true = false →
 Ent Tryz.prog B 33 #[.int .i64 a1] (retE (fun v133 h134 => ∃ x137, v133 = .int .i64 x137 ∧
 Ent Tryz.prog B 33 #[.int .i64 a2] (retE (fun v138 h139 => ∃ x142, v138 = .int .i64 x142 ∧
 Ent Tryz.prog B 32 #[.int .i64 x137, .int .i64 x142] (retE (fun v143 h144 => ∃ x147, v143 = .bool x147 ∧
 F9_j13 B R a1 a2 (!x147) h144)
 (fun ch145 h146 => R (.panicked ch145) h146)) h139)
 (fun ch140 h141 => R (.panicked ch140) h141)) h134)
 (fun ch135 h136 => R (.panicked ch135) h136)) h9)) ∧
((!decide (x12 = (2 : Int))) = false →
 Ent Tryz.prog B 17 #[.int .i64 a2] (retE (fun v148 h149 => ∃ x152, v148 = .int .i64 x152 ∧
((!decide (x152 = (1 : Int))) = true →
 Ent Tryz.prog B 17 #[.int .i64 a2] (retE (fun v153 h154 => ∃ x157, v153 = .int .i64 x157 ∧
((!decide (x157 = (2 : Int))) = true →
 F9_j13 B R a1 a2 true h154) ∧
((!decide (x157 = (2 : Int))) = false →
 Ent Tryz.prog B 33 #[.int .i64 a1] (retE (fun v158 h159 => ∃ x162, v158 = .int .i64 x162 ∧
 Ent Tryz.prog B 33 #[.int .i64 a2] (retE (fun v163 h164 => ∃ x167, v163 = .int .i64 x167 ∧
 Ent Tryz.prog B 32 #[.int .i64 x162, .int .i64 x167] (retE (fun v168 h169 => ∃ x172, v168 = .bool x172 ∧
 F9_j13 B R a1 a2 (!x172) h169)
 (fun ch170 h171 => R (.panicked ch170) h171)) h164)
 (fun ch165 h166 => R (.panicked ch165) h166)) h159)
 (fun ch160 h161 => R (.panicked ch160) h161)) h154))
 (fun ch155 h156 => R (.panicked ch155) h156)) h149) ∧
((!decide (x152 = (1 : Int))) = false →
 (false = true →
 F9_j13 B R a1 a2 true h149) ∧
(false = false →
 Ent Tryz.prog B 33 #[.int .i64 a1] (retE (fun v173 h174 => ∃ x177, v173 = .int .i64 x177 ∧
 Ent Tryz.prog B 33 #[.int .i64 a2] (retE (fun v178 h179 => ∃ x182, v178 = .int .i64 x182 ∧
 Ent Tryz.prog B 32 #[.int .i64 x177, .int .i64 x182] (retE (fun v183 h184 => ∃ x187, v183 = .bool x187 ∧
 F9_j13 B R a1 a2 (!x187) h184)
 (fun ch185 h186 => R (.panicked ch185) h186)) h179)
 (fun ch180 h181 => R (.panicked ch180) h181)) h174)
 (fun ch175 h176 => R (.panicked ch175) h176)) h149)))
 (fun ch150 h151 => R (.panicked ch150) h151)) h9))
 (fun ch10 h11 => R (.panicked ch10) h11)) h4) ∧
((!decide (x7 = (1 : Int))) = false →
 (false = true →
 (true = true →
 F9_j13 B R a1 a2 true h4) ∧
(true = false →
 Ent Tryz.prog B 33 #[.int .i64 a1] (retE (fun v188 h189 => ∃ x192, v188 = .int .i64 x192 ∧
 Ent Tryz.prog B 33 #[.int .i64 a2] (retE (fun v193 h194 => ∃ x197, v193 = .int .i64 x197 ∧
 Ent Tryz.prog B 32 #[.int .i64 x192, .int .i64 x197] (retE (fun v198 h199 => ∃ x202, v198 = .bool x202 ∧
 F9_j13 B R a1 a2 (!x202) h199)
 (fun ch200 h201 => R (.panicked ch200) h201)) h194)
 (fun ch195 h196 => R (.panicked ch195) h196)) h189)
 (fun ch190 h191 => R (.panicked ch190) h191)) h4)) ∧
(false = false →
 Ent Tryz.prog B 17 #[.int .i64 a2] (retE (fun v203 h204 => ∃ x207, v203 = .int .i64 x207 ∧
((!decide (x207 = (1 : Int))) = true →
 Ent Tryz.prog B 17 #[.int .i64 a2] (retE (fun v208 h209 => ∃ x212, v208 = .int .i64 x212 ∧
((!decide (x212 = (2 : Int))) = true →
 F9_j13 B R a1 a2 true h209) ∧
((!decide (x212 = (2 : Int))) = false →
 Ent Tryz.prog B 33 #[.int .i64 a1] (retE (fun v213 h214 => ∃ x217, v213 = .int .i64 x217 ∧
 Ent Tryz.prog B 33 #[.int .i64 a2] (retE (fun v218 h219 => ∃ x222, v218 = .int .i64 x222 ∧
 Ent Tryz.prog B 32 #[.int .i64 x217, .int .i64 x222] (retE (fun v223 h224 => ∃ x227, v223 = .bool x227 ∧
 F9_j13 B R a1 a2 (!x227) h224)
 (fun ch225 h226 => R (.panicked ch225) h226)) h219)
 (fun ch220 h221 => R (.panicked ch220) h221)) h214)
 (fun ch215 h216 => R (.panicked ch215) h216)) h209))
 (fun ch210 h211 => R (.panicked ch210) h211)) h204) ∧
((!decide (x207 = (1 : Int))) = false →
 (false = true →
 F9_j13 B R a1 a2 true h204) ∧
(false = false →
 Ent Tryz.prog B 33 #[.int .i64 a1] (retE (fun v228 h229 => ∃ x232, v228 = .int .i64 x232 ∧
 Ent Tryz.prog B 33 #[.int .i64 a2] (retE (fun v233 h234 => ∃ x237, v233 = .int .i64 x237 ∧
 Ent Tryz.prog B 32 #[.int .i64 x232, .int .i64 x237] (retE (fun v238 h239 => ∃ x242, v238 = .bool x242 ∧
 F9_j13 B R a1 a2 (!x242) h239)
 (fun ch240 h241 => R (.panicked ch240) h241)) h234)
 (fun ch235 h236 => R (.panicked ch235) h236)) h229)
 (fun ch230 h231 => R (.panicked ch230) h231)) h204)))
 (fun ch205 h206 => R (.panicked ch205) h206)) h4)))
 (fun ch5 h6 => R (.panicked ch5) h6)) h
def F9_L : Nat → List (Nat × TypeDesc) := fun _ => []
theorem F9_W (B : World) (R : Ending → Heap → Prop) (a1 : Int) (a2 : Int) (h : Heap) : W Tryz.prog B Tryz.f9.ntmps F9_L (prune [] (codeOf Tryz.f9)) (endQ Tryz.prog Tryz.f9 R) (env0 #[.int .i64 a1, .int .i64 a2]) h = F9 B R a1 a2 h := by kernel_rfl
theorem F9_ok {B : World} {R : Ending → Heap → Prop} (a1 : Int) (a2 : Int) {h : Heap} (H : F9 B R a1 a2 h) : Ent Tryz.prog B 9 #[.int .i64 a1, .int .i64 a2] R h :=
  Ent_of_W mixed Tryz.func9 (by kernel_rfl) (by kernel_rfl) (by kernel_rfl) F9_L [] (by rw [F9_W]; exact H)
end Go.Proofs
namespace Go.Proofs
open Go Go.Eng
end Go.Proofs
namespace Go.Proofs
open Go Go.Eng
/-- plumb/plumblaw7.ExpansionFloats -/
def F8_j15 (B : World) (R : Ending → Heap → Prop) (y16 : Bool) (h17 : Heap) : Prop :=
  R (.returned (.bool y16)) h17
def F8 (B : World) (R : Ending → Heap → Prop) (a1 : Option Addr) (a1n : Nat) (a1c : Nat) (a2 : Int) (h : Heap) : Prop :=
  alW h (.cells #[.slice none 0 0, .slice none 0 0] 46) fun r3 h4 =>
 Ent Tryz.prog B 29 #[] (retE (fun v5 h6 => ∃ x9, v5 = .bool x9 ∧
(x9 = true →
 ((decide ((500 : Int) < ((a1n : Nat) : Int))) = true →
 (true = true →
 Ent Tryz.prog B 31 #[.pointer (some ⟨r3, 0, none⟩)] (retE (fun v10 h11 => ∃ x14, v10 = .bool x14 ∧
 F8_j15 B R x14 h11)
 (fun ch12 h13 => R (.panicked ch12) h13)) h6) ∧
(true = false →
 F8_j15 B R false h6)) ∧
((decide ((500 : Int) < ((a1n : Nat) : Int))) = false →
 Ent Tryz.prog B 30 #[.pointer (some ⟨r3, 0, none⟩), .slice a1 a1n a1c, .int .i64 a2] (retE (fun v18 h19 => ∃ x22, v18 = .bool x22 ∧
(x22 = true →
 Ent Tryz.prog B 31 #[.pointer (some ⟨r3, 0, none⟩)] (retE (fun v23 h24 => ∃ x27, v23 = .bool x27 ∧
 F8_j15 B R x27 h24)
 (fun ch25 h26 => R (.panicked ch25) h26)) h19) ∧
(x22 = false →
 F8_j15 B R false h19))
 (fun ch20 h21 => R (.panicked ch20) h21)) h6)) ∧
(x9 = false →
 (false = true →
 Ent Tryz.prog B 31 #[.pointer (some ⟨r3, 0, none⟩)] (retE (fun v28 h29 => ∃ x32, v28 = .bool x32 ∧
 F8_j15 B R x32 h29)
 (fun ch30 h31 => R (.panicked ch30) h31)) h6) ∧
(false = false →
 F8_j15 B R false h6)))
 (fun ch7 h8 => R (.panicked ch7) h8)) h4
end Go.Proofs
