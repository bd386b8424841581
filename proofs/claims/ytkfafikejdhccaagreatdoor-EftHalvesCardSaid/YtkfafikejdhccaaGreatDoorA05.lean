import Derived.Test.YtkfafikejdhccaaGreatDoorA20
/- Here stand lemmas: what the functions of this file come to, third part (written by program). -/
set_option linter.unusedVariables false
namespace Go.Proofs
open Go Go.Eng
/-- plumb/plumbref6.TwoProd -/
def F50_j93 (B : World) (R : Ending → Heap → Prop) (y94 : Int) (y95 : Int) (y96 : Bool) (h97 : Heap) : Prop :=
  R (.returned (.tuple #[.int .i64 y94, .int .i64 y95, .bool y96])) h97
def F50 (B : World) (R : Ending → Heap → Prop) (a1 : Int) (a2 : Int) (h : Heap) : Prop :=
  Ent Tryz.prog B 109 #[.int .i64 a1, .int .i64 a2] (retE (fun v3 h4 => ∃ x7, v3 = .int .i64 x7 ∧
 Ent Tryz.prog B 51 #[.int .i64 a1] (retE (fun v8 h9 => ∃ x12 x13 x14, v8 = .tuple #[.int .i64 x12, .int .i64 x13, .bool x14] ∧
 Ent Tryz.prog B 51 #[.int .i64 a2] (retE (fun v15 h16 => ∃ x19 x20 x21, v15 = .tuple #[.int .i64 x19, .int .i64 x20, .bool x21] ∧
 Ent Tryz.prog B 109 #[.int .i64 x13, .int .i64 x20] (retE (fun v22 h23 => ∃ x26, v22 = .int .i64 x26 ∧
 Ent Tryz.prog B 109 #[.int .i64 x12, .int .i64 x19] (retE (fun v27 h28 => ∃ x31, v27 = .int .i64 x31 ∧
 Ent Tryz.prog B 110 #[.int .i64 x7, .int .i64 x31] (retE (fun v32 h33 => ∃ x36, v32 = .int .i64 x36 ∧
 Ent Tryz.prog B 109 #[.int .i64 x13, .int .i64 x19] (retE (fun v37 h38 => ∃ x41, v37 = .int .i64 x41 ∧
 Ent Tryz.prog B 110 #[.int .i64 x36, .int .i64 x41] (retE (fun v42 h43 => ∃ x46, v42 = .int .i64 x46 ∧
 Ent Tryz.prog B 109 #[.int .i64 x12, .int .i64 x20] (retE (fun v47 h48 => ∃ x51, v47 = .int .i64 x51 ∧
 Ent Tryz.prog B 110 #[.int .i64 x46, .int .i64 x51] (retE (fun v52 h53 => ∃ x56, v52 = .int .i64 x56 ∧
 Ent Tryz.prog B 110 #[.int .i64 x26, .int .i64 x56] (retE (fun v57 h58 => ∃ x61, v57 = .int .i64 x61 ∧
 Ent Tryz.prog B 111 #[.int .i64 a1, .int .i64 a2] (retE (fun v62 h63 => ∃ x66, v62 = .bool x66 ∧
(x66 = true →
 Ent Tryz.prog B 114 #[.int .i64 a1] (retE (fun v67 h68 => ∃ x71 x72 x72n x72c x73, v67 = .agg #[.bool x71, .slice x72 x72n x72c, .int .i64 x73] ∧
 Ent Tryz.prog B 114 #[.int .i64 a2] (retE (fun v74 h75 => ∃ x78 x79 x79n x79c x80, v74 = .agg #[.bool x78, .slice x79 x79n x79c, .int .i64 x80] ∧
 Ent Tryz.prog B 113 #[.agg #[.bool x71, .slice x72 x72n x72c, .int .i64 x73], .agg #[.bool x78, .slice x79 x79n x79c, .int .i64 x80]] (retE (fun v81 h82 => ∃ x85 x86 x86n x86c x87, v81 = .agg #[.bool x85, .slice x86 x86n x86c, .int .i64 x87] ∧
 Ent Tryz.prog B 112 #[.int .i64 x7, .int .i64 x61, .agg #[.bool x85, .slice x86 x86n x86c, .int .i64 x87]] (retE (fun v88 h89 => ∃ x92, v88 = .bool x92 ∧
 F50_j93 B R x7 x61 x92 h89)
 (fun ch90 h91 => R (.panicked ch90) h91)) h82)
 (fun ch83 h84 => R (.panicked ch83) h84)) h75)
 (fun ch76 h77 => R (.panicked ch76) h77)) h68)
 (fun ch69 h70 => R (.panicked ch69) h70)) h63) ∧
(x66 = false →
 F50_j93 B R x7 x61 false h63))
 (fun ch64 h65 => R (.panicked ch64) h65)) h58)
 (fun ch59 h60 => R (.panicked ch59) h60)) h53)
 (fun ch54 h55 => R (.panicked ch54) h55)) h48)
 (fun ch49 h50 => R (.panicked ch49) h50)) h43)
 (fun ch44 h45 => R (.panicked ch44) h45)) h38)
 (fun ch39 h40 => R (.panicked ch39) h40)) h33)
 (fun ch34 h35 => R (.panicked ch34) h35)) h28)
 (fun ch29 h30 => R (.panicked ch29) h30)) h23)
 (fun ch24 h25 => R (.panicked ch24) h25)) h16)
 (fun ch17 h18 => R (.panicked ch17) h18)) h9)
 (fun ch10 h11 => R (.panicked ch10) h11)) h4)
 (fun ch5 h6 => R (.panicked ch5) h6)) h
def F50_L : Nat → List (Nat × TypeDesc) := fun _ => []
theorem F50_W (B : World) (R : Ending → Heap → Prop) (a1 : Int) (a2 : Int) (h : Heap) : W Tryz.prog B Tryz.f50.ntmps F50_L (prune [] (codeOf Tryz.f50)) (endQ Tryz.prog Tryz.f50 R) (env0 #[.int .i64 a1, .int .i64 a2]) h = F50 B R a1 a2 h := by kernel_rfl
theorem F50_ok {B : World} {R : Ending → Heap → Prop} (a1 : Int) (a2 : Int) {h : Heap} (H : F50 B R a1 a2 h) : Ent Tryz.prog B 50 #[.int .i64 a1, .int .i64 a2] R h :=
  Ent_of_W mixed Tryz.func50 (by kernel_rfl) (by kernel_rfl) (by kernel_rfl) F50_L [] (by rw [F50_W]; exact H)

/-- plumb/plumbref6.Split -/
def F51_j45 (B : World) (R : Ending → Heap → Prop) (y46 : Int) (y47 : Int) (y48 : Bool) (h49 : Heap) : Prop :=
  R (.returned (.tuple #[.int .i64 y46, .int .i64 y47, .bool y48])) h49
def F51 (B : World) (R : Ending → Heap → Prop) (a1 : Int) (h : Heap) : Prop :=
  Ent Tryz.prog B 115 #[.bool false, .int .i64 (134217729 : Int), .int .i64 (0 : Int)] (retE (fun v2 h3 => ∃ x6 x7, v2 = .tuple #[.int .i64 x6, .bool x7] ∧
 Ent Tryz.prog B 109 #[.int .i64 x6, .int .i64 a1] (retE (fun v8 h9 => ∃ x12, v8 = .int .i64 x12 ∧
 Ent Tryz.prog B 110 #[.int .i64 x12, .int .i64 a1] (retE (fun v13 h14 => ∃ x17, v13 = .int .i64 x17 ∧
 Ent Tryz.prog B 110 #[.int .i64 x12, .int .i64 x17] (retE (fun v18 h19 => ∃ x22, v18 = .int .i64 x22 ∧
 Ent Tryz.prog B 110 #[.int .i64 a1, .int .i64 x22] (retE (fun v23 h24 => ∃ x27, v23 = .int .i64 x27 ∧
 Ent Tryz.prog B 79 #[.int .i64 a1] (retE (fun v28 h29 => ∃ x32, v28 = .bool x32 ∧
(x32 = true →
 Ent Tryz.prog B 114 #[.int .i64 a1] (retE (fun v33 h34 => ∃ x37 x38 x38n x38c x39, v33 = .agg #[.bool x37, .slice x38 x38n x38c, .int .i64 x39] ∧
 Ent Tryz.prog B 112 #[.int .i64 x22, .int .i64 x27, .agg #[.bool x37, .slice x38 x38n x38c, .int .i64 x39]] (retE (fun v40 h41 => ∃ x44, v40 = .bool x44 ∧
 F51_j45 B R x22 x27 x44 h41)
 (fun ch42 h43 => R (.panicked ch42) h43)) h34)
 (fun ch35 h36 => R (.panicked ch35) h36)) h29) ∧
(x32 = false →
 F51_j45 B R x22 x27 false h29))
 (fun ch30 h31 => R (.panicked ch30) h31)) h24)
 (fun ch25 h26 => R (.panicked ch25) h26)) h19)
 (fun ch20 h21 => R (.panicked ch20) h21)) h14)
 (fun ch15 h16 => R (.panicked ch15) h16)) h9)
 (fun ch10 h11 => R (.panicked ch10) h11)) h3)
 (fun ch4 h5 => R (.panicked ch4) h5)) h
def F51_L : Nat → List (Nat × TypeDesc) := fun _ => []
theorem F51_W (B : World) (R : Ending → Heap → Prop) (a1 : Int) (h : Heap) : W Tryz.prog B Tryz.f51.ntmps F51_L (prune [] (codeOf Tryz.f51)) (endQ Tryz.prog Tryz.f51 R) (env0 #[.int .i64 a1]) h = F51 B R a1 h := by kernel_rfl
theorem F51_ok {B : World} {R : Ending → Heap → Prop} (a1 : Int) {h : Heap} (H : F51 B R a1 h) : Ent Tryz.prog B 51 #[.int .i64 a1] R h :=
  Ent_of_W mixed Tryz.func51 (by kernel_rfl) (by kernel_rfl) (by kernel_rfl) F51_L [] (by rw [F51_W]; exact H)

/-- plumb/plumbref1.Finite -/
def F79 (B : World) (R : Ending → Heap → Prop) (a1 : Int) (h : Heap) : Prop :=
  Ent Tryz.prog B 84 #[.int .i64 a1] (retE (fun v2 h3 => ∃ x6, v2 = .int .i64 x6 ∧
 R (.returned (.bool (decide (x6 < (3 : Int))))) h3)
 (fun ch4 h5 => R (.panicked ch4) h5)) h
def F79_L : Nat → List (Nat × TypeDesc) := fun _ => []
theorem F79_W (B : World) (R : Ending → Heap → Prop) (a1 : Int) (h : Heap) : W Tryz.prog B Tryz.f79.ntmps F79_L (prune [] (codeOf Tryz.f79)) (endQ Tryz.prog Tryz.f79 R) (env0 #[.int .i64 a1]) h = F79 B R a1 h := by kernel_rfl
theorem F79_ok {B : World} {R : Ending → Heap → Prop} (a1 : Int) {h : Heap} (H : F79 B R a1 h) : Ent Tryz.prog B 79 #[.int .i64 a1] R h :=
  Ent_of_W mixed Tryz.func79 (by kernel_rfl) (by kernel_rfl) (by kernel_rfl) F79_L [] (by rw [F79_W]; exact H)

/-- plumb/plumbref1.Class -/
def F84 (B : World) (R : Ending → Heap → Prop) (a1 : Int) (h : Heap) : Prop :=
  Ent Tryz.prog B 149 #[.int .i64 a1] (retE (fun v2 h3 => ∃ x6 x7 x8, v2 = .tuple #[.bool x6, .int .i64 x7, .int .i64 x8] ∧
 Ent Tryz.prog B 150 #[.int .i64 x7, .int .i64 x8, .int .i64 (2047 : Int)] (retE (fun v9 h10 => ∃ x13, v9 = .int .i64 x13 ∧
 R (.returned (.int .i64 x13)) h10)
 (fun ch11 h12 => R (.panicked ch11) h12)) h3)
 (fun ch4 h5 => R (.panicked ch4) h5)) h
def F84_L : Nat → List (Nat × TypeDesc) := fun _ => []
theorem F84_W (B : World) (R : Ending → Heap → Prop) (a1 : Int) (h : Heap) : W Tryz.prog B Tryz.f84.ntmps F84_L (prune [] (codeOf Tryz.f84)) (endQ Tryz.prog Tryz.f84 R) (env0 #[.int .i64 a1]) h = F84 B R a1 h := by kernel_rfl
theorem F84_ok {B : World} {R : Ending → Heap → Prop} (a1 : Int) {h : Heap} (H : F84 B R a1 h) : Ent Tryz.prog B 84 #[.int .i64 a1] R h :=
  Ent_of_W mixed Tryz.func84 (by kernel_rfl) (by kernel_rfl) (by kernel_rfl) F84_L [] (by rw [F84_W]; exact H)

/-- plumb/plumbref3.Same -/
def F104_j58 (B : World) (R : Ending → Heap → Prop) (I26 : Nat → List Value → Heap → Prop) (n28 : Nat) (y59 : Option Addr) (y60 : Option Addr) (y61 : Int) (y62 : Bool) (h63 : Heap) : Prop :=
  (y62 = true →
 R (.returned (.bool false)) h63) ∧
(y62 = false →
 ∃ m64, m64 < n28 ∧ I26 m64 [.pointer y59, .pointer y60, .int .i64 (IntKind.i64.wrap (y61 + (1 : Int)))] h63)
def F104_j21 (B : World) (R : Ending → Heap → Prop) (y22 : Option Addr) (y23 : Option Addr) (y24 : Bool) (h25 : Heap) : Prop :=
  (y24 = true →
 R (.returned (.bool false)) h25) ∧
(y24 = false →
 ∃ I26 : Nat → List Value → Heap → Prop, ∃ n27, I26 n27 [.pointer y22, .pointer y23, .int .i64 (0 : Int)] h25 ∧
∀ (n28 : Nat) (h32 : Heap) (z29 : Option Addr) (z30 : Option Addr) (z31 : Int), I26 n28 [.pointer z29, .pointer z30, .int .i64 z31] h32 → ∀ _r : Nat → Value,
 isP z29 fun b33 o34 =>
 isP (some ⟨b33, o34 + 1, none⟩) fun b35 o36 => ∃ x37 x37n x37c, cell? h32 ⟨b35, o36, none⟩ = some (.slice x37 x37n x37c) ∧
((decide (z31 < ((x37n : Nat) : Int))) = true →
 isP z29 fun b38 o39 =>
 isP (some ⟨b38, o39 + 1, none⟩) fun b40 o41 => ∃ x42 x42n x42c, cell? h32 ⟨b40, o41, none⟩ = some (.slice x42 x42n x42c) ∧
 ixW x42 x42n z31 1 fun b43 o44 =>
 isP (some ⟨b43, o44, none⟩) fun b45 o46 => ∃ x47, cell? h32 ⟨b45, o46, none⟩ = some (.int .i64 x47) ∧
 isP z30 fun b48 o49 =>
 isP (some ⟨b48, o49 + 1, none⟩) fun b50 o51 => ∃ x52 x52n x52c, cell? h32 ⟨b50, o51, none⟩ = some (.slice x52 x52n x52c) ∧
 ixW x52 x52n z31 1 fun b53 o54 =>
 isP (some ⟨b53, o54, none⟩) fun b55 o56 => ∃ x57, cell? h32 ⟨b55, o56, none⟩ = some (.int .i64 x57) ∧
 F104_j58 B R I26 n28 z29 z30 z31 (!decide (x47 = x57)) h32) ∧
((decide (z31 < ((x37n : Nat) : Int))) = false →
 R (.returned (.bool true)) h32))
def F104 (B : World) (R : Ending → Heap → Prop) (a1 : Bool) (a2 : Option Addr) (a2n : Nat) (a2c : Nat) (a3 : Int) (a4 : Bool) (a5 : Option Addr) (a5n : Nat) (a5c : Nat) (a6 : Int) (h : Heap) : Prop :=
  alW h (.cells #[.bool a1, .slice a2 a2n a2c, .int .i64 a3] 29) fun r7 h8 =>
 alW h8 (.cells #[.bool a4, .slice a5 a5n a5c, .int .i64 a6] 29) fun r9 h10 =>
 isP (some ⟨r7, 0, none⟩) fun b11 o12 =>
 isP (some ⟨b11, o12, none⟩) fun b13 o14 => ∃ x15, cell? h10 ⟨b13, o14, none⟩ = some (.bool x15) ∧
 isP (some ⟨r9, 0, none⟩) fun b16 o17 =>
 isP (some ⟨b16, o17, none⟩) fun b18 o19 => ∃ x20, cell? h10 ⟨b18, o19, none⟩ = some (.bool x20) ∧
((!(x15 == x20)) = true →
 (true = true →
 F104_j21 B R (some ⟨r7, 0, none⟩) (some ⟨r9, 0, none⟩) true h10) ∧
(true = false →
 isP (some ⟨r7, 0, none⟩) fun b65 o66 =>
 isP (some ⟨b65, o66 + 1, none⟩) fun b67 o68 => ∃ x69 x69n x69c, cell? h10 ⟨b67, o68, none⟩ = some (.slice x69 x69n x69c) ∧
 isP (some ⟨r9, 0, none⟩) fun b70 o71 =>
 isP (some ⟨b70, o71 + 1, none⟩) fun b72 o73 => ∃ x74 x74n x74c, cell? h10 ⟨b72, o73, none⟩ = some (.slice x74 x74n x74c) ∧
 F104_j21 B R (some ⟨r7, 0, none⟩) (some ⟨r9, 0, none⟩) (!decide (((x69n : Nat) : Int) = ((x74n : Nat) : Int))) h10)) ∧
((!(x15 == x20)) = false →
 isP (some ⟨r7, 0, none⟩) fun b75 o76 =>
 isP (some ⟨b75, o76 + 2, none⟩) fun b77 o78 => ∃ x79, cell? h10 ⟨b77, o78, none⟩ = some (.int .i64 x79) ∧
 isP (some ⟨r9, 0, none⟩) fun b80 o81 =>
 isP (some ⟨b80, o81 + 2, none⟩) fun b82 o83 => ∃ x84, cell? h10 ⟨b82, o83, none⟩ = some (.int .i64 x84) ∧
((!decide (x79 = x84)) = true →
 F104_j21 B R (some ⟨r7, 0, none⟩) (some ⟨r9, 0, none⟩) true h10) ∧
((!decide (x79 = x84)) = false →
 isP (some ⟨r7, 0, none⟩) fun b85 o86 =>
 isP (some ⟨b85, o86 + 1, none⟩) fun b87 o88 => ∃ x89 x89n x89c, cell? h10 ⟨b87, o88, none⟩ = some (.slice x89 x89n x89c) ∧
 isP (some ⟨r9, 0, none⟩) fun b90 o91 =>
 isP (some ⟨b90, o91 + 1, none⟩) fun b92 o93 => ∃ x94 x94n x94c, cell? h10 ⟨b92, o93, none⟩ = some (.slice x94 x94n x94c) ∧
 F104_j21 B R (some ⟨r7, 0, none⟩) (some ⟨r9, 0, none⟩) (!decide (((x89n : Nat) : Int) = ((x94n : Nat) : Int))) h10))
def F104_L : Nat → List (Nat × TypeDesc) := fun i => match i with
  | 4 => [(2, .pointer 0), (3, .pointer 0), (5, .int .i64)]
  | _ => []
theorem F104_W (B : World) (R : Ending → Heap → Prop) (a1 : Bool) (a2 : Option Addr) (a2n : Nat) (a2c : Nat) (a3 : Int) (a4 : Bool) (a5 : Option Addr) (a5n : Nat) (a5c : Nat) (a6 : Int) (h : Heap) : W Tryz.prog B Tryz.f104.ntmps F104_L (prune [] (codeOf Tryz.f104)) (endQ Tryz.prog Tryz.f104 R) (env0 #[.agg #[.bool a1, .slice a2 a2n a2c, .int .i64 a3], .agg #[.bool a4, .slice a5 a5n a5c, .int .i64 a6]]) h = F104 B R a1 a2 a2n a2c a3 a4 a5 a5n a5c a6 h := by kernel_rfl
theorem F104_ok {B : World} {R : Ending → Heap → Prop} (a1 : Bool) (a2 : Option Addr) (a2n : Nat) (a2c : Nat) (a3 : Int) (a4 : Bool) (a5 : Option Addr) (a5n : Nat) (a5c : Nat) (a6 : Int) {h : Heap} (H : F104 B R a1 a2 a2n a2c a3 a4 a5 a5n a5c a6 h) : Ent Tryz.prog B 104 #[.agg #[.bool a1, .slice a2 a2n a2c, .int .i64 a3], .agg #[.bool a4, .slice a5 a5n a5c, .int .i64 a6]] R h :=
  Ent_of_W mixed Tryz.func104 (by kernel_rfl) (by kernel_rfl) (by kernel_rfl) F104_L [] (by rw [F104_W]; exact H)

/-- plumb/plumbref6.prod -/
def F109 (B : World) (R : Ending → Heap → Prop) (a1 : Int) (a2 : Int) (h : Heap) : Prop :=
  Ent Tryz.prog B 156 #[.int .i64 a1, .int .i64 a2] (retE (fun v3 h4 => ∃ x7, v3 = .int .i64 x7 ∧
 R (.returned (.int .i64 x7)) h4)
 (fun ch5 h6 => R (.panicked ch5) h6)) h
def F109_L : Nat → List (Nat × TypeDesc) := fun _ => []
theorem F109_W (B : World) (R : Ending → Heap → Prop) (a1 : Int) (a2 : Int) (h : Heap) : W Tryz.prog B Tryz.f109.ntmps F109_L (prune [] (codeOf Tryz.f109)) (endQ Tryz.prog Tryz.f109 R) (env0 #[.int .i64 a1, .int .i64 a2]) h = F109 B R a1 a2 h := by kernel_rfl
theorem F109_ok {B : World} {R : Ending → Heap → Prop} (a1 : Int) (a2 : Int) {h : Heap} (H : F109 B R a1 a2 h) : Ent Tryz.prog B 109 #[.int .i64 a1, .int .i64 a2] R h :=
  Ent_of_W mixed Tryz.func109 (by kernel_rfl) (by kernel_rfl) (by kernel_rfl) F109_L [] (by rw [F109_W]; exact H)

/-- plumb/plumbref6.diff -/
def F110 (B : World) (R : Ending → Heap → Prop) (a1 : Int) (a2 : Int) (h : Heap) : Prop :=
  Ent Tryz.prog B 157 #[.int .i64 a1, .int .i64 a2] (retE (fun v3 h4 => ∃ x7, v3 = .int .i64 x7 ∧
 R (.returned (.int .i64 x7)) h4)
 (fun ch5 h6 => R (.panicked ch5) h6)) h
def F110_L : Nat → List (Nat × TypeDesc) := fun _ => []
theorem F110_W (B : World) (R : Ending → Heap → Prop) (a1 : Int) (a2 : Int) (h : Heap) : W Tryz.prog B Tryz.f110.ntmps F110_L (prune [] (codeOf Tryz.f110)) (endQ Tryz.prog Tryz.f110 R) (env0 #[.int .i64 a1, .int .i64 a2]) h = F110 B R a1 a2 h := by kernel_rfl
theorem F110_ok {B : World} {R : Ending → Heap → Prop} (a1 : Int) (a2 : Int) {h : Heap} (H : F110 B R a1 a2 h) : Ent Tryz.prog B 110 #[.int .i64 a1, .int .i64 a2] R h :=
  Ent_of_W mixed Tryz.func110 (by kernel_rfl) (by kernel_rfl) (by kernel_rfl) F110_L [] (by rw [F110_W]; exact H)

/-- plumb/plumbref6.finite -/
def F111_j13 (B : World) (R : Ending → Heap → Prop) (y14 : Bool) (h15 : Heap) : Prop :=
  R (.returned (.bool y14)) h15
def F111 (B : World) (R : Ending → Heap → Prop) (a1 : Int) (a2 : Int) (h : Heap) : Prop :=
  Ent Tryz.prog B 79 #[.int .i64 a1] (retE (fun v3 h4 => ∃ x7, v3 = .bool x7 ∧
(x7 = true →
 Ent Tryz.prog B 79 #[.int .i64 a2] (retE (fun v8 h9 => ∃ x12, v8 = .bool x12 ∧
 F111_j13 B R x12 h9)
 (fun ch10 h11 => R (.panicked ch10) h11)) h4) ∧
(x7 = false →
 F111_j13 B R false h4))
 (fun ch5 h6 => R (.panicked ch5) h6)) h
def F111_L : Nat → List (Nat × TypeDesc) := fun _ => []
theorem F111_W (B : World) (R : Ending → Heap → Prop) (a1 : Int) (a2 : Int) (h : Heap) : W Tryz.prog B Tryz.f111.ntmps F111_L (prune [] (codeOf Tryz.f111)) (endQ Tryz.prog Tryz.f111 R) (env0 #[.int .i64 a1, .int .i64 a2]) h = F111 B R a1 a2 h := by kernel_rfl
theorem F111_ok {B : World} {R : Ending → Heap → Prop} (a1 : Int) (a2 : Int) {h : Heap} (H : F111 B R a1 a2 h) : Ent Tryz.prog B 111 #[.int .i64 a1, .int .i64 a2] R h :=
  Ent_of_W mixed Tryz.func111 (by kernel_rfl) (by kernel_rfl) (by kernel_rfl) F111_L [] (by rw [F111_W]; exact H)

/-- plumb/plumbref6.just -/
def F112_j50 (B : World) (R : Ending → Heap → Prop) (y51 : Bool) (h52 : Heap) : Prop :=
  R (.returned (.bool y51)) h52
def F112_j13 (B : World) (R : Ending → Heap → Prop) (y14 : Int) (y15 : Int) (y16 : Option Addr) (y17 : Bool) (h18 : Heap) : Prop :=
  (y17 = true →
 R (.returned (.bool false)) h18) ∧
(y17 = false →
 isP y16 fun b19 o20 =>
∃ x21, cell? h18 ⟨b19, o20, none⟩ = some (.bool x21) ∧
∃ x22 x22n x22c, cell? h18 ⟨b19, o20 + 1, none⟩ = some (.slice x22 x22n x22c) ∧
∃ x23, cell? h18 ⟨b19, o20 + 1 + 1, none⟩ = some (.int .i64 x23) ∧
 Ent Tryz.prog B 114 #[.int .i64 y14] (retE (fun v24 h25 => ∃ x28 x29 x29n x29c x30, v24 = .agg #[.bool x28, .slice x29 x29n x29c, .int .i64 x30] ∧
 sameCells h18 h25 b19 o20 3 ∧ Ent Tryz.prog B 114 #[.int .i64 y15] (retE (fun v31 h32 => ∃ x35 x36 x36n x36c x37, v31 = .agg #[.bool x35, .slice x36 x36n x36c, .int .i64 x37] ∧
 sameCells h25 h32 b19 o20 3 ∧ Ent Tryz.prog B 133 #[.agg #[.bool x28, .slice x29 x29n x29c, .int .i64 x30], .agg #[.bool x35, .slice x36 x36n x36c, .int .i64 x37]] (retE (fun v38 h39 => ∃ x42 x43 x43n x43c x44, v38 = .agg #[.bool x42, .slice x43 x43n x43c, .int .i64 x44] ∧
 sameCells h32 h39 b19 o20 3 ∧ Ent Tryz.prog B 104 #[.agg #[.bool x42, .slice x43 x43n x43c, .int .i64 x44], .agg #[.bool x21, .slice x22 x22n x22c, .int .i64 x23]] (retE (fun v45 h46 => ∃ x49, v45 = .bool x49 ∧
 F112_j50 B R x49 h46)
 (fun _ _ => False)) h39)
 (fun _ _ => False)) h32)
 (fun _ _ => False)) h25)
 (fun _ _ => False)) h18)
def F112 (B : World) (R : Ending → Heap → Prop) (a1 : Int) (a2 : Int) (a3 : Bool) (a4 : Option Addr) (a4n : Nat) (a4c : Nat) (a5 : Int) (h : Heap) : Prop :=
  alW h (.cells #[.bool a3, .slice a4 a4n a4c, .int .i64 a5] 29) fun r6 h7 =>
 Ent Tryz.prog B 79 #[.int .i64 a1] (retE (fun v8 h9 => ∃ x12, v8 = .bool x12 ∧
((!x12) = true →
 F112_j13 B R a1 a2 (some ⟨r6, 0, none⟩) true h9) ∧
((!x12) = false →
 Ent Tryz.prog B 79 #[.int .i64 a2] (retE (fun v53 h54 => ∃ x57, v53 = .bool x57 ∧
 F112_j13 B R a1 a2 (some ⟨r6, 0, none⟩) (!x57) h54)
 (fun ch55 h56 => R (.panicked ch55) h56)) h9))
 (fun ch10 h11 => R (.panicked ch10) h11)) h7
def F112_L : Nat → List (Nat × TypeDesc) := fun _ => []
theorem F112_W (B : World) (R : Ending → Heap → Prop) (a1 : Int) (a2 : Int) (a3 : Bool) (a4 : Option Addr) (a4n : Nat) (a4c : Nat) (a5 : Int) (h : Heap) : W Tryz.prog B Tryz.f112.ntmps F112_L (prune [] (codeOf Tryz.f112)) (endQ Tryz.prog Tryz.f112 R) (env0 #[.int .i64 a1, .int .i64 a2, .agg #[.bool a3, .slice a4 a4n a4c, .int .i64 a5]]) h = F112 B R a1 a2 a3 a4 a4n a4c a5 h := by kernel_rfl
theorem F112_ok {B : World} {R : Ending → Heap → Prop} (a1 : Int) (a2 : Int) (a3 : Bool) (a4 : Option Addr) (a4n : Nat) (a4c : Nat) (a5 : Int) {h : Heap} (H : F112 B R a1 a2 a3 a4 a4n a4c a5 h) : Ent Tryz.prog B 112 #[.int .i64 a1, .int .i64 a2, .agg #[.bool a3, .slice a4 a4n a4c, .int .i64 a5]] R h :=
  Ent_of_W mixed Tryz.func112 (by kernel_rfl) (by kernel_rfl) (by kernel_rfl) F112_L [] (by rw [F112_W]; exact H)

/-- plumb/plumbref3.Mul -/
def F113_j60 (B : World) (R : Ending → Heap → Prop) (y61 : Option Addr) (h62 : Heap) : Prop :=
  isP y61 fun b63 o64 =>
∃ x65, cell? h62 ⟨b63, o64, none⟩ = some (.bool x65) ∧
∃ x66 x66n x66c, cell? h62 ⟨b63, o64 + 1, none⟩ = some (.slice x66 x66n x66c) ∧
∃ x67, cell? h62 ⟨b63, o64 + 1 + 1, none⟩ = some (.int .i64 x67) ∧
 R (.returned (.agg #[.bool x65, .slice x66 x66n x66c, .int .i64 x67])) h62
def F113 (B : World) (R : Ending → Heap → Prop) (a1 : Bool) (a2 : Option Addr) (a2n : Nat) (a2c : Nat) (a3 : Int) (a4 : Bool) (a5 : Option Addr) (a5n : Nat) (a5c : Nat) (a6 : Int) (h : Heap) : Prop :=
  alW h (.cells #[.bool a1, .slice a2 a2n a2c, .int .i64 a3] 29) fun r7 h8 =>
 alW h8 (.cells #[.bool a4, .slice a5 a5n a5c, .int .i64 a6] 29) fun r9 h10 =>
 alW h10 (.cells #[.bool false, .slice none 0 0, .int .i64 0] 29) fun r11 h12 =>
 isP (some ⟨r7, 0, none⟩) fun b13 o14 =>
 isP (some ⟨b13, o14, none⟩) fun b15 o16 => ∃ x17, cell? h12 ⟨b15, o16, none⟩ = some (.bool x17) ∧
 isP (some ⟨r9, 0, none⟩) fun b18 o19 =>
 isP (some ⟨b18, o19, none⟩) fun b20 o21 => ∃ x22, cell? h12 ⟨b20, o21, none⟩ = some (.bool x22) ∧
 isP (some ⟨r7, 0, none⟩) fun b23 o24 =>
 isP (some ⟨b23, o24 + 1, none⟩) fun b25 o26 => ∃ x27 x27n x27c, cell? h12 ⟨b25, o26, none⟩ = some (.slice x27 x27n x27c) ∧
 isP (some ⟨r9, 0, none⟩) fun b28 o29 =>
 isP (some ⟨b28, o29 + 1, none⟩) fun b30 o31 => ∃ x32 x32n x32c, cell? h12 ⟨b30, o31, none⟩ = some (.slice x32 x32n x32c) ∧
 isP (some ⟨r7, 0, none⟩) fun b33 o34 =>
 isP (some ⟨b33, o34 + 2, none⟩) fun b35 o36 => ∃ x37, cell? h12 ⟨b35, o36, none⟩ = some (.int .i64 x37) ∧
 isP (some ⟨r9, 0, none⟩) fun b38 o39 =>
 isP (some ⟨b38, o39 + 2, none⟩) fun b40 o41 => ∃ x42, cell? h12 ⟨b40, o41, none⟩ = some (.int .i64 x42) ∧
 Ent Tryz.prog B 159 #[.slice x27 x27n x27c, .slice x32 x32n x32c] (retE (fun v43 h44 => ∃ x47 x47n x47c, v43 = .slice x47 x47n x47c ∧
 sameCells h12 h44 b40 o41 1 ∧ sameCells h12 h44 b35 o36 1 ∧ sameCells h12 h44 b20 o21 1 ∧ sameCells h12 h44 b15 o16 1 ∧ Ent Tryz.prog B 158 #[.bool (!(x17 == x22)), .slice x47 x47n x47c, .int .i64 (IntKind.i64.wrap (x37 + x42))] (retE (fun v48 h49 => ∃ x52 x53 x53n x53c x54, v48 = .agg #[.bool x52, .slice x53 x53n x53c, .int .i64 x54] ∧
 isP (some ⟨r11, 0, none⟩) fun b55 o56 => stC h49 b55 o56 (.bool x52) fun h57 =>
 stC h57 b55 (o56 + 1) (.slice x53 x53n x53c) fun h58 =>
 stC h58 b55 (o56 + 1 + 1) (.int .i64 x54) fun h59 =>
 F113_j60 B R (some ⟨r11, 0, none⟩) h59)
 (fun _ _ => False)) h44)
 (fun _ _ => False)) h12
def F113_L : Nat → List (Nat × TypeDesc) := fun _ => []
theorem F113_W (B : World) (R : Ending → Heap → Prop) (a1 : Bool) (a2 : Option Addr) (a2n : Nat) (a2c : Nat) (a3 : Int) (a4 : Bool) (a5 : Option Addr) (a5n : Nat) (a5c : Nat) (a6 : Int) (h : Heap) : W Tryz.prog B Tryz.f113.ntmps F113_L (prune [] (codeOf Tryz.f113)) (endQ Tryz.prog Tryz.f113 R) (env0 #[.agg #[.bool a1, .slice a2 a2n a2c, .int .i64 a3], .agg #[.bool a4, .slice a5 a5n a5c, .int .i64 a6]]) h = F113 B R a1 a2 a2n a2c a3 a4 a5 a5n a5c a6 h := by kernel_rfl
theorem F113_ok {B : World} {R : Ending → Heap → Prop} (a1 : Bool) (a2 : Option Addr) (a2n : Nat) (a2c : Nat) (a3 : Int) (a4 : Bool) (a5 : Option Addr) (a5n : Nat) (a5c : Nat) (a6 : Int) {h : Heap} (H : F113 B R a1 a2 a2n a2c a3 a4 a5 a5n a5c a6 h) : Ent Tryz.prog B 113 #[.agg #[.bool a1, .slice a2 a2n a2c, .int .i64 a3], .agg #[.bool a4, .slice a5 a5n a5c, .int .i64 a6]] R h :=
  Ent_of_W mixed Tryz.func113 (by kernel_rfl) (by kernel_rfl) (by kernel_rfl) F113_L [] (by rw [F113_W]; exact H)

/-- plumb/plumbref3.Of -/
def F114 (B : World) (R : Ending → Heap → Prop) (a1 : Int) (h : Heap) : Prop :=
  alW h (.cells #[.bool false, .slice none 0 0, .int .i64 0] 29) fun r2 h3 =>
 Ent Tryz.prog B 160 #[.int .i64 a1] (retE (fun v4 h5 => ∃ x8 x9 x10 x11, v4 = .tuple #[.bool x8, .int .i64 x9, .int .i64 x10, .bool x11] ∧
 Ent Tryz.prog B 161 #[.int .i64 x9] (retE (fun v12 h13 => ∃ x16 x16n x16c, v12 = .slice x16 x16n x16c ∧
 Ent Tryz.prog B 158 #[.bool x8, .slice x16 x16n x16c, .int .i64 x10] (retE (fun v17 h18 => ∃ x21 x22 x22n x22c x23, v17 = .agg #[.bool x21, .slice x22 x22n x22c, .int .i64 x23] ∧
 isP (some ⟨r2, 0, none⟩) fun b24 o25 => stC h18 b24 o25 (.bool x21) fun h26 =>
 stC h26 b24 (o25 + 1) (.slice x22 x22n x22c) fun h27 =>
 stC h27 b24 (o25 + 1 + 1) (.int .i64 x23) fun h28 =>
 isP (some ⟨r2, 0, none⟩) fun b29 o30 =>
∃ x31, cell? h28 ⟨b29, o30, none⟩ = some (.bool x31) ∧
∃ x32 x32n x32c, cell? h28 ⟨b29, o30 + 1, none⟩ = some (.slice x32 x32n x32c) ∧
∃ x33, cell? h28 ⟨b29, o30 + 1 + 1, none⟩ = some (.int .i64 x33) ∧
 R (.returned (.agg #[.bool x31, .slice x32 x32n x32c, .int .i64 x33])) h28)
 (fun ch19 h20 => R (.panicked ch19) h20)) h13)
 (fun ch14 h15 => R (.panicked ch14) h15)) h5)
 (fun ch6 h7 => R (.panicked ch6) h7)) h3
def F114_L : Nat → List (Nat × TypeDesc) := fun _ => []
theorem F114_W (B : World) (R : Ending → Heap → Prop) (a1 : Int) (h : Heap) : W Tryz.prog B Tryz.f114.ntmps F114_L (prune [] (codeOf Tryz.f114)) (endQ Tryz.prog Tryz.f114 R) (env0 #[.int .i64 a1]) h = F114 B R a1 h := by kernel_rfl
theorem F114_ok {B : World} {R : Ending → Heap → Prop} (a1 : Int) {h : Heap} (H : F114 B R a1 h) : Ent Tryz.prog B 114 #[.int .i64 a1] R h :=
  Ent_of_W mixed Tryz.func114 (by kernel_rfl) (by kernel_rfl) (by kernel_rfl) F114_L [] (by rw [F114_W]; exact H)

/-- plumb/plumbref1.Join -/
def F115_j22 (B : World) (R : Ending → Heap → Prop) (y23 : Int) (y24 : Int) (y25 : Int) (y26 : Bool) (h27 : Heap) : Prop :=
  (y26 = true →
 R (.returned (.tuple #[.int .i64 (0 : Int), .bool false])) h27) ∧
(y26 = false →
 ((decide (y24 < (4503599627370496 : Int))) = true →
 R (.returned (.tuple #[.int .i64 (IntKind.i64.wrap (y23 + y24)), .bool true])) h27) ∧
((decide (y24 < (4503599627370496 : Int))) = false →
 R (.returned (.tuple #[.int .i64 (IntKind.i64.wrap ((IntKind.i64.wrap ((IntKind.i64.wrap (y23 + (IntKind.i64.wrap ((IntKind.i64.wrap (y25 + (1075 : Int))) * (4503599627370496 : Int))))) + y24)) - (4503599627370496 : Int))), .bool true])) h27))
def F115_j9 (B : World) (R : Ending → Heap → Prop) (y10 : Int) (y11 : Int) (y12 : Int) (y13 : Bool) (h14 : Heap) : Prop :=
  (y13 = true →
 R (.returned (.tuple #[.int .i64 (0 : Int), .bool false])) h14) ∧
(y13 = false →
 ((decide (y10 = (0 : Int))) = true →
 R (.returned (.tuple #[.int .i64 y12, .bool true])) h14) ∧
((decide (y10 = (0 : Int))) = false →
 Ent Tryz.prog B 162 #[.int .i64 y10, .int .i64 y11, .int .i64 (-1074 : Int), .int .i64 (53 : Int)] (retE (fun v15 h16 => ∃ x19 x20 x21, v15 = .tuple #[.int .i64 x19, .int .i64 x20, .bool x21] ∧
((!x21) = true →
 F115_j22 B R y12 x19 x20 true h16) ∧
((!x21) = false →
 F115_j22 B R y12 x19 x20 (decide ((971 : Int) < x20)) h16))
 (fun ch17 h18 => R (.panicked ch17) h18)) h14))
def F115_j4 (B : World) (R : Ending → Heap → Prop) (y5 : Int) (y6 : Int) (y7 : Int) (h8 : Heap) : Prop :=
  ((decide (y5 < (0 : Int))) = true →
 (true = true →
 F115_j9 B R y5 y6 y7 true h8) ∧
(true = false →
 ((decide (y6 < (-2000 : Int))) = true →
 F115_j9 B R y5 y6 y7 (decide ((0 : Int) < y5)) h8) ∧
((decide (y6 < (-2000 : Int))) = false →
 F115_j9 B R y5 y6 y7 false h8))) ∧
((decide (y5 < (0 : Int))) = false →
 ((decide ((2000 : Int) < y6)) = true →
 ((decide ((0 : Int) < y5)) = true →
 F115_j9 B R y5 y6 y7 true h8) ∧
((decide ((0 : Int) < y5)) = false →
 ((decide (y6 < (-2000 : Int))) = true →
 F115_j9 B R y5 y6 y7 (decide ((0 : Int) < y5)) h8) ∧
((decide (y6 < (-2000 : Int))) = false →
 F115_j9 B R y5 y6 y7 false h8))) ∧
((decide ((2000 : Int) < y6)) = false →
 (false = true →
 F115_j9 B R y5 y6 y7 true h8) ∧
(false = false →
 ((decide (y6 < (-2000 : Int))) = true →
 F115_j9 B R y5 y6 y7 (decide ((0 : Int) < y5)) h8) ∧
((decide (y6 < (-2000 : Int))) = false →
 F115_j9 B R y5 y6 y7 false h8))))
def F115 (B : World) (R : Ending → Heap → Prop) (a1 : Bool) (a2 : Int) (a3 : Int) (h : Heap) : Prop :=
  (a1 = true →
 F115_j4 B R a2 a3 (-9223372036854775808 : Int) h) ∧
(a1 = false →
 F115_j4 B R a2 a3 (0 : Int) h)
def F115_L : Nat → List (Nat × TypeDesc) := fun _ => []
theorem F115_W (B : World) (R : Ending → Heap → Prop) (a1 : Bool) (a2 : Int) (a3 : Int) (h : Heap) : W Tryz.prog B Tryz.f115.ntmps F115_L (prune [] (codeOf Tryz.f115)) (endQ Tryz.prog Tryz.f115 R) (env0 #[.bool a1, .int .i64 a2, .int .i64 a3]) h = F115 B R a1 a2 a3 h := by kernel_rfl
theorem F115_ok {B : World} {R : Ending → Heap → Prop} (a1 : Bool) (a2 : Int) (a3 : Int) {h : Heap} (H : F115 B R a1 a2 a3 h) : Ent Tryz.prog B 115 #[.bool a1, .int .i64 a2, .int .i64 a3] R h :=
  Ent_of_W mixed Tryz.func115 (by kernel_rfl) (by kernel_rfl) (by kernel_rfl) F115_L [] (by rw [F115_W]; exact H)

/-- plumb/plumbref1.Neg -/
def F134 (B : World) (R : Ending → Heap → Prop) (a1 : Int) (h : Heap) : Prop :=
  Ent Tryz.prog B 84 #[.int .i64 a1] (retE (fun v2 h3 => ∃ x6, v2 = .int .i64 x6 ∧
((decide (x6 = (4 : Int))) = true →
 R (.returned (.int .i64 (9221120237041090561 : Int))) h3) ∧
((decide (x6 = (4 : Int))) = false →
 R (.returned (.int .i64 (IntKind.i64.wrap (a1 + (-9223372036854775808 : Int))))) h3))
 (fun ch4 h5 => R (.panicked ch4) h5)) h
def F134_L : Nat → List (Nat × TypeDesc) := fun _ => []
theorem F134_W (B : World) (R : Ending → Heap → Prop) (a1 : Int) (h : Heap) : W Tryz.prog B Tryz.f134.ntmps F134_L (prune [] (codeOf Tryz.f134)) (endQ Tryz.prog Tryz.f134 R) (env0 #[.int .i64 a1]) h = F134 B R a1 h := by kernel_rfl
theorem F134_ok {B : World} {R : Ending → Heap → Prop} (a1 : Int) {h : Heap} (H : F134 B R a1 h) : Ent Tryz.prog B 134 #[.int .i64 a1] R h :=
  Ent_of_W mixed Tryz.func134 (by kernel_rfl) (by kernel_rfl) (by kernel_rfl) F134_L [] (by rw [F134_W]; exact H)

/-- plumb/plumbref1.cut -/
def F149_j2 (B : World) (R : Ending → Heap → Prop) (y3 : Int) (y4 : Bool) (h5 : Heap) : Prop :=
  (4503599627370496 : Int) ≠ 0 ∧
(4503599627370496 : Int) ≠ 0 ∧
 R (.returned (.tuple #[.bool y4, .int .i64 (IntKind.i64.wrap (Int.tdiv y3 (4503599627370496 : Int))), .int .i64 (Int.tmod y3 (4503599627370496 : Int))])) h5
def F149 (B : World) (R : Ending → Heap → Prop) (a1 : Int) (h : Heap) : Prop :=
  ((decide (a1 < (0 : Int))) = true →
 F149_j2 B R (IntKind.i64.wrap (a1 - (-9223372036854775808 : Int))) (decide (a1 < (0 : Int))) h) ∧
((decide (a1 < (0 : Int))) = false →
 F149_j2 B R a1 (decide (a1 < (0 : Int))) h)
def F149_L : Nat → List (Nat × TypeDesc) := fun _ => []
theorem F149_W (B : World) (R : Ending → Heap → Prop) (a1 : Int) (h : Heap) : W Tryz.prog B Tryz.f149.ntmps F149_L (prune [] (codeOf Tryz.f149)) (endQ Tryz.prog Tryz.f149 R) (env0 #[.int .i64 a1]) h = F149 B R a1 h := by kernel_rfl
theorem F149_ok {B : World} {R : Ending → Heap → Prop} (a1 : Int) {h : Heap} (H : F149 B R a1 h) : Ent Tryz.prog B 149 #[.int .i64 a1] R h :=
  Ent_of_W mixed Tryz.func149 (by kernel_rfl) (by kernel_rfl) (by kernel_rfl) F149_L [] (by rw [F149_W]; exact H)

/-- plumb/plumbref1.class -/
def F150_j4 (B : World) (R : Ending → Heap → Prop) (y5 : Int) (y6 : Int) (y7 : Int) (y8 : Bool) (h9 : Heap) : Prop :=
  (y8 = true →
 R (.returned (.int .i64 (3 : Int))) h9) ∧
(y8 = false →
 ((decide (y5 = y7)) = true →
 R (.returned (.int .i64 (4 : Int))) h9) ∧
((decide (y5 = y7)) = false →
 ((decide ((0 : Int) < y5)) = true →
 R (.returned (.int .i64 (2 : Int))) h9) ∧
((decide ((0 : Int) < y5)) = false →
 ((decide ((0 : Int) < y6)) = true →
 R (.returned (.int .i64 (1 : Int))) h9) ∧
((decide ((0 : Int) < y6)) = false →
 R (.returned (.int .i64 (0 : Int))) h9))))
def F150 (B : World) (R : Ending → Heap → Prop) (a1 : Int) (a2 : Int) (a3 : Int) (h : Heap) : Prop :=
  ((decide (a1 = a3)) = true →
 F150_j4 B R a1 a2 a3 (decide (a2 = (0 : Int))) h) ∧
((decide (a1 = a3)) = false →
 F150_j4 B R a1 a2 a3 false h)
def F150_L : Nat → List (Nat × TypeDesc) := fun _ => []
theorem F150_W (B : World) (R : Ending → Heap → Prop) (a1 : Int) (a2 : Int) (a3 : Int) (h : Heap) : W Tryz.prog B Tryz.f150.ntmps F150_L (prune [] (codeOf Tryz.f150)) (endQ Tryz.prog Tryz.f150 R) (env0 #[.int .i64 a1, .int .i64 a2, .int .i64 a3]) h = F150 B R a1 a2 a3 h := by kernel_rfl
theorem F150_ok {B : World} {R : Ending → Heap → Prop} (a1 : Int) (a2 : Int) (a3 : Int) {h : Heap} (H : F150 B R a1 a2 a3 h) : Ent Tryz.prog B 150 #[.int .i64 a1, .int .i64 a2, .int .i64 a3] R h :=
  Ent_of_W mixed Tryz.func150 (by kernel_rfl) (by kernel_rfl) (by kernel_rfl) F150_L [] (by rw [F150_W]; exact H)

/-- plumb/plumbref4.Sum -/
def F155 (B : World) (R : Ending → Heap → Prop) (a1 : Int) (a2 : Int) (h : Heap) : Prop :=
  Ent Tryz.prog B 186 #[] (retE (fun v3 h4 => ∃ x7 x8 x9 x10 x11, v3 = .agg #[.int .i64 x7, .int .i64 x8, .int .i64 x9, .int .i64 x10, .int .i64 x11] ∧
 Ent Tryz.prog B 187 #[.agg #[.int .i64 x7, .int .i64 x8, .int .i64 x9, .int .i64 x10, .int .i64 x11], .int .i64 a1, .int .i64 a2, .int .i64 (0 : Int)] (retE (fun v12 h13 => ∃ x16, v12 = .int .i64 x16 ∧
 R (.returned (.int .i64 x16)) h13)
 (fun ch14 h15 => R (.panicked ch14) h15)) h4)
 (fun ch5 h6 => R (.panicked ch5) h6)) h
def F155_L : Nat → List (Nat × TypeDesc) := fun _ => []
theorem F155_W (B : World) (R : Ending → Heap → Prop) (a1 : Int) (a2 : Int) (h : Heap) : W Tryz.prog B Tryz.f155.ntmps F155_L (prune [] (codeOf Tryz.f155)) (endQ Tryz.prog Tryz.f155 R) (env0 #[.int .i64 a1, .int .i64 a2]) h = F155 B R a1 a2 h := by kernel_rfl
theorem F155_ok {B : World} {R : Ending → Heap → Prop} (a1 : Int) (a2 : Int) {h : Heap} (H : F155 B R a1 a2 h) : Ent Tryz.prog B 155 #[.int .i64 a1, .int .i64 a2] R h :=
  Ent_of_W mixed Tryz.func155 (by kernel_rfl) (by kernel_rfl) (by kernel_rfl) F155_L [] (by rw [F155_W]; exact H)

/-- plumb/plumbref4.Prod -/
def F156 (B : World) (R : Ending → Heap → Prop) (a1 : Int) (a2 : Int) (h : Heap) : Prop :=
  Ent Tryz.prog B 186 #[] (retE (fun v3 h4 => ∃ x7 x8 x9 x10 x11, v3 = .agg #[.int .i64 x7, .int .i64 x8, .int .i64 x9, .int .i64 x10, .int .i64 x11] ∧
 Ent Tryz.prog B 188 #[.agg #[.int .i64 x7, .int .i64 x8, .int .i64 x9, .int .i64 x10, .int .i64 x11], .int .i64 a1, .int .i64 a2, .int .i64 (0 : Int)] (retE (fun v12 h13 => ∃ x16, v12 = .int .i64 x16 ∧
 R (.returned (.int .i64 x16)) h13)
 (fun ch14 h15 => R (.panicked ch14) h15)) h4)
 (fun ch5 h6 => R (.panicked ch5) h6)) h
def F156_L : Nat → List (Nat × TypeDesc) := fun _ => []
theorem F156_W (B : World) (R : Ending → Heap → Prop) (a1 : Int) (a2 : Int) (h : Heap) : W Tryz.prog B Tryz.f156.ntmps F156_L (prune [] (codeOf Tryz.f156)) (endQ Tryz.prog Tryz.f156 R) (env0 #[.int .i64 a1, .int .i64 a2]) h = F156 B R a1 a2 h := by kernel_rfl
theorem F156_ok {B : World} {R : Ending → Heap → Prop} (a1 : Int) (a2 : Int) {h : Heap} (H : F156 B R a1 a2 h) : Ent Tryz.prog B 156 #[.int .i64 a1, .int .i64 a2] R h :=
  Ent_of_W mixed Tryz.func156 (by kernel_rfl) (by kernel_rfl) (by kernel_rfl) F156_L [] (by rw [F156_W]; exact H)

/-- plumb/plumbref4.Diff -/
def F157 (B : World) (R : Ending → Heap → Prop) (a1 : Int) (a2 : Int) (h : Heap) : Prop :=
  Ent Tryz.prog B 186 #[] (retE (fun v3 h4 => ∃ x7 x8 x9 x10 x11, v3 = .agg #[.int .i64 x7, .int .i64 x8, .int .i64 x9, .int .i64 x10, .int .i64 x11] ∧
 Ent Tryz.prog B 189 #[.agg #[.int .i64 x7, .int .i64 x8, .int .i64 x9, .int .i64 x10, .int .i64 x11], .int .i64 a1, .int .i64 a2, .int .i64 (0 : Int)] (retE (fun v12 h13 => ∃ x16, v12 = .int .i64 x16 ∧
 R (.returned (.int .i64 x16)) h13)
 (fun ch14 h15 => R (.panicked ch14) h15)) h4)
 (fun ch5 h6 => R (.panicked ch5) h6)) h
def F157_L : Nat → List (Nat × TypeDesc) := fun _ => []
theorem F157_W (B : World) (R : Ending → Heap → Prop) (a1 : Int) (a2 : Int) (h : Heap) : W Tryz.prog B Tryz.f157.ntmps F157_L (prune [] (codeOf Tryz.f157)) (endQ Tryz.prog Tryz.f157 R) (env0 #[.int .i64 a1, .int .i64 a2]) h = F157 B R a1 a2 h := by kernel_rfl
theorem F157_ok {B : World} {R : Ending → Heap → Prop} (a1 : Int) (a2 : Int) {h : Heap} (H : F157 B R a1 a2 h) : Ent Tryz.prog B 157 #[.int .i64 a1, .int .i64 a2] R h :=
  Ent_of_W mixed Tryz.func157 (by kernel_rfl) (by kernel_rfl) (by kernel_rfl) F157_L [] (by rw [F157_W]; exact H)

/-- plumb/plumbref3.Norm -/
def F158 (B : World) (R : Ending → Heap → Prop) (a1 : Bool) (a2 : Option Addr) (a2n : Nat) (a2c : Nat) (a3 : Int) (h : Heap) : Prop :=
  alW h (.cells #[.bool false, .slice none 0 0, .int .i64 0] 29) fun r4 h5 =>
 Ent Tryz.prog B 190 #[.slice a2 a2n a2c] (retE (fun v6 h7 => ∃ x10, v6 = .int .i64 x10 ∧
((decide (x10 < (0 : Int))) = true →
 isP (some ⟨r4, 0, none⟩) fun b11 o12 => stC h7 b11 o12 (.bool false) fun h13 =>
 stC h13 b11 (o12 + 1) (.slice none 0 0) fun h14 =>
 stC h14 b11 (o12 + 1 + 1) (.int .i64 0) fun h15 =>
 isP (some ⟨r4, 0, none⟩) fun b16 o17 =>
∃ x18, cell? h15 ⟨b16, o17, none⟩ = some (.bool x18) ∧
∃ x19 x19n x19c, cell? h15 ⟨b16, o17 + 1, none⟩ = some (.slice x19 x19n x19c) ∧
∃ x20, cell? h15 ⟨b16, o17 + 1 + 1, none⟩ = some (.int .i64 x20) ∧
 R (.returned (.agg #[.bool x18, .slice x19 x19n x19c, .int .i64 x20])) h15) ∧
((decide (x10 < (0 : Int))) = false →
 Ent Tryz.prog B 191 #[.slice a2 a2n a2c, .int .i64 x10] (retE (fun v21 h22 => ∃ x25 x25n x25c, v21 = .slice x25 x25n x25c ∧
 isP (some ⟨r4, 0, none⟩) fun b26 o27 => stC h22 b26 o27 (.bool a1) fun h28 =>
 stC h28 b26 (o27 + 1) (.slice x25 x25n x25c) fun h29 =>
 stC h29 b26 (o27 + 1 + 1) (.int .i64 (IntKind.i64.wrap (a3 + x10))) fun h30 =>
 isP (some ⟨r4, 0, none⟩) fun b31 o32 =>
∃ x33, cell? h30 ⟨b31, o32, none⟩ = some (.bool x33) ∧
∃ x34 x34n x34c, cell? h30 ⟨b31, o32 + 1, none⟩ = some (.slice x34 x34n x34c) ∧
∃ x35, cell? h30 ⟨b31, o32 + 1 + 1, none⟩ = some (.int .i64 x35) ∧
 R (.returned (.agg #[.bool x33, .slice x34 x34n x34c, .int .i64 x35])) h30)
 (fun ch23 h24 => R (.panicked ch23) h24)) h7))
 (fun ch8 h9 => R (.panicked ch8) h9)) h5
def F158_L : Nat → List (Nat × TypeDesc) := fun _ => []
theorem F158_W (B : World) (R : Ending → Heap → Prop) (a1 : Bool) (a2 : Option Addr) (a2n : Nat) (a2c : Nat) (a3 : Int) (h : Heap) : W Tryz.prog B Tryz.f158.ntmps F158_L (prune [] (codeOf Tryz.f158)) (endQ Tryz.prog Tryz.f158 R) (env0 #[.bool a1, .slice a2 a2n a2c, .int .i64 a3]) h = F158 B R a1 a2 a2n a2c a3 h := by kernel_rfl
theorem F158_ok {B : World} {R : Ending → Heap → Prop} (a1 : Bool) (a2 : Option Addr) (a2n : Nat) (a2c : Nat) (a3 : Int) {h : Heap} (H : F158 B R a1 a2 a2n a2c a3 h) : Ent Tryz.prog B 158 #[.bool a1, .slice a2 a2n a2c, .int .i64 a3] R h :=
  Ent_of_W mixed Tryz.func158 (by kernel_rfl) (by kernel_rfl) (by kernel_rfl) F158_L [] (by rw [F158_W]; exact H)

/-- plumb/plumbref2.Mul -/
def F159_j43 (B : World) (R : Ending → Heap → Prop) (I10 : Nat → List Value → Heap → Prop) (n12 : Nat) (I18 : Nat → List Value → Heap → Prop) (n20 : Nat) (y44 : Option Addr) (y44n : Nat) (y44c : Nat) (y45 : Option Addr) (y45n : Nat) (y45c : Nat) (y46 : Option Addr) (y46n : Nat) (y46c : Nat) (y47 : Int) (y48 : Int) (y49 : Int) (h50 : Heap) : Prop :=
  (1073741824 : Int) ≠ 0 ∧
 ixW y46 y46n (IntKind.i64.wrap (y47 + y48)) 1 fun b51 o52 =>
 isP (some ⟨b51, o52, none⟩) fun b53 o54 => stC h50 b53 o54 (.int .i64 (Int.tmod y49 (1073741824 : Int))) fun h55 =>
(1073741824 : Int) ≠ 0 ∧
∃ m56, m56 < n20 ∧ I18 m56 [.slice y44 y44n y44c, .slice y45 y45n y45c, .slice y46 y46n y46c, .int .i64 y47, .int .i64 (IntKind.i64.wrap (Int.tdiv y49 (1073741824 : Int))), .int .i64 (IntKind.i64.wrap (y48 + (1 : Int)))] h55
def F159_j3 (B : World) (R : Ending → Heap → Prop) (y4 : Option Addr) (y4n : Nat) (y4c : Nat) (y5 : Option Addr) (y5n : Nat) (y5c : Nat) (y6 : Bool) (h7 : Heap) : Prop :=
  (y6 = true →
 R (.returned (.slice none 0 0)) h7) ∧
(y6 = false →
 0 ≤ (IntKind.i64.wrap (((y4n : Nat) : Int) + ((y5n : Nat) : Int))) ∧ (IntKind.i64.wrap (((y4n : Nat) : Int) + ((y5n : Nat) : Int))) ≤ (IntKind.i64.wrap (((y4n : Nat) : Int) + ((y5n : Nat) : Int))) ∧ 8 * (IntKind.i64.wrap (((y4n : Nat) : Int) + ((y5n : Nat) : Int))) ≤ 281474976710656 ∧ (IntKind.i64.wrap (((y4n : Nat) : Int) + ((y5n : Nat) : Int))) < 9223372036854775808 ∧
 alW h7 (.cells (mkCells #[.int .i64 0] (Int.toNat (IntKind.i64.wrap (((y4n : Nat) : Int) + ((y5n : Nat) : Int))) * 1)) 3) fun r8 h9 =>
∃ I10 : Nat → List Value → Heap → Prop, ∃ n11, I10 n11 [.slice y4 y4n y4c, .slice y5 y5n y5c, .slice (some ⟨r8, 0, none⟩) (Int.toNat (IntKind.i64.wrap (((y4n : Nat) : Int) + ((y5n : Nat) : Int)))) (Int.toNat (IntKind.i64.wrap (((y4n : Nat) : Int) + ((y5n : Nat) : Int)))), .int .i64 (0 : Int)] h9 ∧
∀ (n12 : Nat) (h17 : Heap) (z13 : Option Addr) (z13n : Nat) (z13c : Nat) (z14 : Option Addr) (z14n : Nat) (z14c : Nat) (z15 : Option Addr) (z15n : Nat) (z15c : Nat) (z16 : Int), I10 n12 [.slice z13 z13n z13c, .slice z14 z14n z14c, .slice z15 z15n z15c, .int .i64 z16] h17 → ∀ _r : Nat → Value,
 ((decide (z16 < ((z13n : Nat) : Int))) = true →
 ∃ I18 : Nat → List Value → Heap → Prop, ∃ n19, I18 n19 [.slice z13 z13n z13c, .slice z14 z14n z14c, .slice z15 z15n z15c, .int .i64 z16, .int .i64 (0 : Int), .int .i64 (0 : Int)] h17 ∧
∀ (n20 : Nat) (h27 : Heap) (z21 : Option Addr) (z21n : Nat) (z21c : Nat) (z22 : Option Addr) (z22n : Nat) (z22c : Nat) (z23 : Option Addr) (z23n : Nat) (z23c : Nat) (z24 : Int) (z25 : Int) (z26 : Int), I18 n20 [.slice z21 z21n z21c, .slice z22 z22n z22c, .slice z23 z23n z23c, .int .i64 z24, .int .i64 z25, .int .i64 z26] h27 → ∀ _r : Nat → Value,
 ((decide (z26 < ((z22n : Nat) : Int))) = true →
 ixW z23 z23n (IntKind.i64.wrap (z24 + z26)) 1 fun b28 o29 =>
 isP (some ⟨b28, o29, none⟩) fun b30 o31 => ∃ x32, cell? h27 ⟨b30, o31, none⟩ = some (.int .i64 x32) ∧
 ixW z21 z21n z24 1 fun b33 o34 =>
 isP (some ⟨b33, o34, none⟩) fun b35 o36 => ∃ x37, cell? h27 ⟨b35, o36, none⟩ = some (.int .i64 x37) ∧
 ixW z22 z22n z26 1 fun b38 o39 =>
 isP (some ⟨b38, o39, none⟩) fun b40 o41 => ∃ x42, cell? h27 ⟨b40, o41, none⟩ = some (.int .i64 x42) ∧
 F159_j43 B R I10 n12 I18 n20 z21 z21n z21c z22 z22n z22c z23 z23n z23c z24 z26 (IntKind.i64.wrap ((IntKind.i64.wrap (x32 + (IntKind.i64.wrap (x37 * x42)))) + z25)) h27) ∧
((decide (z26 < ((z22n : Nat) : Int))) = false →
 ixW z23 z23n (IntKind.i64.wrap (z24 + ((z22n : Nat) : Int))) 1 fun b57 o58 =>
 isP (some ⟨b57, o58, none⟩) fun b59 o60 => stC h27 b59 o60 (.int .i64 z25) fun h61 =>
∃ m62, m62 < n12 ∧ I10 m62 [.slice z21 z21n z21c, .slice z22 z22n z22c, .slice z23 z23n z23c, .int .i64 (IntKind.i64.wrap (z24 + (1 : Int)))] h61)) ∧
((decide (z16 < ((z13n : Nat) : Int))) = false →
 Ent Tryz.prog B 192 #[.slice z15 z15n z15c] (retE (fun v63 h64 => ∃ x67 x67n x67c, v63 = .slice x67 x67n x67c ∧
 R (.returned (.slice x67 x67n x67c)) h64)
 (fun ch65 h66 => R (.panicked ch65) h66)) h17))
def F159 (B : World) (R : Ending → Heap → Prop) (a1 : Option Addr) (a1n : Nat) (a1c : Nat) (a2 : Option Addr) (a2n : Nat) (a2c : Nat) (h : Heap) : Prop :=
  ((decide (((a1n : Nat) : Int) = (0 : Int))) = true →
 F159_j3 B R a1 a1n a1c a2 a2n a2c true h) ∧
((decide (((a1n : Nat) : Int) = (0 : Int))) = false →
 F159_j3 B R a1 a1n a1c a2 a2n a2c (decide (((a2n : Nat) : Int) = (0 : Int))) h)
def F159_L : Nat → List (Nat × TypeDesc) := fun i => match i with
  | 5 => [(0, .slice 0), (1, .slice 0), (5, .slice 0), (6, .int .i64)]
  | 9 => [(0, .slice 0), (1, .slice 0), (5, .slice 0), (6, .int .i64), (7, .int .i64), (8, .int .i64)]
  | _ => []
theorem F159_W (B : World) (R : Ending → Heap → Prop) (a1 : Option Addr) (a1n : Nat) (a1c : Nat) (a2 : Option Addr) (a2n : Nat) (a2c : Nat) (h : Heap) : W Tryz.prog B Tryz.f159.ntmps F159_L (prune [] (codeOf Tryz.f159)) (endQ Tryz.prog Tryz.f159 R) (env0 #[.slice a1 a1n a1c, .slice a2 a2n a2c]) h = F159 B R a1 a1n a1c a2 a2n a2c h := by kernel_rfl
theorem F159_ok {B : World} {R : Ending → Heap → Prop} (a1 : Option Addr) (a1n : Nat) (a1c : Nat) (a2 : Option Addr) (a2n : Nat) (a2c : Nat) {h : Heap} (H : F159 B R a1 a1n a1c a2 a2n a2c h) : Ent Tryz.prog B 159 #[.slice a1 a1n a1c, .slice a2 a2n a2c] R h :=
  Ent_of_W mixed Tryz.func159 (by kernel_rfl) (by kernel_rfl) (by kernel_rfl) F159_L [] (by rw [F159_W]; exact H)

/-- plumb/plumbref1.Parts -/
def F160_j14 (B : World) (R : Ending → Heap → Prop) (y15 : Bool) (y16 : Int) (y17 : Int) (y18 : Int) (y19 : Bool) (h20 : Heap) : Prop :=
  (y19 = true →
 R (.returned (.tuple #[.bool y15, .int .i64 y17, .int .i64 (-1074 : Int), .bool true])) h20) ∧
(y19 = false →
 ((decide (y18 = (2 : Int))) = true →
 R (.returned (.tuple #[.bool y15, .int .i64 (IntKind.i64.wrap ((4503599627370496 : Int) + y17)), .int .i64 (IntKind.i64.wrap (y16 - (1075 : Int))), .bool true])) h20) ∧
((decide (y18 = (2 : Int))) = false →
 R (.returned (.tuple #[.bool false, .int .i64 (0 : Int), .int .i64 (0 : Int), .bool false])) h20))
def F160 (B : World) (R : Ending → Heap → Prop) (a1 : Int) (h : Heap) : Prop :=
  Ent Tryz.prog B 149 #[.int .i64 a1] (retE (fun v2 h3 => ∃ x6 x7 x8, v2 = .tuple #[.bool x6, .int .i64 x7, .int .i64 x8] ∧
 Ent Tryz.prog B 84 #[.int .i64 a1] (retE (fun v9 h10 => ∃ x13, v9 = .int .i64 x13 ∧
((decide (x13 = (0 : Int))) = true →
 F160_j14 B R x6 x7 x8 x13 (decide (x13 = (0 : Int))) h10) ∧
((decide (x13 = (0 : Int))) = false →
 F160_j14 B R x6 x7 x8 x13 (decide (x13 = (1 : Int))) h10))
 (fun ch11 h12 => R (.panicked ch11) h12)) h3)
 (fun ch4 h5 => R (.panicked ch4) h5)) h
def F160_L : Nat → List (Nat × TypeDesc) := fun _ => []
theorem F160_W (B : World) (R : Ending → Heap → Prop) (a1 : Int) (h : Heap) : W Tryz.prog B Tryz.f160.ntmps F160_L (prune [] (codeOf Tryz.f160)) (endQ Tryz.prog Tryz.f160 R) (env0 #[.int .i64 a1]) h = F160 B R a1 h := by kernel_rfl
theorem F160_ok {B : World} {R : Ending → Heap → Prop} (a1 : Int) {h : Heap} (H : F160 B R a1 h) : Ent Tryz.prog B 160 #[.int .i64 a1] R h :=
  Ent_of_W mixed Tryz.func160 (by kernel_rfl) (by kernel_rfl) (by kernel_rfl) F160_L [] (by rw [F160_W]; exact H)

/-- plumb/plumbref2.From -/
def F161 (B : World) (R : Ending → Heap → Prop) (a1 : Int) (h : Heap) : Prop :=
  ∃ I2 : Nat → List Value → Heap → Prop, ∃ n3, I2 n3 [.int .i64 a1, .slice none 0 0] h ∧
∀ (n4 : Nat) (h7 : Heap) (z5 : Int) (z6 : Option Addr) (z6n : Nat) (z6c : Nat), I2 n4 [.int .i64 z5, .slice z6 z6n z6c] h7 → ∀ _r : Nat → Value,
 ((decide ((0 : Int) < z5)) = true →
 (1073741824 : Int) ≠ 0 ∧
 alW h7 (.cells #[.int .i64 (Int.tmod z5 (1073741824 : Int))] 3) fun r8 h9 =>
 apW h9 z6 z6n z6c (some ⟨r8, 0, none⟩) 1 1 8 3 #[.int .i64 0] fun q11 n12 c13 h10 =>
(1073741824 : Int) ≠ 0 ∧
∃ m14, m14 < n4 ∧ I2 m14 [.int .i64 (IntKind.i64.wrap (Int.tdiv z5 (1073741824 : Int))), .slice q11 n12 c13] h10) ∧
((decide ((0 : Int) < z5)) = false →
 R (.returned (.slice z6 z6n z6c)) h7)
def F161_L : Nat → List (Nat × TypeDesc) := fun i => match i with
  | 2 => [(0, .int .i64), (3, .slice 0)]
  | _ => []
theorem F161_W (B : World) (R : Ending → Heap → Prop) (a1 : Int) (h : Heap) : W Tryz.prog B Tryz.f161.ntmps F161_L (prune [] (codeOf Tryz.f161)) (endQ Tryz.prog Tryz.f161 R) (env0 #[.int .i64 a1]) h = F161 B R a1 h := by kernel_rfl
theorem F161_ok {B : World} {R : Ending → Heap → Prop} (a1 : Int) {h : Heap} (H : F161 B R a1 h) : Ent Tryz.prog B 161 #[.int .i64 a1] R h :=
  Ent_of_W mixed Tryz.func161 (by kernel_rfl) (by kernel_rfl) (by kernel_rfl) F161_L [] (by rw [F161_W]; exact H)

/-- plumb/plumbref1.shifted -/
def F162_j36 (B : World) (R : Ending → Heap → Prop) (I5 : Nat → List Value → Heap → Prop) (n7 : Nat) (I28 : Nat → List Value → Heap → Prop) (n30 : Nat) (y37 : Int) (y38 : Int) (y39 : Int) (y40 : Int) (y41 : Bool) (h42 : Heap) : Prop :=
  (y41 = true →
 ∃ m43, m43 < n30 ∧ I28 m43 [.int .i64 (IntKind.i64.wrap (y37 + y37)), .int .i64 (IntKind.i64.wrap (y38 - (1 : Int))), .int .i64 y39, .int .i64 y40] h42) ∧
(y41 = false →
 R (.returned (.tuple #[.int .i64 y37, .int .i64 y38, .bool true])) h42)
def F162_j21 (B : World) (R : Ending → Heap → Prop) (I5 : Nat → List Value → Heap → Prop) (n7 : Nat) (y22 : Int) (y23 : Int) (y24 : Int) (y25 : Int) (y26 : Bool) (h27 : Heap) : Prop :=
  (y26 = true →
 R (.returned (.tuple #[.int .i64 (0 : Int), .int .i64 (0 : Int), .bool false])) h27) ∧
(y26 = false →
 ∃ I28 : Nat → List Value → Heap → Prop, ∃ n29, I28 n29 [.int .i64 y22, .int .i64 y23, .int .i64 y24, .int .i64 y25] h27 ∧
∀ (n30 : Nat) (h35 : Heap) (z31 : Int) (z32 : Int) (z33 : Int) (z34 : Int), I28 n30 [.int .i64 z31, .int .i64 z32, .int .i64 z33, .int .i64 z34] h35 → ∀ _r : Nat → Value,
 ((decide (z33 < z32)) = true →
 0 ≤ (IntKind.i64.wrap (z34 - (1 : Int))) ∧
 F162_j36 B R I5 n7 I28 n30 z31 z32 z33 z34 (decide (z31 < (IntKind.i64.wrap ((1 : Int) * 2 ^ min (Int.toNat (IntKind.i64.wrap (z34 - (1 : Int)))) IntKind.i64.bits)))) h35) ∧
((decide (z33 < z32)) = false →
 F162_j36 B R I5 n7 I28 n30 z31 z32 z33 z34 false h35))
def F162_j13 (B : World) (R : Ending → Heap → Prop) (I5 : Nat → List Value → Heap → Prop) (n7 : Nat) (y14 : Int) (y15 : Int) (y16 : Int) (y17 : Int) (y18 : Bool) (h19 : Heap) : Prop :=
  (y18 = true →
 (2 : Int) ≠ 0 ∧
∃ m20, m20 < n7 ∧ I5 m20 [.int .i64 (IntKind.i64.wrap (Int.tdiv y14 (2 : Int))), .int .i64 (IntKind.i64.wrap (y15 + (1 : Int))), .int .i64 y16, .int .i64 y17] h19) ∧
(y18 = false →
 0 ≤ y17 ∧
((decide ((IntKind.i64.wrap ((1 : Int) * 2 ^ min (Int.toNat y17) IntKind.i64.bits)) ≤ y14)) = true →
 F162_j21 B R I5 n7 y14 y15 y16 y17 true h19) ∧
((decide ((IntKind.i64.wrap ((1 : Int) * 2 ^ min (Int.toNat y17) IntKind.i64.bits)) ≤ y14)) = false →
 F162_j21 B R I5 n7 y14 y15 y16 y17 (decide (y15 < y16)) h19))
def F162 (B : World) (R : Ending → Heap → Prop) (a1 : Int) (a2 : Int) (a3 : Int) (a4 : Int) (h : Heap) : Prop :=
  ∃ I5 : Nat → List Value → Heap → Prop, ∃ n6, I5 n6 [.int .i64 a1, .int .i64 a2, .int .i64 a3, .int .i64 a4] h ∧
∀ (n7 : Nat) (h12 : Heap) (z8 : Int) (z9 : Int) (z10 : Int) (z11 : Int), I5 n7 [.int .i64 z8, .int .i64 z9, .int .i64 z10, .int .i64 z11] h12 → ∀ _r : Nat → Value,
 ((decide ((0 : Int) < z8)) = true →
 (2 : Int) ≠ 0 ∧
 F162_j13 B R I5 n7 z8 z9 z10 z11 (decide ((Int.tmod z8 (2 : Int)) = (0 : Int))) h12) ∧
((decide ((0 : Int) < z8)) = false →
 F162_j13 B R I5 n7 z8 z9 z10 z11 false h12)
def F162_L : Nat → List (Nat × TypeDesc) := fun i => match i with
  | 1 => [(0, .int .i64), (1, .int .i64), (2, .int .i64), (3, .int .i64)]
  | 6 => [(0, .int .i64), (1, .int .i64), (2, .int .i64), (3, .int .i64)]
  | _ => []
theorem F162_W (B : World) (R : Ending → Heap → Prop) (a1 : Int) (a2 : Int) (a3 : Int) (a4 : Int) (h : Heap) : W Tryz.prog B Tryz.f162.ntmps F162_L (prune [] (codeOf Tryz.f162)) (endQ Tryz.prog Tryz.f162 R) (env0 #[.int .i64 a1, .int .i64 a2, .int .i64 a3, .int .i64 a4]) h = F162 B R a1 a2 a3 a4 h := by kernel_rfl
theorem F162_ok {B : World} {R : Ending → Heap → Prop} (a1 : Int) (a2 : Int) (a3 : Int) (a4 : Int) {h : Heap} (H : F162 B R a1 a2 a3 a4 h) : Ent Tryz.prog B 162 #[.int .i64 a1, .int .i64 a2, .int .i64 a3, .int .i64 a4] R h :=
  Ent_of_W mixed Tryz.func162 (by kernel_rfl) (by kernel_rfl) (by kernel_rfl) F162_L [] (by rw [F162_W]; exact H)

/-- plumb/plumbref2.Shl -/
def F177 (B : World) (R : Ending → Heap → Prop) (a1 : Option Addr) (a1n : Nat) (a1c : Nat) (a2 : Int) (h : Heap) : Prop :=
  ((decide (((a1n : Nat) : Int) = (0 : Int))) = true →
 R (.returned (.slice none 0 0)) h) ∧
((decide (((a1n : Nat) : Int) = (0 : Int))) = false →
 (30 : Int) ≠ 0 ∧
0 ≤ (IntKind.i64.wrap (Int.tdiv a2 (30 : Int))) ∧ (IntKind.i64.wrap (Int.tdiv a2 (30 : Int))) ≤ (IntKind.i64.wrap (Int.tdiv a2 (30 : Int))) ∧ 8 * (IntKind.i64.wrap (Int.tdiv a2 (30 : Int))) ≤ 281474976710656 ∧ (IntKind.i64.wrap (Int.tdiv a2 (30 : Int))) < 9223372036854775808 ∧
 alW h (.cells (mkCells #[.int .i64 0] (Int.toNat (IntKind.i64.wrap (Int.tdiv a2 (30 : Int))) * 1)) 3) fun r3 h4 =>
(30 : Int) ≠ 0 ∧
0 ≤ (Int.tmod a2 (30 : Int)) ∧
∃ I5 : Nat → List Value → Heap → Prop, ∃ n6, I5 n6 [.slice a1 a1n a1c, .slice (some ⟨r3, 0, none⟩) (Int.toNat (IntKind.i64.wrap (Int.tdiv a2 (30 : Int)))) (Int.toNat (IntKind.i64.wrap (Int.tdiv a2 (30 : Int)))), .int .i64 (IntKind.i64.wrap ((1 : Int) * 2 ^ min (Int.toNat (Int.tmod a2 (30 : Int))) IntKind.i64.bits)), .int .i64 (0 : Int), .int .i64 (0 : Int)] h4 ∧
∀ (n7 : Nat) (h13 : Heap) (z8 : Option Addr) (z8n : Nat) (z8c : Nat) (z9 : Option Addr) (z9n : Nat) (z9c : Nat) (z10 : Int) (z11 : Int) (z12 : Int), I5 n7 [.slice z8 z8n z8c, .slice z9 z9n z9c, .int .i64 z10, .int .i64 z11, .int .i64 z12] h13 → ∀ _r : Nat → Value,
 ((decide (z12 < ((z8n : Nat) : Int))) = true →
 ixW z8 z8n z12 1 fun b14 o15 =>
 isP (some ⟨b14, o15, none⟩) fun b16 o17 => ∃ x18, cell? h13 ⟨b16, o17, none⟩ = some (.int .i64 x18) ∧
(1073741824 : Int) ≠ 0 ∧
 alW h13 (.cells #[.int .i64 (Int.tmod (IntKind.i64.wrap ((IntKind.i64.wrap (x18 * z10)) + z11)) (1073741824 : Int))] 3) fun r19 h20 =>
 apW h20 z9 z9n z9c (some ⟨r19, 0, none⟩) 1 1 8 3 #[.int .i64 0] fun q22 n23 c24 h21 =>
(1073741824 : Int) ≠ 0 ∧
∃ m25, m25 < n7 ∧ I5 m25 [.slice z8 z8n z8c, .slice q22 n23 c24, .int .i64 z10, .int .i64 (IntKind.i64.wrap (Int.tdiv (IntKind.i64.wrap ((IntKind.i64.wrap (x18 * z10)) + z11)) (1073741824 : Int))), .int .i64 (IntKind.i64.wrap (z12 + (1 : Int)))] h21) ∧
((decide (z12 < ((z8n : Nat) : Int))) = false →
 alW h13 (.cells #[.int .i64 z11] 3) fun r26 h27 =>
 apW h27 z9 z9n z9c (some ⟨r26, 0, none⟩) 1 1 8 3 #[.int .i64 0] fun q29 n30 c31 h28 =>
 Ent Tryz.prog B 192 #[.slice q29 n30 c31] (retE (fun v32 h33 => ∃ x36 x36n x36c, v32 = .slice x36 x36n x36c ∧
 R (.returned (.slice x36 x36n x36c)) h33)
 (fun ch34 h35 => R (.panicked ch34) h35)) h28))
def F177_L : Nat → List (Nat × TypeDesc) := fun i => match i with
  | 7 => [(0, .slice 0), (5, .slice 0), (6, .int .i64), (7, .int .i64), (8, .int .i64)]
  | _ => []
theorem F177_W (B : World) (R : Ending → Heap → Prop) (a1 : Option Addr) (a1n : Nat) (a1c : Nat) (a2 : Int) (h : Heap) : W Tryz.prog B Tryz.f177.ntmps F177_L (prune [] (codeOf Tryz.f177)) (endQ Tryz.prog Tryz.f177 R) (env0 #[.slice a1 a1n a1c, .int .i64 a2]) h = F177 B R a1 a1n a1c a2 h := by kernel_rfl
theorem F177_ok {B : World} {R : Ending → Heap → Prop} (a1 : Option Addr) (a1n : Nat) (a1c : Nat) (a2 : Int) {h : Heap} (H : F177 B R a1 a1n a1c a2 h) : Ent Tryz.prog B 177 #[.slice a1 a1n a1c, .int .i64 a2] R h :=
  Ent_of_W mixed Tryz.func177 (by kernel_rfl) (by kernel_rfl) (by kernel_rfl) F177_L [] (by rw [F177_W]; exact H)

/-- plumb/plumbref2.Add -/
def F178_j37 (B : World) (R : Ending → Heap → Prop) (I3 : Nat → List Value → Heap → Prop) (n5 : Nat) (y38 : Option Addr) (y38n : Nat) (y38c : Nat) (y39 : Option Addr) (y39n : Nat) (y39c : Nat) (y40 : Option Addr) (y40n : Nat) (y40c : Nat) (y41 : Int) (y42 : Int) (h43 : Heap) : Prop :=
  (1073741824 : Int) ≠ 0 ∧
 alW h43 (.cells #[.int .i64 (Int.tmod y42 (1073741824 : Int))] 3) fun r44 h45 =>
 apW h45 y40 y40n y40c (some ⟨r44, 0, none⟩) 1 1 8 3 #[.int .i64 0] fun q47 n48 c49 h46 =>
(1073741824 : Int) ≠ 0 ∧
∃ m50, m50 < n5 ∧ I3 m50 [.slice y38 y38n y38c, .slice y39 y39n y39c, .slice q47 n48 c49, .int .i64 (IntKind.i64.wrap (Int.tdiv y42 (1073741824 : Int))), .int .i64 (IntKind.i64.wrap (y41 + (1 : Int)))] h46
def F178_j25 (B : World) (R : Ending → Heap → Prop) (I3 : Nat → List Value → Heap → Prop) (n5 : Nat) (y26 : Option Addr) (y26n : Nat) (y26c : Nat) (y27 : Option Addr) (y27n : Nat) (y27c : Nat) (y28 : Option Addr) (y28n : Nat) (y28c : Nat) (y29 : Int) (y30 : Int) (h31 : Heap) : Prop :=
  ((decide (y29 < ((y27n : Nat) : Int))) = true →
 ixW y27 y27n y29 1 fun b32 o33 =>
 isP (some ⟨b32, o33, none⟩) fun b34 o35 => ∃ x36, cell? h31 ⟨b34, o35, none⟩ = some (.int .i64 x36) ∧
 F178_j37 B R I3 n5 y26 y26n y26c y27 y27n y27c y28 y28n y28c y29 (IntKind.i64.wrap (y30 + x36)) h31) ∧
((decide (y29 < ((y27n : Nat) : Int))) = false →
 F178_j37 B R I3 n5 y26 y26n y26c y27 y27n y27c y28 y28n y28c y29 y30 h31)
def F178_j12 (B : World) (R : Ending → Heap → Prop) (I3 : Nat → List Value → Heap → Prop) (n5 : Nat) (y13 : Option Addr) (y13n : Nat) (y13c : Nat) (y14 : Option Addr) (y14n : Nat) (y14c : Nat) (y15 : Option Addr) (y15n : Nat) (y15c : Nat) (y16 : Int) (y17 : Int) (y18 : Bool) (h19 : Heap) : Prop :=
  (y18 = true →
 ((decide (y17 < ((y13n : Nat) : Int))) = true →
 ixW y13 y13n y17 1 fun b20 o21 =>
 isP (some ⟨b20, o21, none⟩) fun b22 o23 => ∃ x24, cell? h19 ⟨b22, o23, none⟩ = some (.int .i64 x24) ∧
 F178_j25 B R I3 n5 y13 y13n y13c y14 y14n y14c y15 y15n y15c y17 (IntKind.i64.wrap (y16 + x24)) h19) ∧
((decide (y17 < ((y13n : Nat) : Int))) = false →
 F178_j25 B R I3 n5 y13 y13n y13c y14 y14n y14c y15 y15n y15c y17 y16 h19)) ∧
(y18 = false →
 R (.returned (.slice y15 y15n y15c)) h19)
def F178 (B : World) (R : Ending → Heap → Prop) (a1 : Option Addr) (a1n : Nat) (a1c : Nat) (a2 : Option Addr) (a2n : Nat) (a2c : Nat) (h : Heap) : Prop :=
  ∃ I3 : Nat → List Value → Heap → Prop, ∃ n4, I3 n4 [.slice a1 a1n a1c, .slice a2 a2n a2c, .slice none 0 0, .int .i64 (0 : Int), .int .i64 (0 : Int)] h ∧
∀ (n5 : Nat) (h11 : Heap) (z6 : Option Addr) (z6n : Nat) (z6c : Nat) (z7 : Option Addr) (z7n : Nat) (z7c : Nat) (z8 : Option Addr) (z8n : Nat) (z8c : Nat) (z9 : Int) (z10 : Int), I3 n5 [.slice z6 z6n z6c, .slice z7 z7n z7c, .slice z8 z8n z8c, .int .i64 z9, .int .i64 z10] h11 → ∀ _r : Nat → Value,
 ((decide (z10 < ((z6n : Nat) : Int))) = true →
 (true = true →
 F178_j12 B R I3 n5 z6 z6n z6c z7 z7n z7c z8 z8n z8c z9 z10 true h11) ∧
(true = false →
 F178_j12 B R I3 n5 z6 z6n z6c z7 z7n z7c z8 z8n z8c z9 z10 (decide ((0 : Int) < z9)) h11)) ∧
((decide (z10 < ((z6n : Nat) : Int))) = false →
 ((decide (z10 < ((z7n : Nat) : Int))) = true →
 F178_j12 B R I3 n5 z6 z6n z6c z7 z7n z7c z8 z8n z8c z9 z10 true h11) ∧
((decide (z10 < ((z7n : Nat) : Int))) = false →
 F178_j12 B R I3 n5 z6 z6n z6c z7 z7n z7c z8 z8n z8c z9 z10 (decide ((0 : Int) < z9)) h11))
def F178_L : Nat → List (Nat × TypeDesc) := fun i => match i with
  | 4 => [(0, .slice 0), (1, .slice 0), (5, .slice 0), (6, .int .i64), (7, .int .i64)]
  | _ => []
theorem F178_W (B : World) (R : Ending → Heap → Prop) (a1 : Option Addr) (a1n : Nat) (a1c : Nat) (a2 : Option Addr) (a2n : Nat) (a2c : Nat) (h : Heap) : W Tryz.prog B Tryz.f178.ntmps F178_L (prune [] (codeOf Tryz.f178)) (endQ Tryz.prog Tryz.f178 R) (env0 #[.slice a1 a1n a1c, .slice a2 a2n a2c]) h = F178 B R a1 a1n a1c a2 a2n a2c h := by kernel_rfl
theorem F178_ok {B : World} {R : Ending → Heap → Prop} (a1 : Option Addr) (a1n : Nat) (a1c : Nat) (a2 : Option Addr) (a2n : Nat) (a2c : Nat) {h : Heap} (H : F178 B R a1 a1n a1c a2 a2n a2c h) : Ent Tryz.prog B 178 #[.slice a1 a1n a1c, .slice a2 a2n a2c] R h :=
  Ent_of_W mixed Tryz.func178 (by kernel_rfl) (by kernel_rfl) (by kernel_rfl) F178_L [] (by rw [F178_W]; exact H)

/-- plumb/plumbref2.Cmp -/
def F179_j36 (B : World) (R : Ending → Heap → Prop) (I3 : Nat → List Value → Heap → Prop) (n5 : Nat) (y37 : Option Addr) (y37n : Nat) (y37c : Nat) (y38 : Option Addr) (y38n : Nat) (y38c : Nat) (y39 : Int) (y40 : Bool) (h41 : Heap) : Prop :=
  (y40 = true →
 R (.returned (.int .i64 (1 : Int))) h41) ∧
(y40 = false →
 ∃ m42, m42 < n5 ∧ I3 m42 [.slice y37 y37n y37c, .slice y38 y38n y38c, .int .i64 (IntKind.i64.wrap (y39 - (1 : Int)))] h41)
def F179_j20 (B : World) (R : Ending → Heap → Prop) (I3 : Nat → List Value → Heap → Prop) (n5 : Nat) (y21 : Option Addr) (y21n : Nat) (y21c : Nat) (y22 : Option Addr) (y22n : Nat) (y22c : Nat) (y23 : Int) (y24 : Bool) (h25 : Heap) : Prop :=
  (y24 = true →
 R (.returned (.int .i64 (-1 : Int))) h25) ∧
(y24 = false →
 ixW y21 y21n y23 1 fun b26 o27 =>
 isP (some ⟨b26, o27, none⟩) fun b28 o29 => ∃ x30, cell? h25 ⟨b28, o29, none⟩ = some (.int .i64 x30) ∧
 ixW y22 y22n y23 1 fun b31 o32 =>
 isP (some ⟨b31, o32, none⟩) fun b33 o34 => ∃ x35, cell? h25 ⟨b33, o34, none⟩ = some (.int .i64 x35) ∧
 F179_j36 B R I3 n5 y21 y21n y21c y22 y22n y22c y23 (decide (x35 < x30)) h25)
def F179 (B : World) (R : Ending → Heap → Prop) (a1 : Option Addr) (a1n : Nat) (a1c : Nat) (a2 : Option Addr) (a2n : Nat) (a2c : Nat) (h : Heap) : Prop :=
  ((!decide (((a1n : Nat) : Int) = ((a2n : Nat) : Int))) = true →
 ((decide (((a1n : Nat) : Int) < ((a2n : Nat) : Int))) = true →
 R (.returned (.int .i64 (-1 : Int))) h) ∧
((decide (((a1n : Nat) : Int) < ((a2n : Nat) : Int))) = false →
 R (.returned (.int .i64 (1 : Int))) h)) ∧
((!decide (((a1n : Nat) : Int) = ((a2n : Nat) : Int))) = false →
 ∃ I3 : Nat → List Value → Heap → Prop, ∃ n4, I3 n4 [.slice a1 a1n a1c, .slice a2 a2n a2c, .int .i64 (IntKind.i64.wrap (((a1n : Nat) : Int) - (1 : Int)))] h ∧
∀ (n5 : Nat) (h9 : Heap) (z6 : Option Addr) (z6n : Nat) (z6c : Nat) (z7 : Option Addr) (z7n : Nat) (z7c : Nat) (z8 : Int), I3 n5 [.slice z6 z6n z6c, .slice z7 z7n z7c, .int .i64 z8] h9 → ∀ _r : Nat → Value,
 ((decide ((0 : Int) ≤ z8)) = true →
 ixW z6 z6n z8 1 fun b10 o11 =>
 isP (some ⟨b10, o11, none⟩) fun b12 o13 => ∃ x14, cell? h9 ⟨b12, o13, none⟩ = some (.int .i64 x14) ∧
 ixW z7 z7n z8 1 fun b15 o16 =>
 isP (some ⟨b15, o16, none⟩) fun b17 o18 => ∃ x19, cell? h9 ⟨b17, o18, none⟩ = some (.int .i64 x19) ∧
 F179_j20 B R I3 n5 z6 z6n z6c z7 z7n z7c z8 (decide (x14 < x19)) h9) ∧
((decide ((0 : Int) ≤ z8)) = false →
 R (.returned (.int .i64 (0 : Int))) h9))
def F179_L : Nat → List (Nat × TypeDesc) := fun i => match i with
  | 6 => [(0, .slice 0), (1, .slice 0), (5, .int .i64)]
  | _ => []
theorem F179_W (B : World) (R : Ending → Heap → Prop) (a1 : Option Addr) (a1n : Nat) (a1c : Nat) (a2 : Option Addr) (a2n : Nat) (a2c : Nat) (h : Heap) : W Tryz.prog B Tryz.f179.ntmps F179_L (prune [] (codeOf Tryz.f179)) (endQ Tryz.prog Tryz.f179 R) (env0 #[.slice a1 a1n a1c, .slice a2 a2n a2c]) h = F179 B R a1 a1n a1c a2 a2n a2c h := by kernel_rfl
theorem F179_ok {B : World} {R : Ending → Heap → Prop} (a1 : Option Addr) (a1n : Nat) (a1c : Nat) (a2 : Option Addr) (a2n : Nat) (a2c : Nat) {h : Heap} (H : F179 B R a1 a1n a1c a2 a2n a2c h) : Ent Tryz.prog B 179 #[.slice a1 a1n a1c, .slice a2 a2n a2c] R h :=
  Ent_of_W mixed Tryz.func179 (by kernel_rfl) (by kernel_rfl) (by kernel_rfl) F179_L [] (by rw [F179_W]; exact H)

/-- plumb/plumbref2.Sub -/
def F180_j29 (B : World) (R : Ending → Heap → Prop) (I3 : Nat → List Value → Heap → Prop) (n5 : Nat) (y30 : Option Addr) (y30n : Nat) (y30c : Nat) (y31 : Option Addr) (y31n : Nat) (y31c : Nat) (y32 : Option Addr) (y32n : Nat) (y32c : Nat) (y33 : Int) (y34 : Int) (y35 : Int) (h36 : Heap) : Prop :=
  alW h36 (.cells #[.int .i64 y35] 3) fun r37 h38 =>
 apW h38 y32 y32n y32c (some ⟨r37, 0, none⟩) 1 1 8 3 #[.int .i64 0] fun q40 n41 c42 h39 =>
∃ m43, m43 < n5 ∧ I3 m43 [.slice y30 y30n y30c, .slice y31 y31n y31c, .slice q40 n41 c42, .int .i64 y33, .int .i64 (IntKind.i64.wrap (y34 + (1 : Int)))] h39
def F180_j22 (B : World) (R : Ending → Heap → Prop) (I3 : Nat → List Value → Heap → Prop) (n5 : Nat) (y23 : Option Addr) (y23n : Nat) (y23c : Nat) (y24 : Option Addr) (y24n : Nat) (y24c : Nat) (y25 : Option Addr) (y25n : Nat) (y25c : Nat) (y26 : Int) (y27 : Int) (h28 : Heap) : Prop :=
  ((decide (y27 < (0 : Int))) = true →
 F180_j29 B R I3 n5 y23 y23n y23c y24 y24n y24c y25 y25n y25c (1 : Int) y26 (IntKind.i64.wrap (y27 + (1073741824 : Int))) h28) ∧
((decide (y27 < (0 : Int))) = false →
 F180_j29 B R I3 n5 y23 y23n y23c y24 y24n y24c y25 y25n y25c (0 : Int) y26 y27 h28)
def F180 (B : World) (R : Ending → Heap → Prop) (a1 : Option Addr) (a1n : Nat) (a1c : Nat) (a2 : Option Addr) (a2n : Nat) (a2c : Nat) (h : Heap) : Prop :=
  ∃ I3 : Nat → List Value → Heap → Prop, ∃ n4, I3 n4 [.slice a1 a1n a1c, .slice a2 a2n a2c, .slice none 0 0, .int .i64 (0 : Int), .int .i64 (0 : Int)] h ∧
∀ (n5 : Nat) (h11 : Heap) (z6 : Option Addr) (z6n : Nat) (z6c : Nat) (z7 : Option Addr) (z7n : Nat) (z7c : Nat) (z8 : Option Addr) (z8n : Nat) (z8c : Nat) (z9 : Int) (z10 : Int), I3 n5 [.slice z6 z6n z6c, .slice z7 z7n z7c, .slice z8 z8n z8c, .int .i64 z9, .int .i64 z10] h11 → ∀ _r : Nat → Value,
 ((decide (z10 < ((z6n : Nat) : Int))) = true →
 ixW z6 z6n z10 1 fun b12 o13 =>
 isP (some ⟨b12, o13, none⟩) fun b14 o15 => ∃ x16, cell? h11 ⟨b14, o15, none⟩ = some (.int .i64 x16) ∧
((decide (z10 < ((z7n : Nat) : Int))) = true →
 ixW z7 z7n z10 1 fun b17 o18 =>
 isP (some ⟨b17, o18, none⟩) fun b19 o20 => ∃ x21, cell? h11 ⟨b19, o20, none⟩ = some (.int .i64 x21) ∧
 F180_j22 B R I3 n5 z6 z6n z6c z7 z7n z7c z8 z8n z8c z10 (IntKind.i64.wrap ((IntKind.i64.wrap (x16 - z9)) - x21)) h11) ∧
((decide (z10 < ((z7n : Nat) : Int))) = false →
 F180_j22 B R I3 n5 z6 z6n z6c z7 z7n z7c z8 z8n z8c z10 (IntKind.i64.wrap (x16 - z9)) h11)) ∧
((decide (z10 < ((z6n : Nat) : Int))) = false →
 Ent Tryz.prog B 192 #[.slice z8 z8n z8c] (retE (fun v44 h45 => ∃ x48 x48n x48c, v44 = .slice x48 x48n x48c ∧
 R (.returned (.slice x48 x48n x48c)) h45)
 (fun ch46 h47 => R (.panicked ch46) h47)) h11)
def F180_L : Nat → List (Nat × TypeDesc) := fun i => match i with
  | 4 => [(0, .slice 0), (1, .slice 0), (5, .slice 0), (6, .int .i64), (7, .int .i64)]
  | _ => []
theorem F180_W (B : World) (R : Ending → Heap → Prop) (a1 : Option Addr) (a1n : Nat) (a1c : Nat) (a2 : Option Addr) (a2n : Nat) (a2c : Nat) (h : Heap) : W Tryz.prog B Tryz.f180.ntmps F180_L (prune [] (codeOf Tryz.f180)) (endQ Tryz.prog Tryz.f180 R) (env0 #[.slice a1 a1n a1c, .slice a2 a2n a2c]) h = F180 B R a1 a1n a1c a2 a2n a2c h := by kernel_rfl
theorem F180_ok {B : World} {R : Ending → Heap → Prop} (a1 : Option Addr) (a1n : Nat) (a1c : Nat) (a2 : Option Addr) (a2n : Nat) (a2c : Nat) {h : Heap} (H : F180 B R a1 a1n a1c a2 a2n a2c h) : Ent Tryz.prog B 180 #[.slice a1 a1n a1c, .slice a2 a2n a2c] R h :=
  Ent_of_W mixed Tryz.func180 (by kernel_rfl) (by kernel_rfl) (by kernel_rfl) F180_L [] (by rw [F180_W]; exact H)

/-- plumb/plumbref4.K64 -/
def F186 (B : World) (R : Ending → Heap → Prop) (h : Heap) : Prop :=
  alW h (.cells #[.int .i64 0, .int .i64 0, .int .i64 0, .int .i64 0, .int .i64 0] 166) fun r1 h2 =>
 isP (some ⟨r1, 0, none⟩) fun b3 o4 => stC h2 b3 o4 (.int .i64 (53 : Int)) fun h5 =>
 stC h5 b3 (o4 + 1) (.int .i64 (-1074 : Int)) fun h6 =>
 stC h6 b3 (o4 + 1 + 1) (.int .i64 (1024 : Int)) fun h7 =>
 stC h7 b3 (o4 + 1 + 1 + 1) (.int .i64 (9218868437227405312 : Int)) fun h8 =>
 stC h8 b3 (o4 + 1 + 1 + 1 + 1) (.int .i64 (-9223372036854775808 : Int)) fun h9 =>
 isP (some ⟨r1, 0, none⟩) fun b10 o11 =>
∃ x12, cell? h9 ⟨b10, o11, none⟩ = some (.int .i64 x12) ∧
∃ x13, cell? h9 ⟨b10, o11 + 1, none⟩ = some (.int .i64 x13) ∧
∃ x14, cell? h9 ⟨b10, o11 + 1 + 1, none⟩ = some (.int .i64 x14) ∧
∃ x15, cell? h9 ⟨b10, o11 + 1 + 1 + 1, none⟩ = some (.int .i64 x15) ∧
∃ x16, cell? h9 ⟨b10, o11 + 1 + 1 + 1 + 1, none⟩ = some (.int .i64 x16) ∧
 R (.returned (.agg #[.int .i64 x12, .int .i64 x13, .int .i64 x14, .int .i64 x15, .int .i64 x16])) h9
def F186_L : Nat → List (Nat × TypeDesc) := fun _ => []
theorem F186_W (B : World) (R : Ending → Heap → Prop) (h : Heap) : W Tryz.prog B Tryz.f186.ntmps F186_L (prune [] (codeOf Tryz.f186)) (endQ Tryz.prog Tryz.f186 R) (env0 #[]) h = F186 B R h := by kernel_rfl
theorem F186_ok {B : World} {R : Ending → Heap → Prop} {h : Heap} (H : F186 B R h) : Ent Tryz.prog B 186 #[] R h :=
  Ent_of_W mixed Tryz.func186 (by kernel_rfl) (by kernel_rfl) (by kernel_rfl) F186_L [] (by rw [F186_W]; exact H)

/-- (plumb/plumbref4.Kind).Add -/
def F187_j57 (B : World) (R : Ending → Heap → Prop) (y58 : Int) (h59 : Heap) : Prop :=
  R (.returned (.int .i64 y58)) h59
def F187 (B : World) (R : Ending → Heap → Prop) (a1 : Int) (a2 : Int) (a3 : Int) (a4 : Int) (a5 : Int) (a6 : Int) (a7 : Int) (a8 : Int) (h : Heap) : Prop :=
  alW h (.cells #[.int .i64 a1, .int .i64 a2, .int .i64 a3, .int .i64 a4, .int .i64 a5] 166) fun r9 h10 =>
 isP (some ⟨r9, 0, none⟩) fun b11 o12 =>
∃ x13, cell? h10 ⟨b11, o12, none⟩ = some (.int .i64 x13) ∧
∃ x14, cell? h10 ⟨b11, o12 + 1, none⟩ = some (.int .i64 x14) ∧
∃ x15, cell? h10 ⟨b11, o12 + 1 + 1, none⟩ = some (.int .i64 x15) ∧
∃ x16, cell? h10 ⟨b11, o12 + 1 + 1 + 1, none⟩ = some (.int .i64 x16) ∧
∃ x17, cell? h10 ⟨b11, o12 + 1 + 1 + 1 + 1, none⟩ = some (.int .i64 x17) ∧
 isP (some ⟨r9, 0, none⟩) fun b18 o19 =>
∃ x20, cell? h10 ⟨b18, o19, none⟩ = some (.int .i64 x20) ∧
∃ x21, cell? h10 ⟨b18, o19 + 1, none⟩ = some (.int .i64 x21) ∧
∃ x22, cell? h10 ⟨b18, o19 + 1 + 1, none⟩ = some (.int .i64 x22) ∧
∃ x23, cell? h10 ⟨b18, o19 + 1 + 1 + 1, none⟩ = some (.int .i64 x23) ∧
∃ x24, cell? h10 ⟨b18, o19 + 1 + 1 + 1 + 1, none⟩ = some (.int .i64 x24) ∧
 isP (some ⟨r9, 0, none⟩) fun b25 o26 =>
∃ x27, cell? h10 ⟨b25, o26, none⟩ = some (.int .i64 x27) ∧
∃ x28, cell? h10 ⟨b25, o26 + 1, none⟩ = some (.int .i64 x28) ∧
∃ x29, cell? h10 ⟨b25, o26 + 1 + 1, none⟩ = some (.int .i64 x29) ∧
∃ x30, cell? h10 ⟨b25, o26 + 1 + 1 + 1, none⟩ = some (.int .i64 x30) ∧
∃ x31, cell? h10 ⟨b25, o26 + 1 + 1 + 1 + 1, none⟩ = some (.int .i64 x31) ∧
 Ent Tryz.prog B 210 #[.agg #[.int .i64 x20, .int .i64 x21, .int .i64 x22, .int .i64 x23, .int .i64 x24], .int .i64 a6] (retE (fun v32 h33 => ∃ x36 x37 x38 x39 x40 x40n x40c x41, v32 = .agg #[.bool x36, .bool x37, .bool x38, .bool x39, .slice x40 x40n x40c, .int .i64 x41] ∧
 sameCells h10 h33 b25 o26 5 ∧ sameCells h10 h33 b11 o12 5 ∧ Ent Tryz.prog B 210 #[.agg #[.int .i64 x27, .int .i64 x28, .int .i64 x29, .int .i64 x30, .int .i64 x31], .int .i64 a7] (retE (fun v42 h43 => ∃ x46 x47 x48 x49 x50 x50n x50c x51, v42 = .agg #[.bool x46, .bool x47, .bool x48, .bool x49, .slice x50 x50n x50c, .int .i64 x51] ∧
 sameCells h33 h43 b11 o12 5 ∧ Ent Tryz.prog B 209 #[.agg #[.int .i64 x13, .int .i64 x14, .int .i64 x15, .int .i64 x16, .int .i64 x17], .agg #[.bool x36, .bool x37, .bool x38, .bool x39, .slice x40 x40n x40c, .int .i64 x41], .agg #[.bool x46, .bool x47, .bool x48, .bool x49, .slice x50 x50n x50c, .int .i64 x51], .int .i64 a8] (retE (fun v52 h53 => ∃ x56, v52 = .int .i64 x56 ∧
 F187_j57 B R x56 h53)
 (fun _ _ => False)) h43)
 (fun _ _ => False)) h33)
 (fun _ _ => False)) h10
def F187_L : Nat → List (Nat × TypeDesc) := fun _ => []
theorem F187_W (B : World) (R : Ending → Heap → Prop) (a1 : Int) (a2 : Int) (a3 : Int) (a4 : Int) (a5 : Int) (a6 : Int) (a7 : Int) (a8 : Int) (h : Heap) : W Tryz.prog B Tryz.f187.ntmps F187_L (prune [] (codeOf Tryz.f187)) (endQ Tryz.prog Tryz.f187 R) (env0 #[.agg #[.int .i64 a1, .int .i64 a2, .int .i64 a3, .int .i64 a4, .int .i64 a5], .int .i64 a6, .int .i64 a7, .int .i64 a8]) h = F187 B R a1 a2 a3 a4 a5 a6 a7 a8 h := by kernel_rfl
theorem F187_ok {B : World} {R : Ending → Heap → Prop} (a1 : Int) (a2 : Int) (a3 : Int) (a4 : Int) (a5 : Int) (a6 : Int) (a7 : Int) (a8 : Int) {h : Heap} (H : F187 B R a1 a2 a3 a4 a5 a6 a7 a8 h) : Ent Tryz.prog B 187 #[.agg #[.int .i64 a1, .int .i64 a2, .int .i64 a3, .int .i64 a4, .int .i64 a5], .int .i64 a6, .int .i64 a7, .int .i64 a8] R h :=
  Ent_of_W mixed Tryz.func187 (by kernel_rfl) (by kernel_rfl) (by kernel_rfl) F187_L [] (by rw [F187_W]; exact H)

/-- (plumb/plumbref4.Kind).Mul -/
def F188_j67 (B : World) (R : Ending → Heap → Prop) (y68 : Int) (h69 : Heap) : Prop :=
  R (.returned (.int .i64 y68)) h69
def F188 (B : World) (R : Ending → Heap → Prop) (a1 : Int) (a2 : Int) (a3 : Int) (a4 : Int) (a5 : Int) (a6 : Int) (a7 : Int) (a8 : Int) (h : Heap) : Prop :=
  alW h (.cells #[.int .i64 a1, .int .i64 a2, .int .i64 a3, .int .i64 a4, .int .i64 a5] 166) fun r9 h10 =>
 isP (some ⟨r9, 0, none⟩) fun b11 o12 =>
∃ x13, cell? h10 ⟨b11, o12, none⟩ = some (.int .i64 x13) ∧
∃ x14, cell? h10 ⟨b11, o12 + 1, none⟩ = some (.int .i64 x14) ∧
∃ x15, cell? h10 ⟨b11, o12 + 1 + 1, none⟩ = some (.int .i64 x15) ∧
∃ x16, cell? h10 ⟨b11, o12 + 1 + 1 + 1, none⟩ = some (.int .i64 x16) ∧
∃ x17, cell? h10 ⟨b11, o12 + 1 + 1 + 1 + 1, none⟩ = some (.int .i64 x17) ∧
 isP (some ⟨r9, 0, none⟩) fun b18 o19 =>
∃ x20, cell? h10 ⟨b18, o19, none⟩ = some (.int .i64 x20) ∧
∃ x21, cell? h10 ⟨b18, o19 + 1, none⟩ = some (.int .i64 x21) ∧
∃ x22, cell? h10 ⟨b18, o19 + 1 + 1, none⟩ = some (.int .i64 x22) ∧
∃ x23, cell? h10 ⟨b18, o19 + 1 + 1 + 1, none⟩ = some (.int .i64 x23) ∧
∃ x24, cell? h10 ⟨b18, o19 + 1 + 1 + 1 + 1, none⟩ = some (.int .i64 x24) ∧
 isP (some ⟨r9, 0, none⟩) fun b25 o26 =>
∃ x27, cell? h10 ⟨b25, o26, none⟩ = some (.int .i64 x27) ∧
∃ x28, cell? h10 ⟨b25, o26 + 1, none⟩ = some (.int .i64 x28) ∧
∃ x29, cell? h10 ⟨b25, o26 + 1 + 1, none⟩ = some (.int .i64 x29) ∧
∃ x30, cell? h10 ⟨b25, o26 + 1 + 1 + 1, none⟩ = some (.int .i64 x30) ∧
∃ x31, cell? h10 ⟨b25, o26 + 1 + 1 + 1 + 1, none⟩ = some (.int .i64 x31) ∧
 Ent Tryz.prog B 210 #[.agg #[.int .i64 x20, .int .i64 x21, .int .i64 x22, .int .i64 x23, .int .i64 x24], .int .i64 a6] (retE (fun v32 h33 => ∃ x36 x37 x38 x39 x40 x40n x40c x41, v32 = .agg #[.bool x36, .bool x37, .bool x38, .bool x39, .slice x40 x40n x40c, .int .i64 x41] ∧
 sameCells h10 h33 b25 o26 5 ∧ sameCells h10 h33 b11 o12 5 ∧ Ent Tryz.prog B 210 #[.agg #[.int .i64 x27, .int .i64 x28, .int .i64 x29, .int .i64 x30, .int .i64 x31], .int .i64 a7] (retE (fun v42 h43 => ∃ x46 x47 x48 x49 x50 x50n x50c x51, v42 = .agg #[.bool x46, .bool x47, .bool x48, .bool x49, .slice x50 x50n x50c, .int .i64 x51] ∧
 sameCells h33 h43 b11 o12 5 ∧ Ent Tryz.prog B 212 #[.agg #[.bool x36, .bool x37, .bool x38, .bool x39, .slice x40 x40n x40c, .int .i64 x41], .agg #[.bool x46, .bool x47, .bool x48, .bool x49, .slice x50 x50n x50c, .int .i64 x51]] (retE (fun v52 h53 => ∃ x56 x57 x58 x59 x60 x60n x60c x61, v52 = .agg #[.bool x56, .bool x57, .bool x58, .bool x59, .slice x60 x60n x60c, .int .i64 x61] ∧
 sameCells h43 h53 b11 o12 5 ∧ Ent Tryz.prog B 211 #[.agg #[.int .i64 x13, .int .i64 x14, .int .i64 x15, .int .i64 x16, .int .i64 x17], .agg #[.bool x56, .bool x57, .bool x58, .bool x59, .slice x60 x60n x60c, .int .i64 x61], .int .i64 a8] (retE (fun v62 h63 => ∃ x66, v62 = .int .i64 x66 ∧
 F188_j67 B R x66 h63)
 (fun _ _ => False)) h53)
 (fun _ _ => False)) h43)
 (fun _ _ => False)) h33)
 (fun _ _ => False)) h10
def F188_L : Nat → List (Nat × TypeDesc) := fun _ => []
theorem F188_W (B : World) (R : Ending → Heap → Prop) (a1 : Int) (a2 : Int) (a3 : Int) (a4 : Int) (a5 : Int) (a6 : Int) (a7 : Int) (a8 : Int) (h : Heap) : W Tryz.prog B Tryz.f188.ntmps F188_L (prune [] (codeOf Tryz.f188)) (endQ Tryz.prog Tryz.f188 R) (env0 #[.agg #[.int .i64 a1, .int .i64 a2, .int .i64 a3, .int .i64 a4, .int .i64 a5], .int .i64 a6, .int .i64 a7, .int .i64 a8]) h = F188 B R a1 a2 a3 a4 a5 a6 a7 a8 h := by kernel_rfl
theorem F188_ok {B : World} {R : Ending → Heap → Prop} (a1 : Int) (a2 : Int) (a3 : Int) (a4 : Int) (a5 : Int) (a6 : Int) (a7 : Int) (a8 : Int) {h : Heap} (H : F188 B R a1 a2 a3 a4 a5 a6 a7 a8 h) : Ent Tryz.prog B 188 #[.agg #[.int .i64 a1, .int .i64 a2, .int .i64 a3, .int .i64 a4, .int .i64 a5], .int .i64 a6, .int .i64 a7, .int .i64 a8] R h :=
  Ent_of_W mixed Tryz.func188 (by kernel_rfl) (by kernel_rfl) (by kernel_rfl) F188_L [] (by rw [F188_W]; exact H)

/-- (plumb/plumbref4.Kind).Sub -/
def F189_j106 (B : World) (R : Ending → Heap → Prop) (y107 : Int) (h108 : Heap) : Prop :=
  R (.returned (.int .i64 y107)) h108
def F189 (B : World) (R : Ending → Heap → Prop) (a1 : Int) (a2 : Int) (a3 : Int) (a4 : Int) (a5 : Int) (a6 : Int) (a7 : Int) (a8 : Int) (h : Heap) : Prop :=
  alW h (.cells #[.int .i64 a1, .int .i64 a2, .int .i64 a3, .int .i64 a4, .int .i64 a5] 166) fun r9 h10 =>
 isP (some ⟨r9, 0, none⟩) fun b11 o12 =>
∃ x13, cell? h10 ⟨b11, o12, none⟩ = some (.int .i64 x13) ∧
∃ x14, cell? h10 ⟨b11, o12 + 1, none⟩ = some (.int .i64 x14) ∧
∃ x15, cell? h10 ⟨b11, o12 + 1 + 1, none⟩ = some (.int .i64 x15) ∧
∃ x16, cell? h10 ⟨b11, o12 + 1 + 1 + 1, none⟩ = some (.int .i64 x16) ∧
∃ x17, cell? h10 ⟨b11, o12 + 1 + 1 + 1 + 1, none⟩ = some (.int .i64 x17) ∧
 Ent Tryz.prog B 210 #[.agg #[.int .i64 x13, .int .i64 x14, .int .i64 x15, .int .i64 x16, .int .i64 x17], .int .i64 a7] (retE (fun v18 h19 => ∃ x22 x23 x24 x25 x26 x26n x26c x27, v18 = .agg #[.bool x22, .bool x23, .bool x24, .bool x25, .slice x26 x26n x26c, .int .i64 x27] ∧
 alW h19 (.cells #[.bool false, .bool false, .bool false, .bool false, .slice none 0 0, .int .i64 0] 182) fun r28 h29 =>
 isP (some ⟨r28, 0, none⟩) fun b30 o31 => stC h29 b30 o31 (.bool x22) fun h32 =>
 stC h32 b30 (o31 + 1) (.bool x23) fun h33 =>
 stC h33 b30 (o31 + 1 + 1) (.bool x24) fun h34 =>
 stC h34 b30 (o31 + 1 + 1 + 1) (.bool x25) fun h35 =>
 stC h35 b30 (o31 + 1 + 1 + 1 + 1) (.slice x26 x26n x26c) fun h36 =>
 stC h36 b30 (o31 + 1 + 1 + 1 + 1 + 1) (.int .i64 x27) fun h37 =>
 isP (some ⟨r28, 0, none⟩) fun b38 o39 =>
 isP (some ⟨b38, o39, none⟩) fun b40 o41 => ∃ x42, cell? h37 ⟨b40, o41, none⟩ = some (.bool x42) ∧
 isP (some ⟨r28, 0, none⟩) fun b43 o44 =>
 isP (some ⟨b43, o44, none⟩) fun b45 o46 => stC h37 b45 o46 (.bool (!x42)) fun h47 =>
 isP (some ⟨r28, 0, none⟩) fun b48 o49 =>
 isP (some ⟨b48, o49 + 3, none⟩) fun b50 o51 =>
∃ x52, cell? h47 ⟨b50, o51, none⟩ = some (.bool x52) ∧
∃ x53 x53n x53c, cell? h47 ⟨b50, o51 + 1, none⟩ = some (.slice x53 x53n x53c) ∧
∃ x54, cell? h47 ⟨b50, o51 + 1 + 1, none⟩ = some (.int .i64 x54) ∧
 Ent Tryz.prog B 213 #[.agg #[.bool x52, .slice x53 x53n x53c, .int .i64 x54]] (retE (fun v55 h56 => ∃ x59 x60 x60n x60c x61, v55 = .agg #[.bool x59, .slice x60 x60n x60c, .int .i64 x61] ∧
 isP (some ⟨r28, 0, none⟩) fun b62 o63 =>
 isP (some ⟨b62, o63 + 3, none⟩) fun b64 o65 => stC h56 b64 o65 (.bool x59) fun h66 =>
 stC h66 b64 (o65 + 1) (.slice x60 x60n x60c) fun h67 =>
 stC h67 b64 (o65 + 1 + 1) (.int .i64 x61) fun h68 =>
 isP (some ⟨r9, 0, none⟩) fun b69 o70 =>
∃ x71, cell? h68 ⟨b69, o70, none⟩ = some (.int .i64 x71) ∧
∃ x72, cell? h68 ⟨b69, o70 + 1, none⟩ = some (.int .i64 x72) ∧
∃ x73, cell? h68 ⟨b69, o70 + 1 + 1, none⟩ = some (.int .i64 x73) ∧
∃ x74, cell? h68 ⟨b69, o70 + 1 + 1 + 1, none⟩ = some (.int .i64 x74) ∧
∃ x75, cell? h68 ⟨b69, o70 + 1 + 1 + 1 + 1, none⟩ = some (.int .i64 x75) ∧
 isP (some ⟨r9, 0, none⟩) fun b76 o77 =>
∃ x78, cell? h68 ⟨b76, o77, none⟩ = some (.int .i64 x78) ∧
∃ x79, cell? h68 ⟨b76, o77 + 1, none⟩ = some (.int .i64 x79) ∧
∃ x80, cell? h68 ⟨b76, o77 + 1 + 1, none⟩ = some (.int .i64 x80) ∧
∃ x81, cell? h68 ⟨b76, o77 + 1 + 1 + 1, none⟩ = some (.int .i64 x81) ∧
∃ x82, cell? h68 ⟨b76, o77 + 1 + 1 + 1 + 1, none⟩ = some (.int .i64 x82) ∧
 isP (some ⟨r28, 0, none⟩) fun b83 o84 =>
∃ x85, cell? h68 ⟨b83, o84, none⟩ = some (.bool x85) ∧
∃ x86, cell? h68 ⟨b83, o84 + 1, none⟩ = some (.bool x86) ∧
∃ x87, cell? h68 ⟨b83, o84 + 1 + 1, none⟩ = some (.bool x87) ∧
∃ x88, cell? h68 ⟨b83, o84 + 1 + 1 + 1, none⟩ = some (.bool x88) ∧
∃ x89 x89n x89c, cell? h68 ⟨b83, o84 + 1 + 1 + 1 + 1, none⟩ = some (.slice x89 x89n x89c) ∧
∃ x90, cell? h68 ⟨b83, o84 + 1 + 1 + 1 + 1 + 1, none⟩ = some (.int .i64 x90) ∧
 Ent Tryz.prog B 210 #[.agg #[.int .i64 x78, .int .i64 x79, .int .i64 x80, .int .i64 x81, .int .i64 x82], .int .i64 a6] (retE (fun v91 h92 => ∃ x95 x96 x97 x98 x99 x99n x99c x100, v91 = .agg #[.bool x95, .bool x96, .bool x97, .bool x98, .slice x99 x99n x99c, .int .i64 x100] ∧
 sameCells h68 h92 b83 o84 6 ∧ sameCells h68 h92 b69 o70 5 ∧ Ent Tryz.prog B 209 #[.agg #[.int .i64 x71, .int .i64 x72, .int .i64 x73, .int .i64 x74, .int .i64 x75], .agg #[.bool x95, .bool x96, .bool x97, .bool x98, .slice x99 x99n x99c, .int .i64 x100], .agg #[.bool x85, .bool x86, .bool x87, .bool x88, .slice x89 x89n x89c, .int .i64 x90], .int .i64 a8] (retE (fun v101 h102 => ∃ x105, v101 = .int .i64 x105 ∧
 F189_j106 B R x105 h102)
 (fun _ _ => False)) h92)
 (fun _ _ => False)) h68)
 (fun ch57 h58 => R (.panicked ch57) h58)) h47)
 (fun ch20 h21 => R (.panicked ch20) h21)) h10
def F189_L : Nat → List (Nat × TypeDesc) := fun _ => []
theorem F189_W (B : World) (R : Ending → Heap → Prop) (a1 : Int) (a2 : Int) (a3 : Int) (a4 : Int) (a5 : Int) (a6 : Int) (a7 : Int) (a8 : Int) (h : Heap) : W Tryz.prog B Tryz.f189.ntmps F189_L (prune [] (codeOf Tryz.f189)) (endQ Tryz.prog Tryz.f189 R) (env0 #[.agg #[.int .i64 a1, .int .i64 a2, .int .i64 a3, .int .i64 a4, .int .i64 a5], .int .i64 a6, .int .i64 a7, .int .i64 a8]) h = F189 B R a1 a2 a3 a4 a5 a6 a7 a8 h := by kernel_rfl
theorem F189_ok {B : World} {R : Ending → Heap → Prop} (a1 : Int) (a2 : Int) (a3 : Int) (a4 : Int) (a5 : Int) (a6 : Int) (a7 : Int) (a8 : Int) {h : Heap} (H : F189 B R a1 a2 a3 a4 a5 a6 a7 a8 h) : Ent Tryz.prog B 189 #[.agg #[.int .i64 a1, .int .i64 a2, .int .i64 a3, .int .i64 a4, .int .i64 a5], .int .i64 a6, .int .i64 a7, .int .i64 a8] R h :=
  Ent_of_W mixed Tryz.func189 (by kernel_rfl) (by kernel_rfl) (by kernel_rfl) F189_L [] (by rw [F189_W]; exact H)

/-- plumb/plumbref2.Low -/
def F190 (B : World) (R : Ending → Heap → Prop) (a1 : Option Addr) (a1n : Nat) (a1c : Nat) (h : Heap) : Prop :=
  ∃ I2 : Nat → List Value → Heap → Prop, ∃ n3, I2 n3 [.slice a1 a1n a1c, .int .i64 (0 : Int)] h ∧
∀ (n4 : Nat) (h7 : Heap) (z5 : Option Addr) (z5n : Nat) (z5c : Nat) (z6 : Int), I2 n4 [.slice z5 z5n z5c, .int .i64 z6] h7 → ∀ _r : Nat → Value,
 ((decide (z6 < ((z5n : Nat) : Int))) = true →
 ixW z5 z5n z6 1 fun b8 o9 =>
 isP (some ⟨b8, o9, none⟩) fun b10 o11 => ∃ x12, cell? h7 ⟨b10, o11, none⟩ = some (.int .i64 x12) ∧
((!decide (x12 = (0 : Int))) = true →
 ixW z5 z5n z6 1 fun b13 o14 =>
 isP (some ⟨b13, o14, none⟩) fun b15 o16 => ∃ x17, cell? h7 ⟨b15, o16, none⟩ = some (.int .i64 x17) ∧
∃ I18 : Nat → List Value → Heap → Prop, ∃ n19, I18 n19 [.int .i64 (IntKind.i64.wrap ((30 : Int) * z6)), .int .i64 x17] h7 ∧
∀ (n20 : Nat) (h23 : Heap) (z21 : Int) (z22 : Int), I18 n20 [.int .i64 z21, .int .i64 z22] h23 → ∀ _r : Nat → Value,
 (2 : Int) ≠ 0 ∧
((decide ((Int.tmod z22 (2 : Int)) = (0 : Int))) = true →
 (2 : Int) ≠ 0 ∧
∃ m24, m24 < n20 ∧ I18 m24 [.int .i64 (IntKind.i64.wrap (z21 + (1 : Int))), .int .i64 (IntKind.i64.wrap (Int.tdiv z22 (2 : Int)))] h23) ∧
((decide ((Int.tmod z22 (2 : Int)) = (0 : Int))) = false →
 R (.returned (.int .i64 z21)) h23)) ∧
((!decide (x12 = (0 : Int))) = false →
 ∃ m25, m25 < n4 ∧ I2 m25 [.slice z5 z5n z5c, .int .i64 (IntKind.i64.wrap (z6 + (1 : Int)))] h7)) ∧
((decide (z6 < ((z5n : Nat) : Int))) = false →
 R (.returned (.int .i64 (-1 : Int))) h7)
def F190_L : Nat → List (Nat × TypeDesc) := fun i => match i with
  | 2 => [(0, .slice 0), (3, .int .i64)]
  | 7 => [(4, .int .i64), (5, .int .i64)]
  | _ => []
theorem F190_W (B : World) (R : Ending → Heap → Prop) (a1 : Option Addr) (a1n : Nat) (a1c : Nat) (h : Heap) : W Tryz.prog B Tryz.f190.ntmps F190_L (prune [] (codeOf Tryz.f190)) (endQ Tryz.prog Tryz.f190 R) (env0 #[.slice a1 a1n a1c]) h = F190 B R a1 a1n a1c h := by kernel_rfl
theorem F190_ok {B : World} {R : Ending → Heap → Prop} (a1 : Option Addr) (a1n : Nat) (a1c : Nat) {h : Heap} (H : F190 B R a1 a1n a1c h) : Ent Tryz.prog B 190 #[.slice a1 a1n a1c] R h :=
  Ent_of_W mixed Tryz.func190 (by kernel_rfl) (by kernel_rfl) (by kernel_rfl) F190_L [] (by rw [F190_W]; exact H)

/-- plumb/plumbref2.Shr -/
def F191_j28 (B : World) (R : Ending → Heap → Prop) (I3 : Nat → List Value → Heap → Prop) (n5 : Nat) (y29 : Option Addr) (y29n : Nat) (y29c : Nat) (y30 : Option Addr) (y30n : Nat) (y30c : Nat) (y31 : Int) (y32 : Int) (y33 : Int) (h34 : Heap) : Prop :=
  alW h34 (.cells #[.int .i64 y33] 3) fun r35 h36 =>
 apW h36 y30 y30n y30c (some ⟨r35, 0, none⟩) 1 1 8 3 #[.int .i64 0] fun q38 n39 c40 h37 =>
∃ m41, m41 < n5 ∧ I3 m41 [.slice y29 y29n y29c, .slice q38 n39 c40, .int .i64 y31, .int .i64 (IntKind.i64.wrap (y32 + (1 : Int)))] h37
def F191_j21 (B : World) (R : Ending → Heap → Prop) (I3 : Nat → List Value → Heap → Prop) (n5 : Nat) (y22 : Option Addr) (y22n : Nat) (y22c : Nat) (y23 : Option Addr) (y23n : Nat) (y23c : Nat) (y24 : Int) (y25 : Int) (y26 : Int) (h27 : Heap) : Prop :=
  F191_j28 B R I3 n5 y22 y22n y22c y23 y23n y23c y24 y25 y26 h27
def F191 (B : World) (R : Ending → Heap → Prop) (a1 : Option Addr) (a1n : Nat) (a1c : Nat) (a2 : Int) (h : Heap) : Prop :=
  (30 : Int) ≠ 0 ∧
((decide (((a1n : Nat) : Int) ≤ (IntKind.i64.wrap (Int.tdiv a2 (30 : Int))))) = true →
 R (.returned (.slice none 0 0)) h) ∧
((decide (((a1n : Nat) : Int) ≤ (IntKind.i64.wrap (Int.tdiv a2 (30 : Int))))) = false →
 (30 : Int) ≠ 0 ∧
0 ≤ (Int.tmod a2 (30 : Int)) ∧
(30 : Int) ≠ 0 ∧
∃ I3 : Nat → List Value → Heap → Prop, ∃ n4, I3 n4 [.slice a1 a1n a1c, .slice none 0 0, .int .i64 (IntKind.i64.wrap ((1 : Int) * 2 ^ min (Int.toNat (Int.tmod a2 (30 : Int))) IntKind.i64.bits)), .int .i64 (IntKind.i64.wrap (Int.tdiv a2 (30 : Int)))] h ∧
∀ (n5 : Nat) (h10 : Heap) (z6 : Option Addr) (z6n : Nat) (z6c : Nat) (z7 : Option Addr) (z7n : Nat) (z7c : Nat) (z8 : Int) (z9 : Int), I3 n5 [.slice z6 z6n z6c, .slice z7 z7n z7c, .int .i64 z8, .int .i64 z9] h10 → ∀ _r : Nat → Value,
 ((decide (z9 < ((z6n : Nat) : Int))) = true →
 ixW z6 z6n z9 1 fun b11 o12 =>
 isP (some ⟨b11, o12, none⟩) fun b13 o14 => ∃ x15, cell? h10 ⟨b13, o14, none⟩ = some (.int .i64 x15) ∧
 z8 ≠ 0 ∧
((decide ((IntKind.i64.wrap (z9 + (1 : Int))) < ((z6n : Nat) : Int))) = true →
 ixW z6 z6n (IntKind.i64.wrap (z9 + (1 : Int))) 1 fun b16 o17 =>
 isP (some ⟨b16, o17, none⟩) fun b18 o19 => ∃ x20, cell? h10 ⟨b18, o19, none⟩ = some (.int .i64 x20) ∧
 z8 ≠ 0 ∧
 z8 ≠ 0 ∧
 F191_j21 B R I3 n5 z6 z6n z6c z7 z7n z7c z8 z9 (IntKind.i64.wrap ((IntKind.i64.wrap (Int.tdiv x15 z8)) + (IntKind.i64.wrap ((Int.tmod x20 z8) * (IntKind.i64.wrap (Int.tdiv (1073741824 : Int) z8)))))) h10) ∧
((decide ((IntKind.i64.wrap (z9 + (1 : Int))) < ((z6n : Nat) : Int))) = false →
 F191_j28 B R I3 n5 z6 z6n z6c z7 z7n z7c z8 z9 (IntKind.i64.wrap (Int.tdiv x15 z8)) h10)) ∧
((decide (z9 < ((z6n : Nat) : Int))) = false →
 Ent Tryz.prog B 192 #[.slice z7 z7n z7c] (retE (fun v42 h43 => ∃ x46 x46n x46c, v42 = .slice x46 x46n x46c ∧
 R (.returned (.slice x46 x46n x46c)) h43)
 (fun ch44 h45 => R (.panicked ch44) h45)) h10))
def F191_L : Nat → List (Nat × TypeDesc) := fun i => match i with
  | 6 => [(0, .slice 0), (5, .slice 0), (6, .int .i64), (7, .int .i64)]
  | _ => []
theorem F191_W (B : World) (R : Ending → Heap → Prop) (a1 : Option Addr) (a1n : Nat) (a1c : Nat) (a2 : Int) (h : Heap) : W Tryz.prog B Tryz.f191.ntmps F191_L (prune [] (codeOf Tryz.f191)) (endQ Tryz.prog Tryz.f191 R) (env0 #[.slice a1 a1n a1c, .int .i64 a2]) h = F191 B R a1 a1n a1c a2 h := by kernel_rfl
theorem F191_ok {B : World} {R : Ending → Heap → Prop} (a1 : Option Addr) (a1n : Nat) (a1c : Nat) (a2 : Int) {h : Heap} (H : F191 B R a1 a1n a1c a2 h) : Ent Tryz.prog B 191 #[.slice a1 a1n a1c, .int .i64 a2] R h :=
  Ent_of_W mixed Tryz.func191 (by kernel_rfl) (by kernel_rfl) (by kernel_rfl) F191_L [] (by rw [F191_W]; exact H)

/-- plumb/plumbref2.trim -/
def F192_j13 (B : World) (R : Ending → Heap → Prop) (I2 : Nat → List Value → Heap → Prop) (n4 : Nat) (y14 : Option Addr) (y14n : Nat) (y14c : Nat) (y15 : Int) (y16 : Bool) (h17 : Heap) : Prop :=
  (y16 = true →
 ∃ m18, m18 < n4 ∧ I2 m18 [.slice y14 y14n y14c, .int .i64 (IntKind.i64.wrap (y15 - (1 : Int)))] h17) ∧
(y16 = false →
 slW y14n y14c none (some (.int .i64 y15)) none fun l19 l20 l21 =>
 R (.returned (.slice (slP y14 l19 l21 1) (l20 - l19) (l21 - l19))) h17)
def F192 (B : World) (R : Ending → Heap → Prop) (a1 : Option Addr) (a1n : Nat) (a1c : Nat) (h : Heap) : Prop :=
  ∃ I2 : Nat → List Value → Heap → Prop, ∃ n3, I2 n3 [.slice a1 a1n a1c, .int .i64 ((a1n : Nat) : Int)] h ∧
∀ (n4 : Nat) (h7 : Heap) (z5 : Option Addr) (z5n : Nat) (z5c : Nat) (z6 : Int), I2 n4 [.slice z5 z5n z5c, .int .i64 z6] h7 → ∀ _r : Nat → Value,
 ((decide ((0 : Int) < z6)) = true →
 ixW z5 z5n (IntKind.i64.wrap (z6 - (1 : Int))) 1 fun b8 o9 =>
 isP (some ⟨b8, o9, none⟩) fun b10 o11 => ∃ x12, cell? h7 ⟨b10, o11, none⟩ = some (.int .i64 x12) ∧
 F192_j13 B R I2 n4 z5 z5n z5c z6 (decide (x12 = (0 : Int))) h7) ∧
((decide ((0 : Int) < z6)) = false →
 F192_j13 B R I2 n4 z5 z5n z5c z6 false h7)
def F192_L : Nat → List (Nat × TypeDesc) := fun i => match i with
  | 2 => [(0, .slice 0), (3, .int .i64)]
  | _ => []
theorem F192_W (B : World) (R : Ending → Heap → Prop) (a1 : Option Addr) (a1n : Nat) (a1c : Nat) (h : Heap) : W Tryz.prog B Tryz.f192.ntmps F192_L (prune [] (codeOf Tryz.f192)) (endQ Tryz.prog Tryz.f192 R) (env0 #[.slice a1 a1n a1c]) h = F192 B R a1 a1n a1c h := by kernel_rfl
theorem F192_ok {B : World} {R : Ending → Heap → Prop} (a1 : Option Addr) (a1n : Nat) (a1c : Nat) {h : Heap} (H : F192 B R a1 a1n a1c h) : Ent Tryz.prog B 192 #[.slice a1 a1n a1c] R h :=
  Ent_of_W mixed Tryz.func192 (by kernel_rfl) (by kernel_rfl) (by kernel_rfl) F192_L [] (by rw [F192_W]; exact H)

/-- (plumb/plumbref4.Kind).plus -/
def F209_j172 (B : World) (R : Ending → Heap → Prop) (y173 : Int) (y174 : Option Addr) (y175 : Option Addr) (y176 : Bool) (h177 : Heap) : Prop :=
  (y176 = true →
 isP y174 fun b178 o179 =>
∃ x180, cell? h177 ⟨b178, o179, none⟩ = some (.int .i64 x180) ∧
∃ x181, cell? h177 ⟨b178, o179 + 1, none⟩ = some (.int .i64 x181) ∧
∃ x182, cell? h177 ⟨b178, o179 + 1 + 1, none⟩ = some (.int .i64 x182) ∧
∃ x183, cell? h177 ⟨b178, o179 + 1 + 1 + 1, none⟩ = some (.int .i64 x183) ∧
∃ x184, cell? h177 ⟨b178, o179 + 1 + 1 + 1 + 1, none⟩ = some (.int .i64 x184) ∧
 isP y175 fun b185 o186 =>
 isP (some ⟨b185, o186, none⟩) fun b187 o188 => ∃ x189, cell? h177 ⟨b187, o188, none⟩ = some (.bool x189) ∧
 Ent Tryz.prog B 235 #[.agg #[.int .i64 x180, .int .i64 x181, .int .i64 x182, .int .i64 x183, .int .i64 x184], .bool x189, .int .i64 (0 : Int)] (retE (fun v190 h191 => ∃ x194, v190 = .int .i64 x194 ∧
 R (.returned (.int .i64 x194)) h191)
 (fun ch192 h193 => R (.panicked ch192) h193)) h177) ∧
(y176 = false →
 isP y174 fun b195 o196 =>
∃ x197, cell? h177 ⟨b195, o196, none⟩ = some (.int .i64 x197) ∧
∃ x198, cell? h177 ⟨b195, o196 + 1, none⟩ = some (.int .i64 x198) ∧
∃ x199, cell? h177 ⟨b195, o196 + 1 + 1, none⟩ = some (.int .i64 x199) ∧
∃ x200, cell? h177 ⟨b195, o196 + 1 + 1 + 1, none⟩ = some (.int .i64 x200) ∧
∃ x201, cell? h177 ⟨b195, o196 + 1 + 1 + 1 + 1, none⟩ = some (.int .i64 x201) ∧
 Ent Tryz.prog B 235 #[.agg #[.int .i64 x197, .int .i64 x198, .int .i64 x199, .int .i64 x200, .int .i64 x201], .bool (decide (y173 = (1 : Int))), .int .i64 (0 : Int)] (retE (fun v202 h203 => ∃ x206, v202 = .int .i64 x206 ∧
 R (.returned (.int .i64 x206)) h203)
 (fun ch204 h205 => R (.panicked ch204) h205)) h177)
def F209_j30 (B : World) (R : Ending → Heap → Prop) (y31 : Int) (y32 : Option Addr) (y33 : Option Addr) (y34 : Option Addr) (y35 : Bool) (h36 : Heap) : Prop :=
  (y35 = true →
 isP y32 fun b37 o38 =>
∃ x39, cell? h36 ⟨b37, o38, none⟩ = some (.int .i64 x39) ∧
∃ x40, cell? h36 ⟨b37, o38 + 1, none⟩ = some (.int .i64 x40) ∧
∃ x41, cell? h36 ⟨b37, o38 + 1 + 1, none⟩ = some (.int .i64 x41) ∧
∃ x42, cell? h36 ⟨b37, o38 + 1 + 1 + 1, none⟩ = some (.int .i64 x42) ∧
∃ x43, cell? h36 ⟨b37, o38 + 1 + 1 + 1 + 1, none⟩ = some (.int .i64 x43) ∧
 Ent Tryz.prog B 234 #[.agg #[.int .i64 x39, .int .i64 x40, .int .i64 x41, .int .i64 x42, .int .i64 x43]] (retE (fun v44 h45 => ∃ x48, v44 = .int .i64 x48 ∧
 R (.returned (.int .i64 x48)) h45)
 (fun ch46 h47 => R (.panicked ch46) h47)) h36) ∧
(y35 = false →
 isP y33 fun b49 o50 =>
 isP (some ⟨b49, o50 + 2, none⟩) fun b51 o52 => ∃ x53, cell? h36 ⟨b51, o52, none⟩ = some (.bool x53) ∧
(x53 = true →
 isP y32 fun b54 o55 =>
∃ x56, cell? h36 ⟨b54, o55, none⟩ = some (.int .i64 x56) ∧
∃ x57, cell? h36 ⟨b54, o55 + 1, none⟩ = some (.int .i64 x57) ∧
∃ x58, cell? h36 ⟨b54, o55 + 1 + 1, none⟩ = some (.int .i64 x58) ∧
∃ x59, cell? h36 ⟨b54, o55 + 1 + 1 + 1, none⟩ = some (.int .i64 x59) ∧
∃ x60, cell? h36 ⟨b54, o55 + 1 + 1 + 1 + 1, none⟩ = some (.int .i64 x60) ∧
 isP y33 fun b61 o62 =>
 isP (some ⟨b61, o62, none⟩) fun b63 o64 => ∃ x65, cell? h36 ⟨b63, o64, none⟩ = some (.bool x65) ∧
 isP y32 fun b66 o67 =>
 isP (some ⟨b66, o67 + 3, none⟩) fun b68 o69 => ∃ x70, cell? h36 ⟨b68, o69, none⟩ = some (.int .i64 x70) ∧
 Ent Tryz.prog B 235 #[.agg #[.int .i64 x56, .int .i64 x57, .int .i64 x58, .int .i64 x59, .int .i64 x60], .bool x65, .int .i64 x70] (retE (fun v71 h72 => ∃ x75, v71 = .int .i64 x75 ∧
 R (.returned (.int .i64 x75)) h72)
 (fun ch73 h74 => R (.panicked ch73) h74)) h36) ∧
(x53 = false →
 isP y34 fun b76 o77 =>
 isP (some ⟨b76, o77 + 2, none⟩) fun b78 o79 => ∃ x80, cell? h36 ⟨b78, o79, none⟩ = some (.bool x80) ∧
(x80 = true →
 isP y32 fun b81 o82 =>
∃ x83, cell? h36 ⟨b81, o82, none⟩ = some (.int .i64 x83) ∧
∃ x84, cell? h36 ⟨b81, o82 + 1, none⟩ = some (.int .i64 x84) ∧
∃ x85, cell? h36 ⟨b81, o82 + 1 + 1, none⟩ = some (.int .i64 x85) ∧
∃ x86, cell? h36 ⟨b81, o82 + 1 + 1 + 1, none⟩ = some (.int .i64 x86) ∧
∃ x87, cell? h36 ⟨b81, o82 + 1 + 1 + 1 + 1, none⟩ = some (.int .i64 x87) ∧
 isP y34 fun b88 o89 =>
 isP (some ⟨b88, o89, none⟩) fun b90 o91 => ∃ x92, cell? h36 ⟨b90, o91, none⟩ = some (.bool x92) ∧
 isP y32 fun b93 o94 =>
 isP (some ⟨b93, o94 + 3, none⟩) fun b95 o96 => ∃ x97, cell? h36 ⟨b95, o96, none⟩ = some (.int .i64 x97) ∧
 Ent Tryz.prog B 235 #[.agg #[.int .i64 x83, .int .i64 x84, .int .i64 x85, .int .i64 x86, .int .i64 x87], .bool x92, .int .i64 x97] (retE (fun v98 h99 => ∃ x102, v98 = .int .i64 x102 ∧
 R (.returned (.int .i64 x102)) h99)
 (fun ch100 h101 => R (.panicked ch100) h101)) h36) ∧
(x80 = false →
 isP y33 fun b103 o104 =>
 isP (some ⟨b103, o104 + 3, none⟩) fun b105 o106 =>
∃ x107, cell? h36 ⟨b105, o106, none⟩ = some (.bool x107) ∧
∃ x108 x108n x108c, cell? h36 ⟨b105, o106 + 1, none⟩ = some (.slice x108 x108n x108c) ∧
∃ x109, cell? h36 ⟨b105, o106 + 1 + 1, none⟩ = some (.int .i64 x109) ∧
 isP y34 fun b110 o111 =>
 isP (some ⟨b110, o111 + 3, none⟩) fun b112 o113 =>
∃ x114, cell? h36 ⟨b112, o113, none⟩ = some (.bool x114) ∧
∃ x115 x115n x115c, cell? h36 ⟨b112, o113 + 1, none⟩ = some (.slice x115 x115n x115c) ∧
∃ x116, cell? h36 ⟨b112, o113 + 1 + 1, none⟩ = some (.int .i64 x116) ∧
 Ent Tryz.prog B 133 #[.agg #[.bool x107, .slice x108 x108n x108c, .int .i64 x109], .agg #[.bool x114, .slice x115 x115n x115c, .int .i64 x116]] (retE (fun v117 h118 => ∃ x121 x122 x122n x122c x123, v117 = .agg #[.bool x121, .slice x122 x122n x122c, .int .i64 x123] ∧
 alW h118 (.cells #[.bool false, .slice none 0 0, .int .i64 0] 29) fun r124 h125 =>
 isP (some ⟨r124, 0, none⟩) fun b126 o127 => stC h125 b126 o127 (.bool x121) fun h128 =>
 stC h128 b126 (o127 + 1) (.slice x122 x122n x122c) fun h129 =>
 stC h129 b126 (o127 + 1 + 1) (.int .i64 x123) fun h130 =>
 isP (some ⟨r124, 0, none⟩) fun b131 o132 =>
 isP (some ⟨b131, o132 + 1, none⟩) fun b133 o134 => ∃ x135 x135n x135c, cell? h130 ⟨b133, o134, none⟩ = some (.slice x135 x135n x135c) ∧
((decide (((x135n : Nat) : Int) = (0 : Int))) = true →
 isP y33 fun b136 o137 =>
∃ x138, cell? h130 ⟨b136, o137, none⟩ = some (.bool x138) ∧
∃ x139, cell? h130 ⟨b136, o137 + 1, none⟩ = some (.bool x139) ∧
∃ x140, cell? h130 ⟨b136, o137 + 1 + 1, none⟩ = some (.bool x140) ∧
∃ x141, cell? h130 ⟨b136, o137 + 1 + 1 + 1, none⟩ = some (.bool x141) ∧
∃ x142 x142n x142c, cell? h130 ⟨b136, o137 + 1 + 1 + 1 + 1, none⟩ = some (.slice x142 x142n x142c) ∧
∃ x143, cell? h130 ⟨b136, o137 + 1 + 1 + 1 + 1 + 1, none⟩ = some (.int .i64 x143) ∧
 Ent Tryz.prog B 236 #[.agg #[.bool x138, .bool x139, .bool x140, .bool x141, .slice x142 x142n x142c, .int .i64 x143]] (retE (fun v144 h145 => ∃ x148, v144 = .bool x148 ∧
(x148 = true →
 isP y34 fun b149 o150 =>
∃ x151, cell? h145 ⟨b149, o150, none⟩ = some (.bool x151) ∧
∃ x152, cell? h145 ⟨b149, o150 + 1, none⟩ = some (.bool x152) ∧
∃ x153, cell? h145 ⟨b149, o150 + 1 + 1, none⟩ = some (.bool x153) ∧
∃ x154, cell? h145 ⟨b149, o150 + 1 + 1 + 1, none⟩ = some (.bool x154) ∧
∃ x155 x155n x155c, cell? h145 ⟨b149, o150 + 1 + 1 + 1 + 1, none⟩ = some (.slice x155 x155n x155c) ∧
∃ x156, cell? h145 ⟨b149, o150 + 1 + 1 + 1 + 1 + 1, none⟩ = some (.int .i64 x156) ∧
 Ent Tryz.prog B 236 #[.agg #[.bool x151, .bool x152, .bool x153, .bool x154, .slice x155 x155n x155c, .int .i64 x156]] (retE (fun v157 h158 => ∃ x161, v157 = .bool x161 ∧
(x161 = true →
 isP y33 fun b162 o163 =>
 isP (some ⟨b162, o163, none⟩) fun b164 o165 => ∃ x166, cell? h158 ⟨b164, o165, none⟩ = some (.bool x166) ∧
 isP y34 fun b167 o168 =>
 isP (some ⟨b167, o168, none⟩) fun b169 o170 => ∃ x171, cell? h158 ⟨b169, o170, none⟩ = some (.bool x171) ∧
 F209_j172 B R y31 y32 y33 (x166 == x171) h158) ∧
(x161 = false →
 F209_j172 B R y31 y32 y33 false h158))
 (fun ch159 h160 => R (.panicked ch159) h160)) h145) ∧
(x148 = false →
 (false = true →
 isP y33 fun b207 o208 =>
 isP (some ⟨b207, o208, none⟩) fun b209 o210 => ∃ x211, cell? h145 ⟨b209, o210, none⟩ = some (.bool x211) ∧
 isP y34 fun b212 o213 =>
 isP (some ⟨b212, o213, none⟩) fun b214 o215 => ∃ x216, cell? h145 ⟨b214, o215, none⟩ = some (.bool x216) ∧
 F209_j172 B R y31 y32 y33 (x211 == x216) h145) ∧
(false = false →
 F209_j172 B R y31 y32 y33 false h145)))
 (fun ch146 h147 => R (.panicked ch146) h147)) h130) ∧
((decide (((x135n : Nat) : Int) = (0 : Int))) = false →
 isP y32 fun b217 o218 =>
∃ x219, cell? h130 ⟨b217, o218, none⟩ = some (.int .i64 x219) ∧
∃ x220, cell? h130 ⟨b217, o218 + 1, none⟩ = some (.int .i64 x220) ∧
∃ x221, cell? h130 ⟨b217, o218 + 1 + 1, none⟩ = some (.int .i64 x221) ∧
∃ x222, cell? h130 ⟨b217, o218 + 1 + 1 + 1, none⟩ = some (.int .i64 x222) ∧
∃ x223, cell? h130 ⟨b217, o218 + 1 + 1 + 1 + 1, none⟩ = some (.int .i64 x223) ∧
 isP (some ⟨r124, 0, none⟩) fun b224 o225 =>
 isP (some ⟨b224, o225, none⟩) fun b226 o227 => ∃ x228, cell? h130 ⟨b226, o227, none⟩ = some (.bool x228) ∧
 isP (some ⟨r124, 0, none⟩) fun b229 o230 =>
 isP (some ⟨b229, o230 + 1, none⟩) fun b231 o232 => ∃ x233 x233n x233c, cell? h130 ⟨b231, o232, none⟩ = some (.slice x233 x233n x233c) ∧
 isP (some ⟨r124, 0, none⟩) fun b234 o235 =>
 isP (some ⟨b234, o235 + 2, none⟩) fun b236 o237 => ∃ x238, cell? h130 ⟨b236, o237, none⟩ = some (.int .i64 x238) ∧
 Ent Tryz.prog B 237 #[.agg #[.int .i64 x219, .int .i64 x220, .int .i64 x221, .int .i64 x222, .int .i64 x223], .bool x228, .slice x233 x233n x233c, .int .i64 x238, .bool false, .int .i64 y31] (retE (fun v239 h240 => ∃ x243 x244, v239 = .tuple #[.int .i64 x243, .bool x244] ∧
 R (.returned (.int .i64 x243)) h240)
 (fun ch241 h242 => R (.panicked ch241) h242)) h130))
 (fun ch119 h120 => R (.panicked ch119) h120)) h36)))
def F209 (B : World) (R : Ending → Heap → Prop) (a1 : Int) (a2 : Int) (a3 : Int) (a4 : Int) (a5 : Int) (a6 : Bool) (a7 : Bool) (a8 : Bool) (a9 : Bool) (a10 : Option Addr) (a10n : Nat) (a10c : Nat) (a11 : Int) (a12 : Bool) (a13 : Bool) (a14 : Bool) (a15 : Bool) (a16 : Option Addr) (a16n : Nat) (a16c : Nat) (a17 : Int) (a18 : Int) (h : Heap) : Prop :=
  alW h (.cells #[.int .i64 a1, .int .i64 a2, .int .i64 a3, .int .i64 a4, .int .i64 a5] 166) fun r19 h20 =>
 alW h20 (.cells #[.bool a6, .bool a7, .bool a8, .bool a9, .slice a10 a10n a10c, .int .i64 a11] 182) fun r21 h22 =>
 alW h22 (.cells #[.bool a12, .bool a13, .bool a14, .bool a15, .slice a16 a16n a16c, .int .i64 a17] 182) fun r23 h24 =>
 isP (some ⟨r21, 0, none⟩) fun b25 o26 =>
 isP (some ⟨b25, o26 + 1, none⟩) fun b27 o28 => ∃ x29, cell? h24 ⟨b27, o28, none⟩ = some (.bool x29) ∧
(x29 = true →
 (true = true →
 F209_j30 B R a18 (some ⟨r19, 0, none⟩) (some ⟨r21, 0, none⟩) (some ⟨r23, 0, none⟩) true h24) ∧
(true = false →
 isP (some ⟨r21, 0, none⟩) fun b245 o246 =>
 isP (some ⟨b245, o246 + 2, none⟩) fun b247 o248 => ∃ x249, cell? h24 ⟨b247, o248, none⟩ = some (.bool x249) ∧
(x249 = true →
 isP (some ⟨r23, 0, none⟩) fun b250 o251 =>
 isP (some ⟨b250, o251 + 2, none⟩) fun b252 o253 => ∃ x254, cell? h24 ⟨b252, o253, none⟩ = some (.bool x254) ∧
(x254 = true →
 isP (some ⟨r21, 0, none⟩) fun b255 o256 =>
 isP (some ⟨b255, o256, none⟩) fun b257 o258 => ∃ x259, cell? h24 ⟨b257, o258, none⟩ = some (.bool x259) ∧
 isP (some ⟨r23, 0, none⟩) fun b260 o261 =>
 isP (some ⟨b260, o261, none⟩) fun b262 o263 => ∃ x264, cell? h24 ⟨b262, o263, none⟩ = some (.bool x264) ∧
 F209_j30 B R a18 (some ⟨r19, 0, none⟩) (some ⟨r21, 0, none⟩) (some ⟨r23, 0, none⟩) (!(x259 == x264)) h24) ∧
(x254 = false →
 F209_j30 B R a18 (some ⟨r19, 0, none⟩) (some ⟨r21, 0, none⟩) (some ⟨r23, 0, none⟩) false h24)) ∧
(x249 = false →
 (false = true →
 isP (some ⟨r21, 0, none⟩) fun b265 o266 =>
 isP (some ⟨b265, o266, none⟩) fun b267 o268 => ∃ x269, cell? h24 ⟨b267, o268, none⟩ = some (.bool x269) ∧
 isP (some ⟨r23, 0, none⟩) fun b270 o271 =>
 isP (some ⟨b270, o271, none⟩) fun b272 o273 => ∃ x274, cell? h24 ⟨b272, o273, none⟩ = some (.bool x274) ∧
 F209_j30 B R a18 (some ⟨r19, 0, none⟩) (some ⟨r21, 0, none⟩) (some ⟨r23, 0, none⟩) (!(x269 == x274)) h24) ∧
(false = false →
 F209_j30 B R a18 (some ⟨r19, 0, none⟩) (some ⟨r21, 0, none⟩) (some ⟨r23, 0, none⟩) false h24)))) ∧
(x29 = false →
 isP (some ⟨r23, 0, none⟩) fun b275 o276 =>
 isP (some ⟨b275, o276 + 1, none⟩) fun b277 o278 => ∃ x279, cell? h24 ⟨b277, o278, none⟩ = some (.bool x279) ∧
(x279 = true →
 F209_j30 B R a18 (some ⟨r19, 0, none⟩) (some ⟨r21, 0, none⟩) (some ⟨r23, 0, none⟩) true h24) ∧
(x279 = false →
 isP (some ⟨r21, 0, none⟩) fun b280 o281 =>
 isP (some ⟨b280, o281 + 2, none⟩) fun b282 o283 => ∃ x284, cell? h24 ⟨b282, o283, none⟩ = some (.bool x284) ∧
(x284 = true →
 isP (some ⟨r23, 0, none⟩) fun b285 o286 =>
 isP (some ⟨b285, o286 + 2, none⟩) fun b287 o288 => ∃ x289, cell? h24 ⟨b287, o288, none⟩ = some (.bool x289) ∧
(x289 = true →
 isP (some ⟨r21, 0, none⟩) fun b290 o291 =>
 isP (some ⟨b290, o291, none⟩) fun b292 o293 => ∃ x294, cell? h24 ⟨b292, o293, none⟩ = some (.bool x294) ∧
 isP (some ⟨r23, 0, none⟩) fun b295 o296 =>
 isP (some ⟨b295, o296, none⟩) fun b297 o298 => ∃ x299, cell? h24 ⟨b297, o298, none⟩ = some (.bool x299) ∧
 F209_j30 B R a18 (some ⟨r19, 0, none⟩) (some ⟨r21, 0, none⟩) (some ⟨r23, 0, none⟩) (!(x294 == x299)) h24) ∧
(x289 = false →
 F209_j30 B R a18 (some ⟨r19, 0, none⟩) (some ⟨r21, 0, none⟩) (some ⟨r23, 0, none⟩) false h24)) ∧
(x284 = false →
 (false = true →
 isP (some ⟨r21, 0, none⟩) fun b300 o301 =>
 isP (some ⟨b300, o301, none⟩) fun b302 o303 => ∃ x304, cell? h24 ⟨b302, o303, none⟩ = some (.bool x304) ∧
 isP (some ⟨r23, 0, none⟩) fun b305 o306 =>
 isP (some ⟨b305, o306, none⟩) fun b307 o308 => ∃ x309, cell? h24 ⟨b307, o308, none⟩ = some (.bool x309) ∧
 F209_j30 B R a18 (some ⟨r19, 0, none⟩) (some ⟨r21, 0, none⟩) (some ⟨r23, 0, none⟩) (!(x304 == x309)) h24) ∧
(false = false →
 F209_j30 B R a18 (some ⟨r19, 0, none⟩) (some ⟨r21, 0, none⟩) (some ⟨r23, 0, none⟩) false h24))))
def F209_L : Nat → List (Nat × TypeDesc) := fun _ => []
theorem F209_W (B : World) (R : Ending → Heap → Prop) (a1 : Int) (a2 : Int) (a3 : Int) (a4 : Int) (a5 : Int) (a6 : Bool) (a7 : Bool) (a8 : Bool) (a9 : Bool) (a10 : Option Addr) (a10n : Nat) (a10c : Nat) (a11 : Int) (a12 : Bool) (a13 : Bool) (a14 : Bool) (a15 : Bool) (a16 : Option Addr) (a16n : Nat) (a16c : Nat) (a17 : Int) (a18 : Int) (h : Heap) : W Tryz.prog B Tryz.f209.ntmps F209_L (prune [] (codeOf Tryz.f209)) (endQ Tryz.prog Tryz.f209 R) (env0 #[.agg #[.int .i64 a1, .int .i64 a2, .int .i64 a3, .int .i64 a4, .int .i64 a5], .agg #[.bool a6, .bool a7, .bool a8, .bool a9, .slice a10 a10n a10c, .int .i64 a11], .agg #[.bool a12, .bool a13, .bool a14, .bool a15, .slice a16 a16n a16c, .int .i64 a17], .int .i64 a18]) h = F209 B R a1 a2 a3 a4 a5 a6 a7 a8 a9 a10 a10n a10c a11 a12 a13 a14 a15 a16 a16n a16c a17 a18 h := by kernel_rfl
theorem F209_ok {B : World} {R : Ending → Heap → Prop} (a1 : Int) (a2 : Int) (a3 : Int) (a4 : Int) (a5 : Int) (a6 : Bool) (a7 : Bool) (a8 : Bool) (a9 : Bool) (a10 : Option Addr) (a10n : Nat) (a10c : Nat) (a11 : Int) (a12 : Bool) (a13 : Bool) (a14 : Bool) (a15 : Bool) (a16 : Option Addr) (a16n : Nat) (a16c : Nat) (a17 : Int) (a18 : Int) {h : Heap} (H : F209 B R a1 a2 a3 a4 a5 a6 a7 a8 a9 a10 a10n a10c a11 a12 a13 a14 a15 a16 a16n a16c a17 a18 h) : Ent Tryz.prog B 209 #[.agg #[.int .i64 a1, .int .i64 a2, .int .i64 a3, .int .i64 a4, .int .i64 a5], .agg #[.bool a6, .bool a7, .bool a8, .bool a9, .slice a10 a10n a10c, .int .i64 a11], .agg #[.bool a12, .bool a13, .bool a14, .bool a15, .slice a16 a16n a16c, .int .i64 a17], .int .i64 a18] R h :=
  Ent_of_W mixed Tryz.func209 (by kernel_rfl) (by kernel_rfl) (by kernel_rfl) F209_L [] (by rw [F209_W]; exact H)

/-- (plumb/plumbref4.Kind).Look -/
def F210_j117 (B : World) (R : Ending → Heap → Prop) (y118 : Option Addr) (y119 : Option Addr) (h120 : Heap) : Prop :=
  isP y119 fun b121 o122 =>
∃ x123, cell? h120 ⟨b121, o122, none⟩ = some (.bool x123) ∧
∃ x124, cell? h120 ⟨b121, o122 + 1, none⟩ = some (.bool x124) ∧
∃ x125, cell? h120 ⟨b121, o122 + 1 + 1, none⟩ = some (.bool x125) ∧
∃ x126, cell? h120 ⟨b121, o122 + 1 + 1 + 1, none⟩ = some (.bool x126) ∧
∃ x127 x127n x127c, cell? h120 ⟨b121, o122 + 1 + 1 + 1 + 1, none⟩ = some (.slice x127 x127n x127c) ∧
∃ x128, cell? h120 ⟨b121, o122 + 1 + 1 + 1 + 1 + 1, none⟩ = some (.int .i64 x128) ∧
 isP y118 fun b129 o130 => stC h120 b129 o130 (.bool x123) fun h131 =>
 stC h131 b129 (o130 + 1) (.bool x124) fun h132 =>
 stC h132 b129 (o130 + 1 + 1) (.bool x125) fun h133 =>
 stC h133 b129 (o130 + 1 + 1 + 1) (.bool x126) fun h134 =>
 stC h134 b129 (o130 + 1 + 1 + 1 + 1) (.slice x127 x127n x127c) fun h135 =>
 stC h135 b129 (o130 + 1 + 1 + 1 + 1 + 1) (.int .i64 x128) fun h136 =>
 isP y118 fun b137 o138 =>
∃ x139, cell? h136 ⟨b137, o138, none⟩ = some (.bool x139) ∧
∃ x140, cell? h136 ⟨b137, o138 + 1, none⟩ = some (.bool x140) ∧
∃ x141, cell? h136 ⟨b137, o138 + 1 + 1, none⟩ = some (.bool x141) ∧
∃ x142, cell? h136 ⟨b137, o138 + 1 + 1 + 1, none⟩ = some (.bool x142) ∧
∃ x143 x143n x143c, cell? h136 ⟨b137, o138 + 1 + 1 + 1 + 1, none⟩ = some (.slice x143 x143n x143c) ∧
∃ x144, cell? h136 ⟨b137, o138 + 1 + 1 + 1 + 1 + 1, none⟩ = some (.int .i64 x144) ∧
 R (.returned (.agg #[.bool x139, .bool x140, .bool x141, .bool x142, .slice x143 x143n x143c, .int .i64 x144])) h136
def F210_j97 (B : World) (R : Ending → Heap → Prop) (y98 : Int) (y99 : Option Addr) (y100 : Option Addr) (y101 : Bool) (h102 : Heap) : Prop :=
  (y101 = true →
 Ent Tryz.prog B 239 #[.int .i64 y98] (retE (fun v103 h104 => ∃ x107 x108 x108n x108c x109, v103 = .agg #[.bool x107, .slice x108 x108n x108c, .int .i64 x109] ∧
 isP y100 fun b110 o111 =>
 isP (some ⟨b110, o111 + 3, none⟩) fun b112 o113 => stC h104 b112 o113 (.bool x107) fun h114 =>
 stC h114 b112 (o113 + 1) (.slice x108 x108n x108c) fun h115 =>
 stC h115 b112 (o113 + 1 + 1) (.int .i64 x109) fun h116 =>
 F210_j117 B R y99 y100 h116)
 (fun ch105 h106 => R (.panicked ch105) h106)) h102) ∧
(y101 = false →
 F210_j117 B R y99 y100 h102)
def F210_j85 (B : World) (R : Ending → Heap → Prop) (y86 : Int) (y87 : Option Addr) (y88 : Option Addr) (y89 : Int) (y90 : Option Addr) (h91 : Heap) : Prop :=
  ((decide (y89 < (3 : Int))) = true →
 isP y87 fun b92 o93 =>
 isP (some ⟨b92, o93, none⟩) fun b94 o95 => ∃ x96, cell? h91 ⟨b94, o95, none⟩ = some (.int .i64 x96) ∧
 F210_j97 B R y86 y88 y90 (decide (x96 = (24 : Int))) h91) ∧
((decide (y89 < (3 : Int))) = false →
 F210_j97 B R y86 y88 y90 false h91)
def F210_j63 (B : World) (R : Ending → Heap → Prop) (y64 : Int) (y65 : Option Addr) (y66 : Option Addr) (y67 : Int) (y68 : Option Addr) (y69 : Bool) (h70 : Heap) : Prop :=
  (y69 = true →
 Ent Tryz.prog B 114 #[.int .i64 y64] (retE (fun v71 h72 => ∃ x75 x76 x76n x76c x77, v71 = .agg #[.bool x75, .slice x76 x76n x76c, .int .i64 x77] ∧
 isP y68 fun b78 o79 =>
 isP (some ⟨b78, o79 + 3, none⟩) fun b80 o81 => stC h72 b80 o81 (.bool x75) fun h82 =>
 stC h82 b80 (o81 + 1) (.slice x76 x76n x76c) fun h83 =>
 stC h83 b80 (o81 + 1 + 1) (.int .i64 x77) fun h84 =>
 F210_j85 B R y64 y65 y66 y67 y68 h84)
 (fun ch73 h74 => R (.panicked ch73) h74)) h70) ∧
(y69 = false →
 F210_j85 B R y64 y65 y66 y67 y68 h70)
def F210_j41 (B : World) (R : Ending → Heap → Prop) (y42 : Int) (y43 : Option Addr) (y44 : Option Addr) (y45 : Int) (y46 : Option Addr) (h47 : Heap) : Prop :=
  isP y46 fun b48 o49 =>
 isP (some ⟨b48, o49 + 1, none⟩) fun b50 o51 => stC h47 b50 o51 (.bool (decide (y45 = (4 : Int)))) fun h52 =>
 isP y46 fun b53 o54 =>
 isP (some ⟨b53, o54 + 2, none⟩) fun b55 o56 => stC h52 b55 o56 (.bool (decide (y45 = (3 : Int)))) fun h57 =>
((decide (y45 < (3 : Int))) = true →
 isP y43 fun b58 o59 =>
 isP (some ⟨b58, o59, none⟩) fun b60 o61 => ∃ x62, cell? h57 ⟨b60, o61, none⟩ = some (.int .i64 x62) ∧
 F210_j63 B R y42 y43 y44 y45 y46 (decide (x62 = (53 : Int))) h57) ∧
((decide (y45 < (3 : Int))) = false →
 F210_j63 B R y42 y43 y44 y45 y46 false h57)
def F210 (B : World) (R : Ending → Heap → Prop) (a1 : Int) (a2 : Int) (a3 : Int) (a4 : Int) (a5 : Int) (a6 : Int) (h : Heap) : Prop :=
  alW h (.cells #[.int .i64 a1, .int .i64 a2, .int .i64 a3, .int .i64 a4, .int .i64 a5] 166) fun r7 h8 =>
 alW h8 (.cells #[.bool false, .bool false, .bool false, .bool false, .slice none 0 0, .int .i64 0] 182) fun r9 h10 =>
 Ent Tryz.prog B 84 #[.int .i64 a6] (retE (fun v11 h12 => ∃ x15, v11 = .int .i64 x15 ∧
 alW h12 (.cells #[.bool false, .bool false, .bool false, .bool false, .slice none 0 0, .int .i64 0] 182) fun r16 h17 =>
 isP (some ⟨r16, 0, none⟩) fun b18 o19 => stC h17 b18 o19 (.bool (decide (a6 < (0 : Int)))) fun h20 =>
 stC h20 b18 (o19 + 1) (.bool false) fun h21 =>
 stC h21 b18 (o19 + 1 + 1) (.bool false) fun h22 =>
 stC h22 b18 (o19 + 1 + 1 + 1) (.bool false) fun h23 =>
 stC h23 b18 (o19 + 1 + 1 + 1 + 1) (.slice none 0 0) fun h24 =>
 stC h24 b18 (o19 + 1 + 1 + 1 + 1 + 1) (.int .i64 0) fun h25 =>
 isP (some ⟨r7, 0, none⟩) fun b26 o27 =>
 isP (some ⟨b26, o27, none⟩) fun b28 o29 => ∃ x30, cell? h25 ⟨b28, o29, none⟩ = some (.int .i64 x30) ∧
((decide (x30 = (24 : Int))) = true →
 Ent Tryz.prog B 238 #[.int .i64 a6] (retE (fun v31 h32 => ∃ x35, v31 = .int .i64 x35 ∧
 isP (some ⟨r16, 0, none⟩) fun b36 o37 =>
 isP (some ⟨b36, o37, none⟩) fun b38 o39 => stC h32 b38 o39 (.bool (decide ((2147483648 : Int) ≤ a6))) fun h40 =>
 F210_j41 B R a6 (some ⟨r7, 0, none⟩) (some ⟨r9, 0, none⟩) x35 (some ⟨r16, 0, none⟩) h40)
 (fun ch33 h34 => R (.panicked ch33) h34)) h25) ∧
((decide (x30 = (24 : Int))) = false →
 F210_j41 B R a6 (some ⟨r7, 0, none⟩) (some ⟨r9, 0, none⟩) x15 (some ⟨r16, 0, none⟩) h25))
 (fun ch13 h14 => R (.panicked ch13) h14)) h10
def F210_L : Nat → List (Nat × TypeDesc) := fun _ => []
theorem F210_W (B : World) (R : Ending → Heap → Prop) (a1 : Int) (a2 : Int) (a3 : Int) (a4 : Int) (a5 : Int) (a6 : Int) (h : Heap) : W Tryz.prog B Tryz.f210.ntmps F210_L (prune [] (codeOf Tryz.f210)) (endQ Tryz.prog Tryz.f210 R) (env0 #[.agg #[.int .i64 a1, .int .i64 a2, .int .i64 a3, .int .i64 a4, .int .i64 a5], .int .i64 a6]) h = F210 B R a1 a2 a3 a4 a5 a6 h := by kernel_rfl
theorem F210_ok {B : World} {R : Ending → Heap → Prop} (a1 : Int) (a2 : Int) (a3 : Int) (a4 : Int) (a5 : Int) (a6 : Int) {h : Heap} (H : F210 B R a1 a2 a3 a4 a5 a6 h) : Ent Tryz.prog B 210 #[.agg #[.int .i64 a1, .int .i64 a2, .int .i64 a3, .int .i64 a4, .int .i64 a5], .int .i64 a6] R h :=
  Ent_of_W mixed Tryz.func210 (by kernel_rfl) (by kernel_rfl) (by kernel_rfl) F210_L [] (by rw [F210_W]; exact H)

/-- (plumb/plumbref4.Kind).close -/
def F211 (B : World) (R : Ending → Heap → Prop) (a1 : Int) (a2 : Int) (a3 : Int) (a4 : Int) (a5 : Int) (a6 : Bool) (a7 : Bool) (a8 : Bool) (a9 : Bool) (a10 : Option Addr) (a10n : Nat) (a10c : Nat) (a11 : Int) (a12 : Int) (h : Heap) : Prop :=
  alW h (.cells #[.int .i64 a1, .int .i64 a2, .int .i64 a3, .int .i64 a4, .int .i64 a5] 166) fun r13 h14 =>
 alW h14 (.cells #[.bool a6, .bool a7, .bool a8, .bool a9, .slice a10 a10n a10c, .int .i64 a11] 182) fun r15 h16 =>
 isP (some ⟨r15, 0, none⟩) fun b17 o18 =>
 isP (some ⟨b17, o18 + 1, none⟩) fun b19 o20 => ∃ x21, cell? h16 ⟨b19, o20, none⟩ = some (.bool x21) ∧
(x21 = true →
 isP (some ⟨r13, 0, none⟩) fun b22 o23 =>
∃ x24, cell? h16 ⟨b22, o23, none⟩ = some (.int .i64 x24) ∧
∃ x25, cell? h16 ⟨b22, o23 + 1, none⟩ = some (.int .i64 x25) ∧
∃ x26, cell? h16 ⟨b22, o23 + 1 + 1, none⟩ = some (.int .i64 x26) ∧
∃ x27, cell? h16 ⟨b22, o23 + 1 + 1 + 1, none⟩ = some (.int .i64 x27) ∧
∃ x28, cell? h16 ⟨b22, o23 + 1 + 1 + 1 + 1, none⟩ = some (.int .i64 x28) ∧
 Ent Tryz.prog B 234 #[.agg #[.int .i64 x24, .int .i64 x25, .int .i64 x26, .int .i64 x27, .int .i64 x28]] (retE (fun v29 h30 => ∃ x33, v29 = .int .i64 x33 ∧
 R (.returned (.int .i64 x33)) h30)
 (fun ch31 h32 => R (.panicked ch31) h32)) h16) ∧
(x21 = false →
 isP (some ⟨r15, 0, none⟩) fun b34 o35 =>
 isP (some ⟨b34, o35 + 2, none⟩) fun b36 o37 => ∃ x38, cell? h16 ⟨b36, o37, none⟩ = some (.bool x38) ∧
(x38 = true →
 isP (some ⟨r13, 0, none⟩) fun b39 o40 =>
∃ x41, cell? h16 ⟨b39, o40, none⟩ = some (.int .i64 x41) ∧
∃ x42, cell? h16 ⟨b39, o40 + 1, none⟩ = some (.int .i64 x42) ∧
∃ x43, cell? h16 ⟨b39, o40 + 1 + 1, none⟩ = some (.int .i64 x43) ∧
∃ x44, cell? h16 ⟨b39, o40 + 1 + 1 + 1, none⟩ = some (.int .i64 x44) ∧
∃ x45, cell? h16 ⟨b39, o40 + 1 + 1 + 1 + 1, none⟩ = some (.int .i64 x45) ∧
 isP (some ⟨r15, 0, none⟩) fun b46 o47 =>
 isP (some ⟨b46, o47, none⟩) fun b48 o49 => ∃ x50, cell? h16 ⟨b48, o49, none⟩ = some (.bool x50) ∧
 isP (some ⟨r13, 0, none⟩) fun b51 o52 =>
 isP (some ⟨b51, o52 + 3, none⟩) fun b53 o54 => ∃ x55, cell? h16 ⟨b53, o54, none⟩ = some (.int .i64 x55) ∧
 Ent Tryz.prog B 235 #[.agg #[.int .i64 x41, .int .i64 x42, .int .i64 x43, .int .i64 x44, .int .i64 x45], .bool x50, .int .i64 x55] (retE (fun v56 h57 => ∃ x60, v56 = .int .i64 x60 ∧
 R (.returned (.int .i64 x60)) h57)
 (fun ch58 h59 => R (.panicked ch58) h59)) h16) ∧
(x38 = false →
 isP (some ⟨r15, 0, none⟩) fun b61 o62 =>
 isP (some ⟨b61, o62 + 3, none⟩) fun b63 o64 =>
 isP (some ⟨b63, o64 + 1, none⟩) fun b65 o66 => ∃ x67 x67n x67c, cell? h16 ⟨b65, o66, none⟩ = some (.slice x67 x67n x67c) ∧
((decide (((x67n : Nat) : Int) = (0 : Int))) = true →
 isP (some ⟨r13, 0, none⟩) fun b68 o69 =>
∃ x70, cell? h16 ⟨b68, o69, none⟩ = some (.int .i64 x70) ∧
∃ x71, cell? h16 ⟨b68, o69 + 1, none⟩ = some (.int .i64 x71) ∧
∃ x72, cell? h16 ⟨b68, o69 + 1 + 1, none⟩ = some (.int .i64 x72) ∧
∃ x73, cell? h16 ⟨b68, o69 + 1 + 1 + 1, none⟩ = some (.int .i64 x73) ∧
∃ x74, cell? h16 ⟨b68, o69 + 1 + 1 + 1 + 1, none⟩ = some (.int .i64 x74) ∧
 isP (some ⟨r15, 0, none⟩) fun b75 o76 =>
 isP (some ⟨b75, o76, none⟩) fun b77 o78 => ∃ x79, cell? h16 ⟨b77, o78, none⟩ = some (.bool x79) ∧
 Ent Tryz.prog B 235 #[.agg #[.int .i64 x70, .int .i64 x71, .int .i64 x72, .int .i64 x73, .int .i64 x74], .bool x79, .int .i64 (0 : Int)] (retE (fun v80 h81 => ∃ x84, v80 = .int .i64 x84 ∧
 R (.returned (.int .i64 x84)) h81)
 (fun ch82 h83 => R (.panicked ch82) h83)) h16) ∧
((decide (((x67n : Nat) : Int) = (0 : Int))) = false →
 isP (some ⟨r13, 0, none⟩) fun b85 o86 =>
∃ x87, cell? h16 ⟨b85, o86, none⟩ = some (.int .i64 x87) ∧
∃ x88, cell? h16 ⟨b85, o86 + 1, none⟩ = some (.int .i64 x88) ∧
∃ x89, cell? h16 ⟨b85, o86 + 1 + 1, none⟩ = some (.int .i64 x89) ∧
∃ x90, cell? h16 ⟨b85, o86 + 1 + 1 + 1, none⟩ = some (.int .i64 x90) ∧
∃ x91, cell? h16 ⟨b85, o86 + 1 + 1 + 1 + 1, none⟩ = some (.int .i64 x91) ∧
 isP (some ⟨r15, 0, none⟩) fun b92 o93 =>
 isP (some ⟨b92, o93 + 3, none⟩) fun b94 o95 =>
 isP (some ⟨b94, o95, none⟩) fun b96 o97 => ∃ x98, cell? h16 ⟨b96, o97, none⟩ = some (.bool x98) ∧
 isP (some ⟨r15, 0, none⟩) fun b99 o100 =>
 isP (some ⟨b99, o100 + 3, none⟩) fun b101 o102 =>
 isP (some ⟨b101, o102 + 1, none⟩) fun b103 o104 => ∃ x105 x105n x105c, cell? h16 ⟨b103, o104, none⟩ = some (.slice x105 x105n x105c) ∧
 isP (some ⟨r15, 0, none⟩) fun b106 o107 =>
 isP (some ⟨b106, o107 + 3, none⟩) fun b108 o109 =>
 isP (some ⟨b108, o109 + 2, none⟩) fun b110 o111 => ∃ x112, cell? h16 ⟨b110, o111, none⟩ = some (.int .i64 x112) ∧
 Ent Tryz.prog B 237 #[.agg #[.int .i64 x87, .int .i64 x88, .int .i64 x89, .int .i64 x90, .int .i64 x91], .bool x98, .slice x105 x105n x105c, .int .i64 x112, .bool false, .int .i64 a12] (retE (fun v113 h114 => ∃ x117 x118, v113 = .tuple #[.int .i64 x117, .bool x118] ∧
 R (.returned (.int .i64 x117)) h114)
 (fun ch115 h116 => R (.panicked ch115) h116)) h16)))
def F211_L : Nat → List (Nat × TypeDesc) := fun _ => []
theorem F211_W (B : World) (R : Ending → Heap → Prop) (a1 : Int) (a2 : Int) (a3 : Int) (a4 : Int) (a5 : Int) (a6 : Bool) (a7 : Bool) (a8 : Bool) (a9 : Bool) (a10 : Option Addr) (a10n : Nat) (a10c : Nat) (a11 : Int) (a12 : Int) (h : Heap) : W Tryz.prog B Tryz.f211.ntmps F211_L (prune [] (codeOf Tryz.f211)) (endQ Tryz.prog Tryz.f211 R) (env0 #[.agg #[.int .i64 a1, .int .i64 a2, .int .i64 a3, .int .i64 a4, .int .i64 a5], .agg #[.bool a6, .bool a7, .bool a8, .bool a9, .slice a10 a10n a10c, .int .i64 a11], .int .i64 a12]) h = F211 B R a1 a2 a3 a4 a5 a6 a7 a8 a9 a10 a10n a10c a11 a12 h := by kernel_rfl
theorem F211_ok {B : World} {R : Ending → Heap → Prop} (a1 : Int) (a2 : Int) (a3 : Int) (a4 : Int) (a5 : Int) (a6 : Bool) (a7 : Bool) (a8 : Bool) (a9 : Bool) (a10 : Option Addr) (a10n : Nat) (a10c : Nat) (a11 : Int) (a12 : Int) {h : Heap} (H : F211 B R a1 a2 a3 a4 a5 a6 a7 a8 a9 a10 a10n a10c a11 a12 h) : Ent Tryz.prog B 211 #[.agg #[.int .i64 a1, .int .i64 a2, .int .i64 a3, .int .i64 a4, .int .i64 a5], .agg #[.bool a6, .bool a7, .bool a8, .bool a9, .slice a10 a10n a10c, .int .i64 a11], .int .i64 a12] R h :=
  Ent_of_W mixed Tryz.func211 (by kernel_rfl) (by kernel_rfl) (by kernel_rfl) F211_L [] (by rw [F211_W]; exact H)

/-- plumb/plumbref4.times -/
def F212_j56 (B : World) (R : Ending → Heap → Prop) (y57 : Option Addr) (y58 : Option Addr) (h59 : Heap) : Prop :=
  isP y58 fun b60 o61 =>
∃ x62, cell? h59 ⟨b60, o61, none⟩ = some (.bool x62) ∧
∃ x63, cell? h59 ⟨b60, o61 + 1, none⟩ = some (.bool x63) ∧
∃ x64, cell? h59 ⟨b60, o61 + 1 + 1, none⟩ = some (.bool x64) ∧
∃ x65, cell? h59 ⟨b60, o61 + 1 + 1 + 1, none⟩ = some (.bool x65) ∧
∃ x66 x66n x66c, cell? h59 ⟨b60, o61 + 1 + 1 + 1 + 1, none⟩ = some (.slice x66 x66n x66c) ∧
∃ x67, cell? h59 ⟨b60, o61 + 1 + 1 + 1 + 1 + 1, none⟩ = some (.int .i64 x67) ∧
 isP y57 fun b68 o69 => stC h59 b68 o69 (.bool x62) fun h70 =>
 stC h70 b68 (o69 + 1) (.bool x63) fun h71 =>
 stC h71 b68 (o69 + 1 + 1) (.bool x64) fun h72 =>
 stC h72 b68 (o69 + 1 + 1 + 1) (.bool x65) fun h73 =>
 stC h73 b68 (o69 + 1 + 1 + 1 + 1) (.slice x66 x66n x66c) fun h74 =>
 stC h74 b68 (o69 + 1 + 1 + 1 + 1 + 1) (.int .i64 x67) fun h75 =>
 isP y57 fun b76 o77 =>
∃ x78, cell? h75 ⟨b76, o77, none⟩ = some (.bool x78) ∧
∃ x79, cell? h75 ⟨b76, o77 + 1, none⟩ = some (.bool x79) ∧
∃ x80, cell? h75 ⟨b76, o77 + 1 + 1, none⟩ = some (.bool x80) ∧
∃ x81, cell? h75 ⟨b76, o77 + 1 + 1 + 1, none⟩ = some (.bool x81) ∧
∃ x82 x82n x82c, cell? h75 ⟨b76, o77 + 1 + 1 + 1 + 1, none⟩ = some (.slice x82 x82n x82c) ∧
∃ x83, cell? h75 ⟨b76, o77 + 1 + 1 + 1 + 1 + 1, none⟩ = some (.int .i64 x83) ∧
 R (.returned (.agg #[.bool x78, .bool x79, .bool x80, .bool x81, .slice x82 x82n x82c, .int .i64 x83])) h75
def F212_j101 (B : World) (R : Ending → Heap → Prop) (y102 : Option Addr) (y103 : Option Addr) (h104 : Heap) : Prop :=
  F212_j56 B R y102 y103 h104
def F212_j89 (B : World) (R : Ending → Heap → Prop) (y90 : Option Addr) (y91 : Option Addr) (y92 : Option Addr) (y93 : Option Addr) (y94 : Bool) (h95 : Heap) : Prop :=
  (y94 = true →
 isP y93 fun b96 o97 =>
 isP (some ⟨b96, o97 + 2, none⟩) fun b98 o99 => stC h95 b98 o99 (.bool true) fun h100 =>
 F212_j101 B R y92 y93 h100) ∧
(y94 = false →
 isP y90 fun b105 o106 =>
 isP (some ⟨b105, o106 + 3, none⟩) fun b107 o108 =>
∃ x109, cell? h95 ⟨b107, o108, none⟩ = some (.bool x109) ∧
∃ x110 x110n x110c, cell? h95 ⟨b107, o108 + 1, none⟩ = some (.slice x110 x110n x110c) ∧
∃ x111, cell? h95 ⟨b107, o108 + 1 + 1, none⟩ = some (.int .i64 x111) ∧
 isP y91 fun b112 o113 =>
 isP (some ⟨b112, o113 + 3, none⟩) fun b114 o115 =>
∃ x116, cell? h95 ⟨b114, o115, none⟩ = some (.bool x116) ∧
∃ x117 x117n x117c, cell? h95 ⟨b114, o115 + 1, none⟩ = some (.slice x117 x117n x117c) ∧
∃ x118, cell? h95 ⟨b114, o115 + 1 + 1, none⟩ = some (.int .i64 x118) ∧
 Ent Tryz.prog B 113 #[.agg #[.bool x109, .slice x110 x110n x110c, .int .i64 x111], .agg #[.bool x116, .slice x117 x117n x117c, .int .i64 x118]] (retE (fun v119 h120 => ∃ x123 x124 x124n x124c x125, v119 = .agg #[.bool x123, .slice x124 x124n x124c, .int .i64 x125] ∧
 isP y93 fun b126 o127 =>
 isP (some ⟨b126, o127 + 3, none⟩) fun b128 o129 => stC h120 b128 o129 (.bool x123) fun h130 =>
 stC h130 b128 (o129 + 1) (.slice x124 x124n x124c) fun h131 =>
 stC h131 b128 (o129 + 1 + 1) (.int .i64 x125) fun h132 =>
 F212_j101 B R y92 y93 h132)
 (fun ch121 h122 => R (.panicked ch121) h122)) h95)
def F212_j44 (B : World) (R : Ending → Heap → Prop) (y45 : Option Addr) (y46 : Option Addr) (y47 : Option Addr) (y48 : Option Addr) (y49 : Bool) (h50 : Heap) : Prop :=
  (y49 = true →
 isP y48 fun b51 o52 =>
 isP (some ⟨b51, o52 + 1, none⟩) fun b53 o54 => stC h50 b53 o54 (.bool true) fun h55 =>
 F212_j56 B R y47 y48 h55) ∧
(y49 = false →
 isP y45 fun b84 o85 =>
 isP (some ⟨b84, o85 + 2, none⟩) fun b86 o87 => ∃ x88, cell? h50 ⟨b86, o87, none⟩ = some (.bool x88) ∧
(x88 = true →
 F212_j89 B R y45 y46 y47 y48 true h50) ∧
(x88 = false →
 isP y46 fun b133 o134 =>
 isP (some ⟨b133, o134 + 2, none⟩) fun b135 o136 => ∃ x137, cell? h50 ⟨b135, o136, none⟩ = some (.bool x137) ∧
 F212_j89 B R y45 y46 y47 y48 x137 h50))
def F212 (B : World) (R : Ending → Heap → Prop) (a1 : Bool) (a2 : Bool) (a3 : Bool) (a4 : Bool) (a5 : Option Addr) (a5n : Nat) (a5c : Nat) (a6 : Int) (a7 : Bool) (a8 : Bool) (a9 : Bool) (a10 : Bool) (a11 : Option Addr) (a11n : Nat) (a11c : Nat) (a12 : Int) (h : Heap) : Prop :=
  alW h (.cells #[.bool a1, .bool a2, .bool a3, .bool a4, .slice a5 a5n a5c, .int .i64 a6] 182) fun r13 h14 =>
 alW h14 (.cells #[.bool a7, .bool a8, .bool a9, .bool a10, .slice a11 a11n a11c, .int .i64 a12] 182) fun r15 h16 =>
 alW h16 (.cells #[.bool false, .bool false, .bool false, .bool false, .slice none 0 0, .int .i64 0] 182) fun r17 h18 =>
 isP (some ⟨r13, 0, none⟩) fun b19 o20 =>
 isP (some ⟨b19, o20, none⟩) fun b21 o22 => ∃ x23, cell? h18 ⟨b21, o22, none⟩ = some (.bool x23) ∧
 isP (some ⟨r15, 0, none⟩) fun b24 o25 =>
 isP (some ⟨b24, o25, none⟩) fun b26 o27 => ∃ x28, cell? h18 ⟨b26, o27, none⟩ = some (.bool x28) ∧
 alW h18 (.cells #[.bool false, .bool false, .bool false, .bool false, .slice none 0 0, .int .i64 0] 182) fun r29 h30 =>
 isP (some ⟨r29, 0, none⟩) fun b31 o32 => stC h30 b31 o32 (.bool (!(x23 == x28))) fun h33 =>
 stC h33 b31 (o32 + 1) (.bool false) fun h34 =>
 stC h34 b31 (o32 + 1 + 1) (.bool false) fun h35 =>
 stC h35 b31 (o32 + 1 + 1 + 1) (.bool false) fun h36 =>
 stC h36 b31 (o32 + 1 + 1 + 1 + 1) (.slice none 0 0) fun h37 =>
 stC h37 b31 (o32 + 1 + 1 + 1 + 1 + 1) (.int .i64 0) fun h38 =>
 isP (some ⟨r13, 0, none⟩) fun b39 o40 =>
 isP (some ⟨b39, o40 + 1, none⟩) fun b41 o42 => ∃ x43, cell? h38 ⟨b41, o42, none⟩ = some (.bool x43) ∧
(x43 = true →
 (true = true →
 (true = true →
 F212_j44 B R (some ⟨r13, 0, none⟩) (some ⟨r15, 0, none⟩) (some ⟨r17, 0, none⟩) (some ⟨r29, 0, none⟩) true h38) ∧
(true = false →
 isP (some ⟨r15, 0, none⟩) fun b138 o139 =>
 isP (some ⟨b138, o139 + 2, none⟩) fun b140 o141 => ∃ x142, cell? h38 ⟨b140, o141, none⟩ = some (.bool x142) ∧
(x142 = true →
 isP (some ⟨r13, 0, none⟩) fun b143 o144 =>
∃ x145, cell? h38 ⟨b143, o144, none⟩ = some (.bool x145) ∧
∃ x146, cell? h38 ⟨b143, o144 + 1, none⟩ = some (.bool x146) ∧
∃ x147, cell? h38 ⟨b143, o144 + 1 + 1, none⟩ = some (.bool x147) ∧
∃ x148, cell? h38 ⟨b143, o144 + 1 + 1 + 1, none⟩ = some (.bool x148) ∧
∃ x149 x149n x149c, cell? h38 ⟨b143, o144 + 1 + 1 + 1 + 1, none⟩ = some (.slice x149 x149n x149c) ∧
∃ x150, cell? h38 ⟨b143, o144 + 1 + 1 + 1 + 1 + 1, none⟩ = some (.int .i64 x150) ∧
 Ent Tryz.prog B 236 #[.agg #[.bool x145, .bool x146, .bool x147, .bool x148, .slice x149 x149n x149c, .int .i64 x150]] (retE (fun v151 h152 => ∃ x155, v151 = .bool x155 ∧
 F212_j44 B R (some ⟨r13, 0, none⟩) (some ⟨r15, 0, none⟩) (some ⟨r17, 0, none⟩) (some ⟨r29, 0, none⟩) x155 h152)
 (fun ch153 h154 => R (.panicked ch153) h154)) h38) ∧
(x142 = false →
 F212_j44 B R (some ⟨r13, 0, none⟩) (some ⟨r15, 0, none⟩) (some ⟨r17, 0, none⟩) (some ⟨r29, 0, none⟩) false h38))) ∧
(true = false →
 isP (some ⟨r13, 0, none⟩) fun b156 o157 =>
 isP (some ⟨b156, o157 + 2, none⟩) fun b158 o159 => ∃ x160, cell? h38 ⟨b158, o159, none⟩ = some (.bool x160) ∧
(x160 = true →
 isP (some ⟨r15, 0, none⟩) fun b161 o162 =>
∃ x163, cell? h38 ⟨b161, o162, none⟩ = some (.bool x163) ∧
∃ x164, cell? h38 ⟨b161, o162 + 1, none⟩ = some (.bool x164) ∧
∃ x165, cell? h38 ⟨b161, o162 + 1 + 1, none⟩ = some (.bool x165) ∧
∃ x166, cell? h38 ⟨b161, o162 + 1 + 1 + 1, none⟩ = some (.bool x166) ∧
∃ x167 x167n x167c, cell? h38 ⟨b161, o162 + 1 + 1 + 1 + 1, none⟩ = some (.slice x167 x167n x167c) ∧
∃ x168, cell? h38 ⟨b161, o162 + 1 + 1 + 1 + 1 + 1, none⟩ = some (.int .i64 x168) ∧
 Ent Tryz.prog B 236 #[.agg #[.bool x163, .bool x164, .bool x165, .bool x166, .slice x167 x167n x167c, .int .i64 x168]] (retE (fun v169 h170 => ∃ x173, v169 = .bool x173 ∧
(x173 = true →
 F212_j44 B R (some ⟨r13, 0, none⟩) (some ⟨r15, 0, none⟩) (some ⟨r17, 0, none⟩) (some ⟨r29, 0, none⟩) true h170) ∧
(x173 = false →
 isP (some ⟨r15, 0, none⟩) fun b174 o175 =>
 isP (some ⟨b174, o175 + 2, none⟩) fun b176 o177 => ∃ x178, cell? h170 ⟨b176, o177, none⟩ = some (.bool x178) ∧
(x178 = true →
 isP (some ⟨r13, 0, none⟩) fun b179 o180 =>
∃ x181, cell? h170 ⟨b179, o180, none⟩ = some (.bool x181) ∧
∃ x182, cell? h170 ⟨b179, o180 + 1, none⟩ = some (.bool x182) ∧
∃ x183, cell? h170 ⟨b179, o180 + 1 + 1, none⟩ = some (.bool x183) ∧
∃ x184, cell? h170 ⟨b179, o180 + 1 + 1 + 1, none⟩ = some (.bool x184) ∧
∃ x185 x185n x185c, cell? h170 ⟨b179, o180 + 1 + 1 + 1 + 1, none⟩ = some (.slice x185 x185n x185c) ∧
∃ x186, cell? h170 ⟨b179, o180 + 1 + 1 + 1 + 1 + 1, none⟩ = some (.int .i64 x186) ∧
 Ent Tryz.prog B 236 #[.agg #[.bool x181, .bool x182, .bool x183, .bool x184, .slice x185 x185n x185c, .int .i64 x186]] (retE (fun v187 h188 => ∃ x191, v187 = .bool x191 ∧
 F212_j44 B R (some ⟨r13, 0, none⟩) (some ⟨r15, 0, none⟩) (some ⟨r17, 0, none⟩) (some ⟨r29, 0, none⟩) x191 h188)
 (fun ch189 h190 => R (.panicked ch189) h190)) h170) ∧
(x178 = false →
 F212_j44 B R (some ⟨r13, 0, none⟩) (some ⟨r15, 0, none⟩) (some ⟨r17, 0, none⟩) (some ⟨r29, 0, none⟩) false h170)))
 (fun ch171 h172 => R (.panicked ch171) h172)) h38) ∧
(x160 = false →
 (false = true →
 F212_j44 B R (some ⟨r13, 0, none⟩) (some ⟨r15, 0, none⟩) (some ⟨r17, 0, none⟩) (some ⟨r29, 0, none⟩) true h38) ∧
(false = false →
 isP (some ⟨r15, 0, none⟩) fun b192 o193 =>
 isP (some ⟨b192, o193 + 2, none⟩) fun b194 o195 => ∃ x196, cell? h38 ⟨b194, o195, none⟩ = some (.bool x196) ∧
(x196 = true →
 isP (some ⟨r13, 0, none⟩) fun b197 o198 =>
∃ x199, cell? h38 ⟨b197, o198, none⟩ = some (.bool x199) ∧
∃ x200, cell? h38 ⟨b197, o198 + 1, none⟩ = some (.bool x200) ∧
∃ x201, cell? h38 ⟨b197, o198 + 1 + 1, none⟩ = some (.bool x201) ∧
∃ x202, cell? h38 ⟨b197, o198 + 1 + 1 + 1, none⟩ = some (.bool x202) ∧
∃ x203 x203n x203c, cell? h38 ⟨b197, o198 + 1 + 1 + 1 + 1, none⟩ = some (.slice x203 x203n x203c) ∧
∃ x204, cell? h38 ⟨b197, o198 + 1 + 1 + 1 + 1 + 1, none⟩ = some (.int .i64 x204) ∧
 Ent Tryz.prog B 236 #[.agg #[.bool x199, .bool x200, .bool x201, .bool x202, .slice x203 x203n x203c, .int .i64 x204]] (retE (fun v205 h206 => ∃ x209, v205 = .bool x209 ∧
 F212_j44 B R (some ⟨r13, 0, none⟩) (some ⟨r15, 0, none⟩) (some ⟨r17, 0, none⟩) (some ⟨r29, 0, none⟩) x209 h206)
 (fun ch207 h208 => R (.panicked ch207) h208)) h38) ∧
(x196 = false →
 F212_j44 B R (some ⟨r13, 0, none⟩) (some ⟨r15, 0, none⟩) (some ⟨r17, 0, none⟩) (some ⟨r29, 0, none⟩) false h38))))) ∧
(x43 = false →
 isP (some ⟨r15, 0, none⟩) fun b210 o211 =>
 isP (some ⟨b210, o211 + 1, none⟩) fun b212 o213 => ∃ x214, cell? h38 ⟨b212, o213, none⟩ = some (.bool x214) ∧
(x214 = true →
 (true = true →
 F212_j44 B R (some ⟨r13, 0, none⟩) (some ⟨r15, 0, none⟩) (some ⟨r17, 0, none⟩) (some ⟨r29, 0, none⟩) true h38) ∧
(true = false →
 isP (some ⟨r15, 0, none⟩) fun b215 o216 =>
 isP (some ⟨b215, o216 + 2, none⟩) fun b217 o218 => ∃ x219, cell? h38 ⟨b217, o218, none⟩ = some (.bool x219) ∧
(x219 = true →
 isP (some ⟨r13, 0, none⟩) fun b220 o221 =>
∃ x222, cell? h38 ⟨b220, o221, none⟩ = some (.bool x222) ∧
∃ x223, cell? h38 ⟨b220, o221 + 1, none⟩ = some (.bool x223) ∧
∃ x224, cell? h38 ⟨b220, o221 + 1 + 1, none⟩ = some (.bool x224) ∧
∃ x225, cell? h38 ⟨b220, o221 + 1 + 1 + 1, none⟩ = some (.bool x225) ∧
∃ x226 x226n x226c, cell? h38 ⟨b220, o221 + 1 + 1 + 1 + 1, none⟩ = some (.slice x226 x226n x226c) ∧
∃ x227, cell? h38 ⟨b220, o221 + 1 + 1 + 1 + 1 + 1, none⟩ = some (.int .i64 x227) ∧
 Ent Tryz.prog B 236 #[.agg #[.bool x222, .bool x223, .bool x224, .bool x225, .slice x226 x226n x226c, .int .i64 x227]] (retE (fun v228 h229 => ∃ x232, v228 = .bool x232 ∧
 F212_j44 B R (some ⟨r13, 0, none⟩) (some ⟨r15, 0, none⟩) (some ⟨r17, 0, none⟩) (some ⟨r29, 0, none⟩) x232 h229)
 (fun ch230 h231 => R (.panicked ch230) h231)) h38) ∧
(x219 = false →
 F212_j44 B R (some ⟨r13, 0, none⟩) (some ⟨r15, 0, none⟩) (some ⟨r17, 0, none⟩) (some ⟨r29, 0, none⟩) false h38))) ∧
(x214 = false →
 isP (some ⟨r13, 0, none⟩) fun b233 o234 =>
 isP (some ⟨b233, o234 + 2, none⟩) fun b235 o236 => ∃ x237, cell? h38 ⟨b235, o236, none⟩ = some (.bool x237) ∧
(x237 = true →
 isP (some ⟨r15, 0, none⟩) fun b238 o239 =>
∃ x240, cell? h38 ⟨b238, o239, none⟩ = some (.bool x240) ∧
∃ x241, cell? h38 ⟨b238, o239 + 1, none⟩ = some (.bool x241) ∧
∃ x242, cell? h38 ⟨b238, o239 + 1 + 1, none⟩ = some (.bool x242) ∧
∃ x243, cell? h38 ⟨b238, o239 + 1 + 1 + 1, none⟩ = some (.bool x243) ∧
∃ x244 x244n x244c, cell? h38 ⟨b238, o239 + 1 + 1 + 1 + 1, none⟩ = some (.slice x244 x244n x244c) ∧
∃ x245, cell? h38 ⟨b238, o239 + 1 + 1 + 1 + 1 + 1, none⟩ = some (.int .i64 x245) ∧
 Ent Tryz.prog B 236 #[.agg #[.bool x240, .bool x241, .bool x242, .bool x243, .slice x244 x244n x244c, .int .i64 x245]] (retE (fun v246 h247 => ∃ x250, v246 = .bool x250 ∧
(x250 = true →
 F212_j44 B R (some ⟨r13, 0, none⟩) (some ⟨r15, 0, none⟩) (some ⟨r17, 0, none⟩) (some ⟨r29, 0, none⟩) true h247) ∧
(x250 = false →
 isP (some ⟨r15, 0, none⟩) fun b251 o252 =>
 isP (some ⟨b251, o252 + 2, none⟩) fun b253 o254 => ∃ x255, cell? h247 ⟨b253, o254, none⟩ = some (.bool x255) ∧
(x255 = true →
 isP (some ⟨r13, 0, none⟩) fun b256 o257 =>
∃ x258, cell? h247 ⟨b256, o257, none⟩ = some (.bool x258) ∧
∃ x259, cell? h247 ⟨b256, o257 + 1, none⟩ = some (.bool x259) ∧
∃ x260, cell? h247 ⟨b256, o257 + 1 + 1, none⟩ = some (.bool x260) ∧
∃ x261, cell? h247 ⟨b256, o257 + 1 + 1 + 1, none⟩ = some (.bool x261) ∧
∃ x262 x262n x262c, cell? h247 ⟨b256, o257 + 1 + 1 + 1 + 1, none⟩ = some (.slice x262 x262n x262c) ∧
∃ x263, cell? h247 ⟨b256, o257 + 1 + 1 + 1 + 1 + 1, none⟩ = some (.int .i64 x263) ∧
 Ent Tryz.prog B 236 #[.agg #[.bool x258, .bool x259, .bool x260, .bool x261, .slice x262 x262n x262c, .int .i64 x263]] (retE (fun v264 h265 => ∃ x268, v264 = .bool x268 ∧
 F212_j44 B R (some ⟨r13, 0, none⟩) (some ⟨r15, 0, none⟩) (some ⟨r17, 0, none⟩) (some ⟨r29, 0, none⟩) x268 h265)
 (fun ch266 h267 => R (.panicked ch266) h267)) h247) ∧
(x255 = false →
 F212_j44 B R (some ⟨r13, 0, none⟩) (some ⟨r15, 0, none⟩) (some ⟨r17, 0, none⟩) (some ⟨r29, 0, none⟩) false h247)))
 (fun ch248 h249 => R (.panicked ch248) h249)) h38) ∧
(x237 = false →
 (false = true →
 F212_j44 B R (some ⟨r13, 0, none⟩) (some ⟨r15, 0, none⟩) (some ⟨r17, 0, none⟩) (some ⟨r29, 0, none⟩) true h38) ∧
(false = false →
 isP (some ⟨r15, 0, none⟩) fun b269 o270 =>
 isP (some ⟨b269, o270 + 2, none⟩) fun b271 o272 => ∃ x273, cell? h38 ⟨b271, o272, none⟩ = some (.bool x273) ∧
(x273 = true →
 isP (some ⟨r13, 0, none⟩) fun b274 o275 =>
∃ x276, cell? h38 ⟨b274, o275, none⟩ = some (.bool x276) ∧
∃ x277, cell? h38 ⟨b274, o275 + 1, none⟩ = some (.bool x277) ∧
∃ x278, cell? h38 ⟨b274, o275 + 1 + 1, none⟩ = some (.bool x278) ∧
∃ x279, cell? h38 ⟨b274, o275 + 1 + 1 + 1, none⟩ = some (.bool x279) ∧
∃ x280 x280n x280c, cell? h38 ⟨b274, o275 + 1 + 1 + 1 + 1, none⟩ = some (.slice x280 x280n x280c) ∧
∃ x281, cell? h38 ⟨b274, o275 + 1 + 1 + 1 + 1 + 1, none⟩ = some (.int .i64 x281) ∧
 Ent Tryz.prog B 236 #[.agg #[.bool x276, .bool x277, .bool x278, .bool x279, .slice x280 x280n x280c, .int .i64 x281]] (retE (fun v282 h283 => ∃ x286, v282 = .bool x286 ∧
 F212_j44 B R (some ⟨r13, 0, none⟩) (some ⟨r15, 0, none⟩) (some ⟨r17, 0, none⟩) (some ⟨r29, 0, none⟩) x286 h283)
 (fun ch284 h285 => R (.panicked ch284) h285)) h38) ∧
(x273 = false →
 F212_j44 B R (some ⟨r13, 0, none⟩) (some ⟨r15, 0, none⟩) (some ⟨r17, 0, none⟩) (some ⟨r29, 0, none⟩) false h38)))))
def F212_L : Nat → List (Nat × TypeDesc) := fun _ => []
theorem F212_W (B : World) (R : Ending → Heap → Prop) (a1 : Bool) (a2 : Bool) (a3 : Bool) (a4 : Bool) (a5 : Option Addr) (a5n : Nat) (a5c : Nat) (a6 : Int) (a7 : Bool) (a8 : Bool) (a9 : Bool) (a10 : Bool) (a11 : Option Addr) (a11n : Nat) (a11c : Nat) (a12 : Int) (h : Heap) : W Tryz.prog B Tryz.f212.ntmps F212_L (prune [] (codeOf Tryz.f212)) (endQ Tryz.prog Tryz.f212 R) (env0 #[.agg #[.bool a1, .bool a2, .bool a3, .bool a4, .slice a5 a5n a5c, .int .i64 a6], .agg #[.bool a7, .bool a8, .bool a9, .bool a10, .slice a11 a11n a11c, .int .i64 a12]]) h = F212 B R a1 a2 a3 a4 a5 a5n a5c a6 a7 a8 a9 a10 a11 a11n a11c a12 h := by kernel_rfl
theorem F212_ok {B : World} {R : Ending → Heap → Prop} (a1 : Bool) (a2 : Bool) (a3 : Bool) (a4 : Bool) (a5 : Option Addr) (a5n : Nat) (a5c : Nat) (a6 : Int) (a7 : Bool) (a8 : Bool) (a9 : Bool) (a10 : Bool) (a11 : Option Addr) (a11n : Nat) (a11c : Nat) (a12 : Int) {h : Heap} (H : F212 B R a1 a2 a3 a4 a5 a5n a5c a6 a7 a8 a9 a10 a11 a11n a11c a12 h) : Ent Tryz.prog B 212 #[.agg #[.bool a1, .bool a2, .bool a3, .bool a4, .slice a5 a5n a5c, .int .i64 a6], .agg #[.bool a7, .bool a8, .bool a9, .bool a10, .slice a11 a11n a11c, .int .i64 a12]] R h :=
  Ent_of_W mixed Tryz.func212 (by kernel_rfl) (by kernel_rfl) (by kernel_rfl) F212_L [] (by rw [F212_W]; exact H)

/-- plumb/plumbref3.Neg -/
def F213_j23 (B : World) (R : Ending → Heap → Prop) (y24 : Option Addr) (y25 : Option Addr) (h26 : Heap) : Prop :=
  isP y24 fun b27 o28 =>
∃ x29, cell? h26 ⟨b27, o28, none⟩ = some (.bool x29) ∧
∃ x30 x30n x30c, cell? h26 ⟨b27, o28 + 1, none⟩ = some (.slice x30 x30n x30c) ∧
∃ x31, cell? h26 ⟨b27, o28 + 1 + 1, none⟩ = some (.int .i64 x31) ∧
 isP y25 fun b32 o33 => stC h26 b32 o33 (.bool x29) fun h34 =>
 stC h34 b32 (o33 + 1) (.slice x30 x30n x30c) fun h35 =>
 stC h35 b32 (o33 + 1 + 1) (.int .i64 x31) fun h36 =>
 isP y25 fun b37 o38 =>
∃ x39, cell? h36 ⟨b37, o38, none⟩ = some (.bool x39) ∧
∃ x40 x40n x40c, cell? h36 ⟨b37, o38 + 1, none⟩ = some (.slice x40 x40n x40c) ∧
∃ x41, cell? h36 ⟨b37, o38 + 1 + 1, none⟩ = some (.int .i64 x41) ∧
 R (.returned (.agg #[.bool x39, .slice x40 x40n x40c, .int .i64 x41])) h36
def F213 (B : World) (R : Ending → Heap → Prop) (a1 : Bool) (a2 : Option Addr) (a2n : Nat) (a2c : Nat) (a3 : Int) (h : Heap) : Prop :=
  alW h (.cells #[.bool a1, .slice a2 a2n a2c, .int .i64 a3] 29) fun r4 h5 =>
 alW h5 (.cells #[.bool false, .slice none 0 0, .int .i64 0] 29) fun r6 h7 =>
 isP (some ⟨r4, 0, none⟩) fun b8 o9 =>
 isP (some ⟨b8, o9 + 1, none⟩) fun b10 o11 => ∃ x12 x12n x12c, cell? h7 ⟨b10, o11, none⟩ = some (.slice x12 x12n x12c) ∧
((decide ((0 : Int) < ((x12n : Nat) : Int))) = true →
 isP (some ⟨r4, 0, none⟩) fun b13 o14 =>
 isP (some ⟨b13, o14, none⟩) fun b15 o16 => ∃ x17, cell? h7 ⟨b15, o16, none⟩ = some (.bool x17) ∧
 isP (some ⟨r4, 0, none⟩) fun b18 o19 =>
 isP (some ⟨b18, o19, none⟩) fun b20 o21 => stC h7 b20 o21 (.bool (!x17)) fun h22 =>
 F213_j23 B R (some ⟨r4, 0, none⟩) (some ⟨r6, 0, none⟩) h22) ∧
((decide ((0 : Int) < ((x12n : Nat) : Int))) = false →
 F213_j23 B R (some ⟨r4, 0, none⟩) (some ⟨r6, 0, none⟩) h7)
def F213_L : Nat → List (Nat × TypeDesc) := fun _ => []
theorem F213_W (B : World) (R : Ending → Heap → Prop) (a1 : Bool) (a2 : Option Addr) (a2n : Nat) (a2c : Nat) (a3 : Int) (h : Heap) : W Tryz.prog B Tryz.f213.ntmps F213_L (prune [] (codeOf Tryz.f213)) (endQ Tryz.prog Tryz.f213 R) (env0 #[.agg #[.bool a1, .slice a2 a2n a2c, .int .i64 a3]]) h = F213 B R a1 a2 a2n a2c a3 h := by kernel_rfl
theorem F213_ok {B : World} {R : Ending → Heap → Prop} (a1 : Bool) (a2 : Option Addr) (a2n : Nat) (a2c : Nat) (a3 : Int) {h : Heap} (H : F213 B R a1 a2 a2n a2c a3 h) : Ent Tryz.prog B 213 #[.agg #[.bool a1, .slice a2 a2n a2c, .int .i64 a3]] R h :=
  Ent_of_W mixed Tryz.func213 (by kernel_rfl) (by kernel_rfl) (by kernel_rfl) F213_L [] (by rw [F213_W]; exact H)

/-- (plumb/plumbref4.Kind).NaN -/
def F234 (B : World) (R : Ending → Heap → Prop) (a1 : Int) (a2 : Int) (a3 : Int) (a4 : Int) (a5 : Int) (h : Heap) : Prop :=
  alW h (.cells #[.int .i64 a1, .int .i64 a2, .int .i64 a3, .int .i64 a4, .int .i64 a5] 166) fun r6 h7 =>
 isP (some ⟨r6, 0, none⟩) fun b8 o9 =>
 isP (some ⟨b8, o9, none⟩) fun b10 o11 => ∃ x12, cell? h7 ⟨b10, o11, none⟩ = some (.int .i64 x12) ∧
((decide (x12 = (53 : Int))) = true →
 R (.returned (.int .i64 (9221120237041090561 : Int))) h7) ∧
((decide (x12 = (53 : Int))) = false →
 R (.returned (.int .i64 (2143289345 : Int))) h7)
def F234_L : Nat → List (Nat × TypeDesc) := fun _ => []
theorem F234_W (B : World) (R : Ending → Heap → Prop) (a1 : Int) (a2 : Int) (a3 : Int) (a4 : Int) (a5 : Int) (h : Heap) : W Tryz.prog B Tryz.f234.ntmps F234_L (prune [] (codeOf Tryz.f234)) (endQ Tryz.prog Tryz.f234 R) (env0 #[.agg #[.int .i64 a1, .int .i64 a2, .int .i64 a3, .int .i64 a4, .int .i64 a5]]) h = F234 B R a1 a2 a3 a4 a5 h := by kernel_rfl
theorem F234_ok {B : World} {R : Ending → Heap → Prop} (a1 : Int) (a2 : Int) (a3 : Int) (a4 : Int) (a5 : Int) {h : Heap} (H : F234 B R a1 a2 a3 a4 a5 h) : Ent Tryz.prog B 234 #[.agg #[.int .i64 a1, .int .i64 a2, .int .i64 a3, .int .i64 a4, .int .i64 a5]] R h :=
  Ent_of_W mixed Tryz.func234 (by kernel_rfl) (by kernel_rfl) (by kernel_rfl) F234_L [] (by rw [F234_W]; exact H)

/-- (plumb/plumbref4.Kind).signed -/
def F235 (B : World) (R : Ending → Heap → Prop) (a1 : Int) (a2 : Int) (a3 : Int) (a4 : Int) (a5 : Int) (a6 : Bool) (a7 : Int) (h : Heap) : Prop :=
  alW h (.cells #[.int .i64 a1, .int .i64 a2, .int .i64 a3, .int .i64 a4, .int .i64 a5] 166) fun r8 h9 =>
(a6 = true →
 isP (some ⟨r8, 0, none⟩) fun b10 o11 =>
 isP (some ⟨b10, o11 + 4, none⟩) fun b12 o13 => ∃ x14, cell? h9 ⟨b12, o13, none⟩ = some (.int .i64 x14) ∧
 R (.returned (.int .i64 (IntKind.i64.wrap (a7 + x14)))) h9) ∧
(a6 = false →
 R (.returned (.int .i64 a7)) h9)
def F235_L : Nat → List (Nat × TypeDesc) := fun _ => []
theorem F235_W (B : World) (R : Ending → Heap → Prop) (a1 : Int) (a2 : Int) (a3 : Int) (a4 : Int) (a5 : Int) (a6 : Bool) (a7 : Int) (h : Heap) : W Tryz.prog B Tryz.f235.ntmps F235_L (prune [] (codeOf Tryz.f235)) (endQ Tryz.prog Tryz.f235 R) (env0 #[.agg #[.int .i64 a1, .int .i64 a2, .int .i64 a3, .int .i64 a4, .int .i64 a5], .bool a6, .int .i64 a7]) h = F235 B R a1 a2 a3 a4 a5 a6 a7 h := by kernel_rfl
theorem F235_ok {B : World} {R : Ending → Heap → Prop} (a1 : Int) (a2 : Int) (a3 : Int) (a4 : Int) (a5 : Int) (a6 : Bool) (a7 : Int) {h : Heap} (H : F235 B R a1 a2 a3 a4 a5 a6 a7 h) : Ent Tryz.prog B 235 #[.agg #[.int .i64 a1, .int .i64 a2, .int .i64 a3, .int .i64 a4, .int .i64 a5], .bool a6, .int .i64 a7] R h :=
  Ent_of_W mixed Tryz.func235 (by kernel_rfl) (by kernel_rfl) (by kernel_rfl) F235_L [] (by rw [F235_W]; exact H)

/-- plumb/plumbref4.zero -/
def F236_j26 (B : World) (R : Ending → Heap → Prop) (y27 : Bool) (h28 : Heap) : Prop :=
  R (.returned (.bool y27)) h28
def F236 (B : World) (R : Ending → Heap → Prop) (a1 : Bool) (a2 : Bool) (a3 : Bool) (a4 : Bool) (a5 : Option Addr) (a5n : Nat) (a5c : Nat) (a6 : Int) (h : Heap) : Prop :=
  alW h (.cells #[.bool a1, .bool a2, .bool a3, .bool a4, .slice a5 a5n a5c, .int .i64 a6] 182) fun r7 h8 =>
 isP (some ⟨r7, 0, none⟩) fun b9 o10 =>
 isP (some ⟨b9, o10 + 1, none⟩) fun b11 o12 => ∃ x13, cell? h8 ⟨b11, o12, none⟩ = some (.bool x13) ∧
((!x13) = true →
 isP (some ⟨r7, 0, none⟩) fun b14 o15 =>
 isP (some ⟨b14, o15 + 2, none⟩) fun b16 o17 => ∃ x18, cell? h8 ⟨b16, o17, none⟩ = some (.bool x18) ∧
((!x18) = true →
 isP (some ⟨r7, 0, none⟩) fun b19 o20 =>
 isP (some ⟨b19, o20 + 3, none⟩) fun b21 o22 =>
 isP (some ⟨b21, o22 + 1, none⟩) fun b23 o24 => ∃ x25 x25n x25c, cell? h8 ⟨b23, o24, none⟩ = some (.slice x25 x25n x25c) ∧
 F236_j26 B R (decide (((x25n : Nat) : Int) = (0 : Int))) h8) ∧
((!x18) = false →
 F236_j26 B R false h8)) ∧
((!x13) = false →
 (false = true →
 isP (some ⟨r7, 0, none⟩) fun b29 o30 =>
 isP (some ⟨b29, o30 + 3, none⟩) fun b31 o32 =>
 isP (some ⟨b31, o32 + 1, none⟩) fun b33 o34 => ∃ x35 x35n x35c, cell? h8 ⟨b33, o34, none⟩ = some (.slice x35 x35n x35c) ∧
 F236_j26 B R (decide (((x35n : Nat) : Int) = (0 : Int))) h8) ∧
(false = false →
 F236_j26 B R false h8))
def F236_L : Nat → List (Nat × TypeDesc) := fun _ => []
theorem F236_W (B : World) (R : Ending → Heap → Prop) (a1 : Bool) (a2 : Bool) (a3 : Bool) (a4 : Bool) (a5 : Option Addr) (a5n : Nat) (a5c : Nat) (a6 : Int) (h : Heap) : W Tryz.prog B Tryz.f236.ntmps F236_L (prune [] (codeOf Tryz.f236)) (endQ Tryz.prog Tryz.f236 R) (env0 #[.agg #[.bool a1, .bool a2, .bool a3, .bool a4, .slice a5 a5n a5c, .int .i64 a6]]) h = F236 B R a1 a2 a3 a4 a5 a5n a5c a6 h := by kernel_rfl
theorem F236_ok {B : World} {R : Ending → Heap → Prop} (a1 : Bool) (a2 : Bool) (a3 : Bool) (a4 : Bool) (a5 : Option Addr) (a5n : Nat) (a5c : Nat) (a6 : Int) {h : Heap} (H : F236 B R a1 a2 a3 a4 a5 a5n a5c a6 h) : Ent Tryz.prog B 236 #[.agg #[.bool a1, .bool a2, .bool a3, .bool a4, .slice a5 a5n a5c, .int .i64 a6]] R h :=
  Ent_of_W mixed Tryz.func236 (by kernel_rfl) (by kernel_rfl) (by kernel_rfl) F236_L [] (by rw [F236_W]; exact H)

/-- plumb/plumbref2.Bits -/
def F253 (B : World) (R : Ending → Heap → Prop) (a1 : Option Addr) (a1n : Nat) (a1c : Nat) (h : Heap) : Prop :=
  ((decide (((a1n : Nat) : Int) = (0 : Int))) = true →
 R (.returned (.int .i64 (0 : Int))) h) ∧
((decide (((a1n : Nat) : Int) = (0 : Int))) = false →
 ixW a1 a1n (IntKind.i64.wrap (((a1n : Nat) : Int) - (1 : Int))) 1 fun b2 o3 =>
 isP (some ⟨b2, o3, none⟩) fun b4 o5 => ∃ x6, cell? h ⟨b4, o5, none⟩ = some (.int .i64 x6) ∧
∃ I7 : Nat → List Value → Heap → Prop, ∃ n8, I7 n8 [.int .i64 (IntKind.i64.wrap ((30 : Int) * (IntKind.i64.wrap (((a1n : Nat) : Int) - (1 : Int))))), .int .i64 x6] h ∧
∀ (n9 : Nat) (h12 : Heap) (z10 : Int) (z11 : Int), I7 n9 [.int .i64 z10, .int .i64 z11] h12 → ∀ _r : Nat → Value,
 ((decide ((0 : Int) < z11)) = true →
 (2 : Int) ≠ 0 ∧
∃ m13, m13 < n9 ∧ I7 m13 [.int .i64 (IntKind.i64.wrap (z10 + (1 : Int))), .int .i64 (IntKind.i64.wrap (Int.tdiv z11 (2 : Int)))] h12) ∧
((decide ((0 : Int) < z11)) = false →
 R (.returned (.int .i64 z10)) h12))
def F253_L : Nat → List (Nat × TypeDesc) := fun i => match i with
  | 5 => [(3, .int .i64), (4, .int .i64)]
  | _ => []
theorem F253_W (B : World) (R : Ending → Heap → Prop) (a1 : Option Addr) (a1n : Nat) (a1c : Nat) (h : Heap) : W Tryz.prog B Tryz.f253.ntmps F253_L (prune [] (codeOf Tryz.f253)) (endQ Tryz.prog Tryz.f253 R) (env0 #[.slice a1 a1n a1c]) h = F253 B R a1 a1n a1c h := by kernel_rfl
theorem F253_ok {B : World} {R : Ending → Heap → Prop} (a1 : Option Addr) (a1n : Nat) (a1c : Nat) {h : Heap} (H : F253 B R a1 a1n a1c h) : Ent Tryz.prog B 253 #[.slice a1 a1n a1c] R h :=
  Ent_of_W mixed Tryz.func253 (by kernel_rfl) (by kernel_rfl) (by kernel_rfl) F253_L [] (by rw [F253_W]; exact H)

/-- plumb/plumbref2.Bit -/
def F254_j3 (B : World) (R : Ending → Heap → Prop) (y4 : Option Addr) (y4n : Nat) (y4c : Nat) (y5 : Int) (y6 : Bool) (h7 : Heap) : Prop :=
  (y6 = true →
 R (.returned (.bool false)) h7) ∧
(y6 = false →
 (30 : Int) ≠ 0 ∧
 ixW y4 y4n (IntKind.i64.wrap (Int.tdiv y5 (30 : Int))) 1 fun b8 o9 =>
 isP (some ⟨b8, o9, none⟩) fun b10 o11 => ∃ x12, cell? h7 ⟨b10, o11, none⟩ = some (.int .i64 x12) ∧
(30 : Int) ≠ 0 ∧
0 ≤ (Int.tmod y5 (30 : Int)) ∧
(2 : Int) ≠ 0 ∧
 R (.returned (.bool (decide ((Int.tmod (Int.fdiv x12 (2 ^ min (Int.toNat (Int.tmod y5 (30 : Int))) IntKind.i64.bits)) (2 : Int)) = (1 : Int))))) h7)
def F254 (B : World) (R : Ending → Heap → Prop) (a1 : Option Addr) (a1n : Nat) (a1c : Nat) (a2 : Int) (h : Heap) : Prop :=
  ((decide (a2 < (0 : Int))) = true →
 F254_j3 B R a1 a1n a1c a2 true h) ∧
((decide (a2 < (0 : Int))) = false →
 (30 : Int) ≠ 0 ∧
 F254_j3 B R a1 a1n a1c a2 (decide (((a1n : Nat) : Int) ≤ (IntKind.i64.wrap (Int.tdiv a2 (30 : Int))))) h)
def F254_L : Nat → List (Nat × TypeDesc) := fun _ => []
theorem F254_W (B : World) (R : Ending → Heap → Prop) (a1 : Option Addr) (a1n : Nat) (a1c : Nat) (a2 : Int) (h : Heap) : W Tryz.prog B Tryz.f254.ntmps F254_L (prune [] (codeOf Tryz.f254)) (endQ Tryz.prog Tryz.f254 R) (env0 #[.slice a1 a1n a1c, .int .i64 a2]) h = F254 B R a1 a1n a1c a2 h := by kernel_rfl
theorem F254_ok {B : World} {R : Ending → Heap → Prop} (a1 : Option Addr) (a1n : Nat) (a1c : Nat) (a2 : Int) {h : Heap} (H : F254 B R a1 a1n a1c a2 h) : Ent Tryz.prog B 254 #[.slice a1 a1n a1c, .int .i64 a2] R h :=
  Ent_of_W mixed Tryz.func254 (by kernel_rfl) (by kernel_rfl) (by kernel_rfl) F254_L [] (by rw [F254_W]; exact H)

/-- plumb/plumbref4.bitsOf -/
def F255 (B : World) (R : Ending → Heap → Prop) (a1 : Int) (h : Heap) : Prop :=
  ∃ I2 : Nat → List Value → Heap → Prop, ∃ n3, I2 n3 [.int .i64 a1, .int .i64 (0 : Int)] h ∧
∀ (n4 : Nat) (h7 : Heap) (z5 : Int) (z6 : Int), I2 n4 [.int .i64 z5, .int .i64 z6] h7 → ∀ _r : Nat → Value,
 ((decide ((0 : Int) < z5)) = true →
 (2 : Int) ≠ 0 ∧
∃ m8, m8 < n4 ∧ I2 m8 [.int .i64 (IntKind.i64.wrap (Int.tdiv z5 (2 : Int))), .int .i64 (IntKind.i64.wrap (z6 + (1 : Int)))] h7) ∧
((decide ((0 : Int) < z5)) = false →
 R (.returned (.int .i64 z6)) h7)
def F255_L : Nat → List (Nat × TypeDesc) := fun i => match i with
  | 2 => [(0, .int .i64), (3, .int .i64)]
  | _ => []
theorem F255_W (B : World) (R : Ending → Heap → Prop) (a1 : Int) (h : Heap) : W Tryz.prog B Tryz.f255.ntmps F255_L (prune [] (codeOf Tryz.f255)) (endQ Tryz.prog Tryz.f255 R) (env0 #[.int .i64 a1]) h = F255 B R a1 h := by kernel_rfl
theorem F255_ok {B : World} {R : Ending → Heap → Prop} (a1 : Int) {h : Heap} (H : F255 B R a1 h) : Ent Tryz.prog B 255 #[.int .i64 a1] R h :=
  Ent_of_W mixed Tryz.func255 (by kernel_rfl) (by kernel_rfl) (by kernel_rfl) F255_L [] (by rw [F255_W]; exact H)

/-- (plumb/plumbref4.Kind).joined -/
def F256 (B : World) (R : Ending → Heap → Prop) (a1 : Int) (a2 : Int) (a3 : Int) (a4 : Int) (a5 : Int) (a6 : Int) (a7 : Int) (h : Heap) : Prop :=
  alW h (.cells #[.int .i64 a1, .int .i64 a2, .int .i64 a3, .int .i64 a4, .int .i64 a5] 166) fun r8 h9 =>
 isP (some ⟨r8, 0, none⟩) fun b10 o11 =>
 isP (some ⟨b10, o11, none⟩) fun b12 o13 => ∃ x14, cell? h9 ⟨b12, o13, none⟩ = some (.int .i64 x14) ∧
((decide (x14 = (53 : Int))) = true →
 Ent Tryz.prog B 115 #[.bool false, .int .i64 a6, .int .i64 a7] (retE (fun v15 h16 => ∃ x19 x20, v15 = .tuple #[.int .i64 x19, .bool x20] ∧
 R (.returned (.int .i64 x19)) h16)
 (fun ch17 h18 => R (.panicked ch17) h18)) h9) ∧
((decide (x14 = (53 : Int))) = false →
 Ent Tryz.prog B 273 #[.bool false, .int .i64 a6, .int .i64 a7] (retE (fun v21 h22 => ∃ x25 x26, v21 = .tuple #[.int .i64 x25, .bool x26] ∧
 R (.returned (.int .i64 x25)) h22)
 (fun ch23 h24 => R (.panicked ch23) h24)) h9)
def F256_L : Nat → List (Nat × TypeDesc) := fun _ => []
theorem F256_W (B : World) (R : Ending → Heap → Prop) (a1 : Int) (a2 : Int) (a3 : Int) (a4 : Int) (a5 : Int) (a6 : Int) (a7 : Int) (h : Heap) : W Tryz.prog B Tryz.f256.ntmps F256_L (prune [] (codeOf Tryz.f256)) (endQ Tryz.prog Tryz.f256 R) (env0 #[.agg #[.int .i64 a1, .int .i64 a2, .int .i64 a3, .int .i64 a4, .int .i64 a5], .int .i64 a6, .int .i64 a7]) h = F256 B R a1 a2 a3 a4 a5 a6 a7 h := by kernel_rfl
theorem F256_ok {B : World} {R : Ending → Heap → Prop} (a1 : Int) (a2 : Int) (a3 : Int) (a4 : Int) (a5 : Int) (a6 : Int) (a7 : Int) {h : Heap} (H : F256 B R a1 a2 a3 a4 a5 a6 a7 h) : Ent Tryz.prog B 256 #[.agg #[.int .i64 a1, .int .i64 a2, .int .i64 a3, .int .i64 a4, .int .i64 a5], .int .i64 a6, .int .i64 a7] R h :=
  Ent_of_W mixed Tryz.func256 (by kernel_rfl) (by kernel_rfl) (by kernel_rfl) F256_L [] (by rw [F256_W]; exact H)

/-- plumb/plumbref6.sum -/
def F132 (B : World) (R : Ending → Heap → Prop) (a1 : Int) (a2 : Int) (h : Heap) : Prop :=
  Ent Tryz.prog B 155 #[.int .i64 a1, .int .i64 a2] (retE (fun v3 h4 => ∃ x7, v3 = .int .i64 x7 ∧
 R (.returned (.int .i64 x7)) h4)
 (fun ch5 h6 => R (.panicked ch5) h6)) h
def F132_L : Nat → List (Nat × TypeDesc) := fun _ => []
theorem F132_W (B : World) (R : Ending → Heap → Prop) (a1 : Int) (a2 : Int) (h : Heap) : W Tryz.prog B Tryz.f132.ntmps F132_L (prune [] (codeOf Tryz.f132)) (endQ Tryz.prog Tryz.f132 R) (env0 #[.int .i64 a1, .int .i64 a2]) h = F132 B R a1 a2 h := by kernel_rfl
theorem F132_ok {B : World} {R : Ending → Heap → Prop} (a1 : Int) (a2 : Int) {h : Heap} (H : F132 B R a1 a2 h) : Ent Tryz.prog B 132 #[.int .i64 a1, .int .i64 a2] R h :=
  Ent_of_W mixed Tryz.func132 (by kernel_rfl) (by kernel_rfl) (by kernel_rfl) F132_L [] (by rw [F132_W]; exact H)

/-- plumb/plumbref3.Add -/
def F133_j125 (B : World) (R : Ending → Heap → Prop) (y126 : Option Addr) (h127 : Heap) : Prop :=
  isP y126 fun b128 o129 =>
∃ x130, cell? h127 ⟨b128, o129, none⟩ = some (.bool x130) ∧
∃ x131 x131n x131c, cell? h127 ⟨b128, o129 + 1, none⟩ = some (.slice x131 x131n x131c) ∧
∃ x132, cell? h127 ⟨b128, o129 + 1 + 1, none⟩ = some (.int .i64 x132) ∧
 R (.returned (.agg #[.bool x130, .slice x131 x131n x131c, .int .i64 x132])) h127
def F133_j160 (B : World) (R : Ending → Heap → Prop) (y161 : Option Addr) (h162 : Heap) : Prop :=
  isP y161 fun b163 o164 =>
∃ x165, cell? h162 ⟨b163, o164, none⟩ = some (.bool x165) ∧
∃ x166 x166n x166c, cell? h162 ⟨b163, o164 + 1, none⟩ = some (.slice x166 x166n x166c) ∧
∃ x167, cell? h162 ⟨b163, o164 + 1 + 1, none⟩ = some (.int .i64 x167) ∧
 R (.returned (.agg #[.bool x165, .slice x166 x166n x166c, .int .i64 x167])) h162
def F133_j190 (B : World) (R : Ending → Heap → Prop) (y191 : Option Addr) (h192 : Heap) : Prop :=
  isP y191 fun b193 o194 =>
∃ x195, cell? h192 ⟨b193, o194, none⟩ = some (.bool x195) ∧
∃ x196 x196n x196c, cell? h192 ⟨b193, o194 + 1, none⟩ = some (.slice x196 x196n x196c) ∧
∃ x197, cell? h192 ⟨b193, o194 + 1 + 1, none⟩ = some (.int .i64 x197) ∧
 R (.returned (.agg #[.bool x195, .slice x196 x196n x196c, .int .i64 x197])) h192
def F133 (B : World) (R : Ending → Heap → Prop) (a1 : Bool) (a2 : Option Addr) (a2n : Nat) (a2c : Nat) (a3 : Int) (a4 : Bool) (a5 : Option Addr) (a5n : Nat) (a5c : Nat) (a6 : Int) (h : Heap) : Prop :=
  alW h (.cells #[.bool a1, .slice a2 a2n a2c, .int .i64 a3] 29) fun r7 h8 =>
 alW h8 (.cells #[.bool a4, .slice a5 a5n a5c, .int .i64 a6] 29) fun r9 h10 =>
 alW h10 (.cells #[.bool false, .slice none 0 0, .int .i64 0] 29) fun r11 h12 =>
 isP (some ⟨r7, 0, none⟩) fun b13 o14 =>
 isP (some ⟨b13, o14 + 1, none⟩) fun b15 o16 => ∃ x17 x17n x17c, cell? h12 ⟨b15, o16, none⟩ = some (.slice x17 x17n x17c) ∧
((decide (((x17n : Nat) : Int) = (0 : Int))) = true →
 isP (some ⟨r9, 0, none⟩) fun b18 o19 =>
∃ x20, cell? h12 ⟨b18, o19, none⟩ = some (.bool x20) ∧
∃ x21 x21n x21c, cell? h12 ⟨b18, o19 + 1, none⟩ = some (.slice x21 x21n x21c) ∧
∃ x22, cell? h12 ⟨b18, o19 + 1 + 1, none⟩ = some (.int .i64 x22) ∧
 isP (some ⟨r11, 0, none⟩) fun b23 o24 => stC h12 b23 o24 (.bool x20) fun h25 =>
 stC h25 b23 (o24 + 1) (.slice x21 x21n x21c) fun h26 =>
 stC h26 b23 (o24 + 1 + 1) (.int .i64 x22) fun h27 =>
 isP (some ⟨r11, 0, none⟩) fun b28 o29 =>
∃ x30, cell? h27 ⟨b28, o29, none⟩ = some (.bool x30) ∧
∃ x31 x31n x31c, cell? h27 ⟨b28, o29 + 1, none⟩ = some (.slice x31 x31n x31c) ∧
∃ x32, cell? h27 ⟨b28, o29 + 1 + 1, none⟩ = some (.int .i64 x32) ∧
 R (.returned (.agg #[.bool x30, .slice x31 x31n x31c, .int .i64 x32])) h27) ∧
((decide (((x17n : Nat) : Int) = (0 : Int))) = false →
 isP (some ⟨r9, 0, none⟩) fun b33 o34 =>
 isP (some ⟨b33, o34 + 1, none⟩) fun b35 o36 => ∃ x37 x37n x37c, cell? h12 ⟨b35, o36, none⟩ = some (.slice x37 x37n x37c) ∧
((decide (((x37n : Nat) : Int) = (0 : Int))) = true →
 isP (some ⟨r7, 0, none⟩) fun b38 o39 =>
∃ x40, cell? h12 ⟨b38, o39, none⟩ = some (.bool x40) ∧
∃ x41 x41n x41c, cell? h12 ⟨b38, o39 + 1, none⟩ = some (.slice x41 x41n x41c) ∧
∃ x42, cell? h12 ⟨b38, o39 + 1 + 1, none⟩ = some (.int .i64 x42) ∧
 isP (some ⟨r11, 0, none⟩) fun b43 o44 => stC h12 b43 o44 (.bool x40) fun h45 =>
 stC h45 b43 (o44 + 1) (.slice x41 x41n x41c) fun h46 =>
 stC h46 b43 (o44 + 1 + 1) (.int .i64 x42) fun h47 =>
 isP (some ⟨r11, 0, none⟩) fun b48 o49 =>
∃ x50, cell? h47 ⟨b48, o49, none⟩ = some (.bool x50) ∧
∃ x51 x51n x51c, cell? h47 ⟨b48, o49 + 1, none⟩ = some (.slice x51 x51n x51c) ∧
∃ x52, cell? h47 ⟨b48, o49 + 1 + 1, none⟩ = some (.int .i64 x52) ∧
 R (.returned (.agg #[.bool x50, .slice x51 x51n x51c, .int .i64 x52])) h47) ∧
((decide (((x37n : Nat) : Int) = (0 : Int))) = false →
 isP (some ⟨r7, 0, none⟩) fun b53 o54 =>
 isP (some ⟨b53, o54 + 2, none⟩) fun b55 o56 => ∃ x57, cell? h12 ⟨b55, o56, none⟩ = some (.int .i64 x57) ∧
 isP (some ⟨r9, 0, none⟩) fun b58 o59 =>
 isP (some ⟨b58, o59 + 2, none⟩) fun b60 o61 => ∃ x62, cell? h12 ⟨b60, o61, none⟩ = some (.int .i64 x62) ∧
 isP (some ⟨r7, 0, none⟩) fun b63 o64 =>
 isP (some ⟨b63, o64 + 1, none⟩) fun b65 o66 => ∃ x67 x67n x67c, cell? h12 ⟨b65, o66, none⟩ = some (.slice x67 x67n x67c) ∧
 isP (some ⟨r7, 0, none⟩) fun b68 o69 =>
 isP (some ⟨b68, o69 + 2, none⟩) fun b70 o71 => ∃ x72, cell? h12 ⟨b70, o71, none⟩ = some (.int .i64 x72) ∧
 Ent Tryz.prog B 177 #[.slice x67 x67n x67c, .int .i64 (IntKind.i64.wrap (x72 - (if x62 < x57 then x62 else x57)))] (retE (fun v73 h74 => ∃ x77 x77n x77c, v73 = .slice x77 x77n x77c ∧
 isP (some ⟨r9, 0, none⟩) fun b78 o79 =>
 isP (some ⟨b78, o79 + 1, none⟩) fun b80 o81 => ∃ x82 x82n x82c, cell? h74 ⟨b80, o81, none⟩ = some (.slice x82 x82n x82c) ∧
 isP (some ⟨r9, 0, none⟩) fun b83 o84 =>
 isP (some ⟨b83, o84 + 2, none⟩) fun b85 o86 => ∃ x87, cell? h74 ⟨b85, o86, none⟩ = some (.int .i64 x87) ∧
 Ent Tryz.prog B 177 #[.slice x82 x82n x82c, .int .i64 (IntKind.i64.wrap (x87 - (if x62 < x57 then x62 else x57)))] (retE (fun v88 h89 => ∃ x92 x92n x92c, v88 = .slice x92 x92n x92c ∧
 isP (some ⟨r7, 0, none⟩) fun b93 o94 =>
 isP (some ⟨b93, o94, none⟩) fun b95 o96 => ∃ x97, cell? h89 ⟨b95, o96, none⟩ = some (.bool x97) ∧
 isP (some ⟨r9, 0, none⟩) fun b98 o99 =>
 isP (some ⟨b98, o99, none⟩) fun b100 o101 => ∃ x102, cell? h89 ⟨b100, o101, none⟩ = some (.bool x102) ∧
((x97 == x102) = true →
 isP (some ⟨r7, 0, none⟩) fun b103 o104 =>
 isP (some ⟨b103, o104, none⟩) fun b105 o106 => ∃ x107, cell? h89 ⟨b105, o106, none⟩ = some (.bool x107) ∧
 Ent Tryz.prog B 178 #[.slice x77 x77n x77c, .slice x92 x92n x92c] (retE (fun v108 h109 => ∃ x112 x112n x112c, v108 = .slice x112 x112n x112c ∧
 sameCells h89 h109 b105 o106 1 ∧ Ent Tryz.prog B 158 #[.bool x107, .slice x112 x112n x112c, .int .i64 (if x62 < x57 then x62 else x57)] (retE (fun v113 h114 => ∃ x117 x118 x118n x118c x119, v113 = .agg #[.bool x117, .slice x118 x118n x118c, .int .i64 x119] ∧
 isP (some ⟨r11, 0, none⟩) fun b120 o121 => stC h114 b120 o121 (.bool x117) fun h122 =>
 stC h122 b120 (o121 + 1) (.slice x118 x118n x118c) fun h123 =>
 stC h123 b120 (o121 + 1 + 1) (.int .i64 x119) fun h124 =>
 F133_j125 B R (some ⟨r11, 0, none⟩) h124)
 (fun _ _ => False)) h109)
 (fun _ _ => False)) h89) ∧
((x97 == x102) = false →
 Ent Tryz.prog B 179 #[.slice x77 x77n x77c, .slice x92 x92n x92c] (retE (fun v133 h134 => ∃ x137, v133 = .int .i64 x137 ∧
((decide ((0 : Int) ≤ x137)) = true →
 isP (some ⟨r7, 0, none⟩) fun b138 o139 =>
 isP (some ⟨b138, o139, none⟩) fun b140 o141 => ∃ x142, cell? h134 ⟨b140, o141, none⟩ = some (.bool x142) ∧
 Ent Tryz.prog B 180 #[.slice x77 x77n x77c, .slice x92 x92n x92c] (retE (fun v143 h144 => ∃ x147 x147n x147c, v143 = .slice x147 x147n x147c ∧
 sameCells h134 h144 b140 o141 1 ∧ Ent Tryz.prog B 158 #[.bool x142, .slice x147 x147n x147c, .int .i64 (if x62 < x57 then x62 else x57)] (retE (fun v148 h149 => ∃ x152 x153 x153n x153c x154, v148 = .agg #[.bool x152, .slice x153 x153n x153c, .int .i64 x154] ∧
 isP (some ⟨r11, 0, none⟩) fun b155 o156 => stC h149 b155 o156 (.bool x152) fun h157 =>
 stC h157 b155 (o156 + 1) (.slice x153 x153n x153c) fun h158 =>
 stC h158 b155 (o156 + 1 + 1) (.int .i64 x154) fun h159 =>
 F133_j160 B R (some ⟨r11, 0, none⟩) h159)
 (fun _ _ => False)) h144)
 (fun _ _ => False)) h134) ∧
((decide ((0 : Int) ≤ x137)) = false →
 isP (some ⟨r9, 0, none⟩) fun b168 o169 =>
 isP (some ⟨b168, o169, none⟩) fun b170 o171 => ∃ x172, cell? h134 ⟨b170, o171, none⟩ = some (.bool x172) ∧
 Ent Tryz.prog B 180 #[.slice x92 x92n x92c, .slice x77 x77n x77c] (retE (fun v173 h174 => ∃ x177 x177n x177c, v173 = .slice x177 x177n x177c ∧
 sameCells h134 h174 b170 o171 1 ∧ Ent Tryz.prog B 158 #[.bool x172, .slice x177 x177n x177c, .int .i64 (if x62 < x57 then x62 else x57)] (retE (fun v178 h179 => ∃ x182 x183 x183n x183c x184, v178 = .agg #[.bool x182, .slice x183 x183n x183c, .int .i64 x184] ∧
 isP (some ⟨r11, 0, none⟩) fun b185 o186 => stC h179 b185 o186 (.bool x182) fun h187 =>
 stC h187 b185 (o186 + 1) (.slice x183 x183n x183c) fun h188 =>
 stC h188 b185 (o186 + 1 + 1) (.int .i64 x184) fun h189 =>
 F133_j190 B R (some ⟨r11, 0, none⟩) h189)
 (fun _ _ => False)) h174)
 (fun _ _ => False)) h134))
 (fun ch135 h136 => R (.panicked ch135) h136)) h89))
 (fun ch90 h91 => R (.panicked ch90) h91)) h74)
 (fun ch75 h76 => R (.panicked ch75) h76)) h12))
def F133_L : Nat → List (Nat × TypeDesc) := fun _ => []
theorem F133_W (B : World) (R : Ending → Heap → Prop) (a1 : Bool) (a2 : Option Addr) (a2n : Nat) (a2c : Nat) (a3 : Int) (a4 : Bool) (a5 : Option Addr) (a5n : Nat) (a5c : Nat) (a6 : Int) (h : Heap) : W Tryz.prog B Tryz.f133.ntmps F133_L (prune [] (codeOf Tryz.f133)) (endQ Tryz.prog Tryz.f133 R) (env0 #[.agg #[.bool a1, .slice a2 a2n a2c, .int .i64 a3], .agg #[.bool a4, .slice a5 a5n a5c, .int .i64 a6]]) h = F133 B R a1 a2 a2n a2c a3 a4 a5 a5n a5c a6 h := by kernel_rfl
theorem F133_ok {B : World} {R : Ending → Heap → Prop} (a1 : Bool) (a2 : Option Addr) (a2n : Nat) (a2c : Nat) (a3 : Int) (a4 : Bool) (a5 : Option Addr) (a5n : Nat) (a5c : Nat) (a6 : Int) {h : Heap} (H : F133 B R a1 a2 a2n a2c a3 a4 a5 a5n a5c a6 h) : Ent Tryz.prog B 133 #[.agg #[.bool a1, .slice a2 a2n a2c, .int .i64 a3], .agg #[.bool a4, .slice a5 a5n a5c, .int .i64 a6]] R h :=
  Ent_of_W mixed Tryz.func133 (by kernel_rfl) (by kernel_rfl) (by kernel_rfl) F133_L [] (by rw [F133_W]; exact H)

/-- plumb/plumbref6.TwoSum -/
def F69_j64 (B : World) (R : Ending → Heap → Prop) (y65 : Int) (y66 : Int) (y67 : Bool) (h68 : Heap) : Prop :=
  R (.returned (.tuple #[.int .i64 y65, .int .i64 y66, .bool y67])) h68
def F69 (B : World) (R : Ending → Heap → Prop) (a1 : Int) (a2 : Int) (h : Heap) : Prop :=
  Ent Tryz.prog B 132 #[.int .i64 a1, .int .i64 a2] (retE (fun v3 h4 => ∃ x7, v3 = .int .i64 x7 ∧
 Ent Tryz.prog B 110 #[.int .i64 x7, .int .i64 a1] (retE (fun v8 h9 => ∃ x12, v8 = .int .i64 x12 ∧
 Ent Tryz.prog B 110 #[.int .i64 x7, .int .i64 x12] (retE (fun v13 h14 => ∃ x17, v13 = .int .i64 x17 ∧
 Ent Tryz.prog B 110 #[.int .i64 a1, .int .i64 x17] (retE (fun v18 h19 => ∃ x22, v18 = .int .i64 x22 ∧
 Ent Tryz.prog B 110 #[.int .i64 a2, .int .i64 x12] (retE (fun v23 h24 => ∃ x27, v23 = .int .i64 x27 ∧
 Ent Tryz.prog B 132 #[.int .i64 x22, .int .i64 x27] (retE (fun v28 h29 => ∃ x32, v28 = .int .i64 x32 ∧
 Ent Tryz.prog B 111 #[.int .i64 a1, .int .i64 a2] (retE (fun v33 h34 => ∃ x37, v33 = .bool x37 ∧
(x37 = true →
 Ent Tryz.prog B 114 #[.int .i64 a1] (retE (fun v38 h39 => ∃ x42 x43 x43n x43c x44, v38 = .agg #[.bool x42, .slice x43 x43n x43c, .int .i64 x44] ∧
 Ent Tryz.prog B 114 #[.int .i64 a2] (retE (fun v45 h46 => ∃ x49 x50 x50n x50c x51, v45 = .agg #[.bool x49, .slice x50 x50n x50c, .int .i64 x51] ∧
 Ent Tryz.prog B 133 #[.agg #[.bool x42, .slice x43 x43n x43c, .int .i64 x44], .agg #[.bool x49, .slice x50 x50n x50c, .int .i64 x51]] (retE (fun v52 h53 => ∃ x56 x57 x57n x57c x58, v52 = .agg #[.bool x56, .slice x57 x57n x57c, .int .i64 x58] ∧
 Ent Tryz.prog B 112 #[.int .i64 x7, .int .i64 x32, .agg #[.bool x56, .slice x57 x57n x57c, .int .i64 x58]] (retE (fun v59 h60 => ∃ x63, v59 = .bool x63 ∧
 F69_j64 B R x7 x32 x63 h60)
 (fun ch61 h62 => R (.panicked ch61) h62)) h53)
 (fun ch54 h55 => R (.panicked ch54) h55)) h46)
 (fun ch47 h48 => R (.panicked ch47) h48)) h39)
 (fun ch40 h41 => R (.panicked ch40) h41)) h34) ∧
(x37 = false →
 F69_j64 B R x7 x32 false h34))
 (fun ch35 h36 => R (.panicked ch35) h36)) h29)
 (fun ch30 h31 => R (.panicked ch30) h31)) h24)
 (fun ch25 h26 => R (.panicked ch25) h26)) h19)
 (fun ch20 h21 => R (.panicked ch20) h21)) h14)
 (fun ch15 h16 => R (.panicked ch15) h16)) h9)
 (fun ch10 h11 => R (.panicked ch10) h11)) h4)
 (fun ch5 h6 => R (.panicked ch5) h6)) h
def F69_L : Nat → List (Nat × TypeDesc) := fun _ => []
theorem F69_W (B : World) (R : Ending → Heap → Prop) (a1 : Int) (a2 : Int) (h : Heap) : W Tryz.prog B Tryz.f69.ntmps F69_L (prune [] (codeOf Tryz.f69)) (endQ Tryz.prog Tryz.f69 R) (env0 #[.int .i64 a1, .int .i64 a2]) h = F69 B R a1 a2 h := by kernel_rfl
theorem F69_ok {B : World} {R : Ending → Heap → Prop} (a1 : Int) (a2 : Int) {h : Heap} (H : F69 B R a1 a2 h) : Ent Tryz.prog B 69 #[.int .i64 a1, .int .i64 a2] R h :=
  Ent_of_W mixed Tryz.func69 (by kernel_rfl) (by kernel_rfl) (by kernel_rfl) F69_L [] (by rw [F69_W]; exact H)
end Go.Proofs
