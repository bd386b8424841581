import Derived.Test.YtkfafikejdhccaaGreatDoorA20
/- Here stand lemmas: what the functions of this file come to, second part (written by program). -/
set_option linter.unusedVariables false
namespace Go.Proofs
open Go Go.Eng
/-- plumb/dyadic.Of -/
def F21 (B : World) (R : Ending → Heap → Prop) (a1 : Int) (h : Heap) : Prop :=
  alW h (.cells #[.bool false, .slice none 0 0, .int .i64 0] 29) fun r2 h3 =>
 alW h3 (.cells #[.int .i64 0] 30) fun r4 h5 =>
 Ent Tryz.prog B 63 #[.int .i64 a1] (retE (fun v6 h7 => ∃ x10 x11 x12 x13, v6 = .tuple #[.bool x10, .int .i64 x11, .int .i64 x12, .bool x13] ∧
 Ent Tryz.prog B 64 #[.bool x10, .int .i64 x11, .int .i64 x12, .bool x13] (retE (fun v27 h28 => ∃ x31 x32 x32n x32c x33, v27 = .agg #[.bool x31, .slice x32 x32n x32c, .int .i64 x33] ∧
 isP (some ⟨r2, 0, none⟩) fun b47 o48 => stC h28 b47 o48 (.bool x31) fun h49 =>
 stC h49 b47 (o48 + 1) (.slice x32 x32n x32c) fun h50 =>
 stC h50 b47 (o48 + 1 + 1) (.int .i64 x33) fun h51 =>
 isP (some ⟨r4, 0, none⟩) fun b52 o53 => stC h51 b52 o53 (.int .i64 (0 : Int)) fun h54 =>
 Enters Tryz.prog 62 ∧ FnD Tryz.prog B 62 #[.pointer (some ⟨r4, 0, none⟩)] .returning (dfE fun u55 h56 => lvW (fun h57 => isP (some ⟨r2, 0, none⟩) fun b60 o61 =>
∃ x62, cell? h57 ⟨b60, o61, none⟩ = some (.bool x62) ∧
∃ x63 x63n x63c, cell? h57 ⟨b60, o61 + 1, none⟩ = some (.slice x63 x63n x63c) ∧
∃ x64, cell? h57 ⟨b60, o61 + 1 + 1, none⟩ = some (.int .i64 x64) ∧
 isP (some ⟨r4, 0, none⟩) fun b65 o66 => ∃ x67, cell? h57 ⟨b65, o66, none⟩ = some (.int .i64 x67) ∧
 R (.returned (.tuple #[.agg #[.bool x62, .slice x63 x63n x63c, .int .i64 x64], .int .i64 x67])) h57) (fun ch59 h58 => R (.panicked ch59) h58) u55 h56) h54)
 (fun ch29 h30 => Enters Tryz.prog 62 ∧ FnD Tryz.prog B 62 #[.pointer (some ⟨r4, 0, none⟩)] (.panicking ch29) (dfE fun u34 h35 => lvW (fun h36 => isP (some ⟨r2, 0, none⟩) fun b39 o40 =>
∃ x41, cell? h36 ⟨b39, o40, none⟩ = some (.bool x41) ∧
∃ x42 x42n x42c, cell? h36 ⟨b39, o40 + 1, none⟩ = some (.slice x42 x42n x42c) ∧
∃ x43, cell? h36 ⟨b39, o40 + 1 + 1, none⟩ = some (.int .i64 x43) ∧
 isP (some ⟨r4, 0, none⟩) fun b44 o45 => ∃ x46, cell? h36 ⟨b44, o45, none⟩ = some (.int .i64 x46) ∧
 R (.returned (.tuple #[.agg #[.bool x41, .slice x42 x42n x42c, .int .i64 x43], .int .i64 x46])) h36) (fun ch38 h37 => R (.panicked ch38) h37) u34 h35) h30)) h7)
 (fun ch8 h9 => Enters Tryz.prog 62 ∧ FnD Tryz.prog B 62 #[.pointer (some ⟨r4, 0, none⟩)] (.panicking ch8) (dfE fun u14 h15 => lvW (fun h16 => isP (some ⟨r2, 0, none⟩) fun b19 o20 =>
∃ x21, cell? h16 ⟨b19, o20, none⟩ = some (.bool x21) ∧
∃ x22 x22n x22c, cell? h16 ⟨b19, o20 + 1, none⟩ = some (.slice x22 x22n x22c) ∧
∃ x23, cell? h16 ⟨b19, o20 + 1 + 1, none⟩ = some (.int .i64 x23) ∧
 isP (some ⟨r4, 0, none⟩) fun b24 o25 => ∃ x26, cell? h16 ⟨b24, o25, none⟩ = some (.int .i64 x26) ∧
 R (.returned (.tuple #[.agg #[.bool x21, .slice x22 x22n x22c, .int .i64 x23], .int .i64 x26])) h16) (fun ch18 h17 => R (.panicked ch18) h17) u14 h15) h9)) h5
def F21_L : Nat → List (Nat × TypeDesc) := fun _ => []
theorem F21_W (B : World) (R : Ending → Heap → Prop) (a1 : Int) (h : Heap) : W Tryz.prog B Tryz.f21.ntmps F21_L (prune [] (codeOf Tryz.f21)) (endQD Tryz.prog B Tryz.f21 R) (env0 #[.int .i64 a1]) h = F21 B R a1 h := by kernel_rfl
theorem F21_ok {B : World} {R : Ending → Heap → Prop} (a1 : Int) {h : Heap} (H : F21 B R a1 h) : Ent Tryz.prog B 21 #[.int .i64 a1] R h :=
  Ent_of_WD mixed Tryz.func21 (by kernel_rfl) (by kernel_rfl) (by kernel_rfl) F21_L [] (by rw [F21_W]; exact H)

/-- plumb/dyadic.Add -/
def F22 (B : World) (R : Ending → Heap → Prop) (a1 : Bool) (a2 : Option Addr) (a2n : Nat) (a2c : Nat) (a3 : Int) (a4 : Bool) (a5 : Option Addr) (a5n : Nat) (a5c : Nat) (a6 : Int) (h : Heap) : Prop :=
  alW h (.cells #[.bool a1, .slice a2 a2n a2c, .int .i64 a3] 29) fun r7 h8 =>
 alW h8 (.cells #[.bool a4, .slice a5 a5n a5c, .int .i64 a6] 29) fun r9 h10 =>
 alW h10 (.cells #[.bool false, .slice none 0 0, .int .i64 0] 29) fun r11 h12 =>
 alW h12 (.cells #[.int .i64 0] 30) fun r13 h14 =>
 isP (some ⟨r7, 0, none⟩) fun b15 o16 =>
∃ x17, cell? h14 ⟨b15, o16, none⟩ = some (.bool x17) ∧
∃ x18 x18n x18c, cell? h14 ⟨b15, o16 + 1, none⟩ = some (.slice x18 x18n x18c) ∧
∃ x19, cell? h14 ⟨b15, o16 + 1 + 1, none⟩ = some (.int .i64 x19) ∧
 isP (some ⟨r9, 0, none⟩) fun b20 o21 =>
∃ x22, cell? h14 ⟨b20, o21, none⟩ = some (.bool x22) ∧
∃ x23 x23n x23c, cell? h14 ⟨b20, o21 + 1, none⟩ = some (.slice x23 x23n x23c) ∧
∃ x24, cell? h14 ⟨b20, o21 + 1 + 1, none⟩ = some (.int .i64 x24) ∧
 alW h14 (.cells #[.bool x17, .slice x18 x18n x18c, .int .i64 x19, .bool x22, .slice x23 x23n x23c, .int .i64 x24] 29) fun r25 h26 =>
 Ent Tryz.prog B 67 #[.slice (some ⟨r25, 0, none⟩) 2 2] (retE (fun v27 h28 => ∃ x31 x31n x31c, v27 = .slice x31 x31n x31c ∧
 Ent Tryz.prog B 66 #[.slice x31 x31n x31c] (retE (fun v45 h46 => ∃ x49 x50, v45 = .agg #[.pointer x49, .int .i64 x50] ∧
 Ent Tryz.prog B 65 #[.agg #[.pointer x49, .int .i64 x50]] (retE (fun v64 h65 => ∃ x68 x69 x69n x69c x70, v64 = .agg #[.bool x68, .slice x69 x69n x69c, .int .i64 x70] ∧
 isP (some ⟨r11, 0, none⟩) fun b84 o85 => stC h65 b84 o85 (.bool x68) fun h86 =>
 stC h86 b84 (o85 + 1) (.slice x69 x69n x69c) fun h87 =>
 stC h87 b84 (o85 + 1 + 1) (.int .i64 x70) fun h88 =>
 isP (some ⟨r13, 0, none⟩) fun b89 o90 => stC h88 b89 o90 (.int .i64 (0 : Int)) fun h91 =>
 Enters Tryz.prog 62 ∧ FnD Tryz.prog B 62 #[.pointer (some ⟨r13, 0, none⟩)] .returning (dfE fun u92 h93 => lvW (fun h94 => isP (some ⟨r11, 0, none⟩) fun b97 o98 =>
∃ x99, cell? h94 ⟨b97, o98, none⟩ = some (.bool x99) ∧
∃ x100 x100n x100c, cell? h94 ⟨b97, o98 + 1, none⟩ = some (.slice x100 x100n x100c) ∧
∃ x101, cell? h94 ⟨b97, o98 + 1 + 1, none⟩ = some (.int .i64 x101) ∧
 isP (some ⟨r13, 0, none⟩) fun b102 o103 => ∃ x104, cell? h94 ⟨b102, o103, none⟩ = some (.int .i64 x104) ∧
 R (.returned (.tuple #[.agg #[.bool x99, .slice x100 x100n x100c, .int .i64 x101], .int .i64 x104])) h94) (fun ch96 h95 => R (.panicked ch96) h95) u92 h93) h91)
 (fun ch66 h67 => Enters Tryz.prog 62 ∧ FnD Tryz.prog B 62 #[.pointer (some ⟨r13, 0, none⟩)] (.panicking ch66) (dfE fun u71 h72 => lvW (fun h73 => isP (some ⟨r11, 0, none⟩) fun b76 o77 =>
∃ x78, cell? h73 ⟨b76, o77, none⟩ = some (.bool x78) ∧
∃ x79 x79n x79c, cell? h73 ⟨b76, o77 + 1, none⟩ = some (.slice x79 x79n x79c) ∧
∃ x80, cell? h73 ⟨b76, o77 + 1 + 1, none⟩ = some (.int .i64 x80) ∧
 isP (some ⟨r13, 0, none⟩) fun b81 o82 => ∃ x83, cell? h73 ⟨b81, o82, none⟩ = some (.int .i64 x83) ∧
 R (.returned (.tuple #[.agg #[.bool x78, .slice x79 x79n x79c, .int .i64 x80], .int .i64 x83])) h73) (fun ch75 h74 => R (.panicked ch75) h74) u71 h72) h67)) h46)
 (fun ch47 h48 => Enters Tryz.prog 62 ∧ FnD Tryz.prog B 62 #[.pointer (some ⟨r13, 0, none⟩)] (.panicking ch47) (dfE fun u51 h52 => lvW (fun h53 => isP (some ⟨r11, 0, none⟩) fun b56 o57 =>
∃ x58, cell? h53 ⟨b56, o57, none⟩ = some (.bool x58) ∧
∃ x59 x59n x59c, cell? h53 ⟨b56, o57 + 1, none⟩ = some (.slice x59 x59n x59c) ∧
∃ x60, cell? h53 ⟨b56, o57 + 1 + 1, none⟩ = some (.int .i64 x60) ∧
 isP (some ⟨r13, 0, none⟩) fun b61 o62 => ∃ x63, cell? h53 ⟨b61, o62, none⟩ = some (.int .i64 x63) ∧
 R (.returned (.tuple #[.agg #[.bool x58, .slice x59 x59n x59c, .int .i64 x60], .int .i64 x63])) h53) (fun ch55 h54 => R (.panicked ch55) h54) u51 h52) h48)) h28)
 (fun ch29 h30 => Enters Tryz.prog 62 ∧ FnD Tryz.prog B 62 #[.pointer (some ⟨r13, 0, none⟩)] (.panicking ch29) (dfE fun u32 h33 => lvW (fun h34 => isP (some ⟨r11, 0, none⟩) fun b37 o38 =>
∃ x39, cell? h34 ⟨b37, o38, none⟩ = some (.bool x39) ∧
∃ x40 x40n x40c, cell? h34 ⟨b37, o38 + 1, none⟩ = some (.slice x40 x40n x40c) ∧
∃ x41, cell? h34 ⟨b37, o38 + 1 + 1, none⟩ = some (.int .i64 x41) ∧
 isP (some ⟨r13, 0, none⟩) fun b42 o43 => ∃ x44, cell? h34 ⟨b42, o43, none⟩ = some (.int .i64 x44) ∧
 R (.returned (.tuple #[.agg #[.bool x39, .slice x40 x40n x40c, .int .i64 x41], .int .i64 x44])) h34) (fun ch36 h35 => R (.panicked ch36) h35) u32 h33) h30)) h26
def F22_L : Nat → List (Nat × TypeDesc) := fun _ => []
theorem F22_W (B : World) (R : Ending → Heap → Prop) (a1 : Bool) (a2 : Option Addr) (a2n : Nat) (a2c : Nat) (a3 : Int) (a4 : Bool) (a5 : Option Addr) (a5n : Nat) (a5c : Nat) (a6 : Int) (h : Heap) : W Tryz.prog B Tryz.f22.ntmps F22_L (prune [] (codeOf Tryz.f22)) (endQD Tryz.prog B Tryz.f22 R) (env0 #[.agg #[.bool a1, .slice a2 a2n a2c, .int .i64 a3], .agg #[.bool a4, .slice a5 a5n a5c, .int .i64 a6]]) h = F22 B R a1 a2 a2n a2c a3 a4 a5 a5n a5c a6 h := by kernel_rfl
theorem F22_ok {B : World} {R : Ending → Heap → Prop} (a1 : Bool) (a2 : Option Addr) (a2n : Nat) (a2c : Nat) (a3 : Int) (a4 : Bool) (a5 : Option Addr) (a5n : Nat) (a5c : Nat) (a6 : Int) {h : Heap} (H : F22 B R a1 a2 a2n a2c a3 a4 a5 a5n a5c a6 h) : Ent Tryz.prog B 22 #[.agg #[.bool a1, .slice a2 a2n a2c, .int .i64 a3], .agg #[.bool a4, .slice a5 a5n a5c, .int .i64 a6]] R h :=
  Ent_of_WD mixed Tryz.func22 (by kernel_rfl) (by kernel_rfl) (by kernel_rfl) F22_L [] (by rw [F22_W]; exact H)

/-- plumb/dyadic.Mul -/
def F23_j78 (B : World) (R : Ending → Heap → Prop) (y79 : Option Addr) (y80 : Option Addr) (d82 : Option Addr) (h81 : Heap) : Prop :=
  Enters Tryz.prog 62 ∧ FnD Tryz.prog B 62 #[.pointer d82] .returning (dfE fun u83 h84 => lvW (fun h85 => isP y79 fun b88 o89 =>
∃ x90, cell? h85 ⟨b88, o89, none⟩ = some (.bool x90) ∧
∃ x91 x91n x91c, cell? h85 ⟨b88, o89 + 1, none⟩ = some (.slice x91 x91n x91c) ∧
∃ x92, cell? h85 ⟨b88, o89 + 1 + 1, none⟩ = some (.int .i64 x92) ∧
 isP y80 fun b93 o94 => ∃ x95, cell? h85 ⟨b93, o94, none⟩ = some (.int .i64 x95) ∧
 R (.returned (.tuple #[.agg #[.bool x90, .slice x91 x91n x91c, .int .i64 x92], .int .i64 x95])) h85) (fun ch87 h86 => R (.panicked ch87) h86) u83 h84) h81
def F23 (B : World) (R : Ending → Heap → Prop) (a1 : Bool) (a2 : Option Addr) (a2n : Nat) (a2c : Nat) (a3 : Int) (a4 : Bool) (a5 : Option Addr) (a5n : Nat) (a5c : Nat) (a6 : Int) (h : Heap) : Prop :=
  alW h (.cells #[.bool a1, .slice a2 a2n a2c, .int .i64 a3] 29) fun r7 h8 =>
 alW h8 (.cells #[.bool a4, .slice a5 a5n a5c, .int .i64 a6] 29) fun r9 h10 =>
 alW h10 (.cells #[.bool false, .slice none 0 0, .int .i64 0] 29) fun r11 h12 =>
 alW h12 (.cells #[.int .i64 0] 30) fun r13 h14 =>
 isP (some ⟨r7, 0, none⟩) fun b15 o16 =>
∃ x17, cell? h14 ⟨b15, o16, none⟩ = some (.bool x17) ∧
∃ x18 x18n x18c, cell? h14 ⟨b15, o16 + 1, none⟩ = some (.slice x18 x18n x18c) ∧
∃ x19, cell? h14 ⟨b15, o16 + 1 + 1, none⟩ = some (.int .i64 x19) ∧
 isP (some ⟨r9, 0, none⟩) fun b20 o21 =>
∃ x22, cell? h14 ⟨b20, o21, none⟩ = some (.bool x22) ∧
∃ x23 x23n x23c, cell? h14 ⟨b20, o21 + 1, none⟩ = some (.slice x23 x23n x23c) ∧
∃ x24, cell? h14 ⟨b20, o21 + 1 + 1, none⟩ = some (.int .i64 x24) ∧
 alW h14 (.cells #[.bool x17, .slice x18 x18n x18c, .int .i64 x19, .bool x22, .slice x23 x23n x23c, .int .i64 x24] 29) fun r25 h26 =>
 Ent Tryz.prog B 67 #[.slice (some ⟨r25, 0, none⟩) 2 2] (retE (fun v27 h28 => ∃ x31 x31n x31c, v27 = .slice x31 x31n x31c ∧
 ixW x31 x31n (0 : Int) 2 fun b45 o46 =>
 isP (some ⟨b45, o46, none⟩) fun b47 o48 =>
∃ x49, cell? h28 ⟨b47, o48, none⟩ = some (.pointer x49) ∧
∃ x50, cell? h28 ⟨b47, o48 + 1, none⟩ = some (.int .i64 x50) ∧
 ixW x31 x31n (1 : Int) 2 fun b51 o52 =>
 isP (some ⟨b51, o52, none⟩) fun b53 o54 =>
∃ x55, cell? h28 ⟨b53, o54, none⟩ = some (.pointer x55) ∧
∃ x56, cell? h28 ⟨b53, o54 + 1, none⟩ = some (.int .i64 x56) ∧
 Ent Tryz.prog B 68 #[.agg #[.pointer x49, .int .i64 x50], .agg #[.pointer x55, .int .i64 x56]] (retE (fun v57 h58 => ∃ x61 x62, v57 = .agg #[.pointer x61, .int .i64 x62] ∧
 Ent Tryz.prog B 65 #[.agg #[.pointer x61, .int .i64 x62]] (retE (fun v63 h64 => ∃ x67 x68 x68n x68c x69, v63 = .agg #[.bool x67, .slice x68 x68n x68c, .int .i64 x69] ∧
 isP (some ⟨r11, 0, none⟩) fun b70 o71 => stC h64 b70 o71 (.bool x67) fun h72 =>
 stC h72 b70 (o71 + 1) (.slice x68 x68n x68c) fun h73 =>
 stC h73 b70 (o71 + 1 + 1) (.int .i64 x69) fun h74 =>
 isP (some ⟨r13, 0, none⟩) fun b75 o76 => stC h74 b75 o76 (.int .i64 (0 : Int)) fun h77 =>
 F23_j78 B R (some ⟨r11, 0, none⟩) (some ⟨r13, 0, none⟩) (some ⟨r13, 0, none⟩) h77)
 (fun _ _ => False)) h58)
 (fun _ _ => False)) h28)
 (fun ch29 h30 => Enters Tryz.prog 62 ∧ FnD Tryz.prog B 62 #[.pointer (some ⟨r13, 0, none⟩)] (.panicking ch29) (dfE fun u32 h33 => lvW (fun h34 => isP (some ⟨r11, 0, none⟩) fun b37 o38 =>
∃ x39, cell? h34 ⟨b37, o38, none⟩ = some (.bool x39) ∧
∃ x40 x40n x40c, cell? h34 ⟨b37, o38 + 1, none⟩ = some (.slice x40 x40n x40c) ∧
∃ x41, cell? h34 ⟨b37, o38 + 1 + 1, none⟩ = some (.int .i64 x41) ∧
 isP (some ⟨r13, 0, none⟩) fun b42 o43 => ∃ x44, cell? h34 ⟨b42, o43, none⟩ = some (.int .i64 x44) ∧
 R (.returned (.tuple #[.agg #[.bool x39, .slice x40 x40n x40c, .int .i64 x41], .int .i64 x44])) h34) (fun ch36 h35 => R (.panicked ch36) h35) u32 h33) h30)) h26
def F23_L : Nat → List (Nat × TypeDesc) := fun _ => []
theorem F23_W (B : World) (R : Ending → Heap → Prop) (a1 : Bool) (a2 : Option Addr) (a2n : Nat) (a2c : Nat) (a3 : Int) (a4 : Bool) (a5 : Option Addr) (a5n : Nat) (a5c : Nat) (a6 : Int) (h : Heap) : W Tryz.prog B Tryz.f23.ntmps F23_L (prune [] (codeOf Tryz.f23)) (endQD Tryz.prog B Tryz.f23 R) (env0 #[.agg #[.bool a1, .slice a2 a2n a2c, .int .i64 a3], .agg #[.bool a4, .slice a5 a5n a5c, .int .i64 a6]]) h = F23 B R a1 a2 a2n a2c a3 a4 a5 a5n a5c a6 h := by kernel_rfl
theorem F23_ok {B : World} {R : Ending → Heap → Prop} (a1 : Bool) (a2 : Option Addr) (a2n : Nat) (a2c : Nat) (a3 : Int) (a4 : Bool) (a5 : Option Addr) (a5n : Nat) (a5c : Nat) (a6 : Int) {h : Heap} (H : F23 B R a1 a2 a2n a2c a3 a4 a5 a5n a5c a6 h) : Ent Tryz.prog B 23 #[.agg #[.bool a1, .slice a2 a2n a2c, .int .i64 a3], .agg #[.bool a4, .slice a5 a5n a5c, .int .i64 a6]] R h :=
  Ent_of_WD mixed Tryz.func23 (by kernel_rfl) (by kernel_rfl) (by kernel_rfl) F23_L [] (by rw [F23_W]; exact H)

/-- plumb/dyadic.Cmp -/
def F28_j57 (B : World) (R : Ending → Heap → Prop) (y58 : Int) (y59 : Option Addr) (y60 : Option Addr) (y60n : Nat) (y60c : Nat) (d62 : Option Addr) (h61 : Heap) : Prop :=
  Ent Tryz.prog B 66 #[.slice y60 y60n y60c] (retE (fun v63 h64 => ∃ x67 x68, v63 = .agg #[.pointer x67, .int .i64 x68] ∧
 Ent Tryz.prog B 75 #[.pointer x67] (retE (fun v77 h78 => ∃ x81, v77 = .int .i64 x81 ∧
 isP y59 fun b90 o91 => stC h78 b90 o91 (.int .i64 (0 : Int)) fun h92 =>
 Enters Tryz.prog 62 ∧ FnD Tryz.prog B 62 #[.pointer d62] .returning (dfE fun u93 h94 => lvW (fun h95 => isP y59 fun b98 o99 => ∃ x100, cell? h95 ⟨b98, o99, none⟩ = some (.int .i64 x100) ∧
 R (.returned (.tuple #[.int .i64 x81, .int .i64 x100])) h95) (fun ch97 h96 => R (.panicked ch97) h96) u93 h94) h92)
 (fun ch79 h80 => Enters Tryz.prog 62 ∧ FnD Tryz.prog B 62 #[.pointer d62] (.panicking ch79) (dfE fun u82 h83 => lvW (fun h84 => isP y59 fun b87 o88 => ∃ x89, cell? h84 ⟨b87, o88, none⟩ = some (.int .i64 x89) ∧
 R (.returned (.tuple #[.int .i64 y58, .int .i64 x89])) h84) (fun ch86 h85 => R (.panicked ch86) h85) u82 h83) h80)) h64)
 (fun ch65 h66 => Enters Tryz.prog 62 ∧ FnD Tryz.prog B 62 #[.pointer d62] (.panicking ch65) (dfE fun u69 h70 => lvW (fun h71 => isP y59 fun b74 o75 => ∃ x76, cell? h71 ⟨b74, o75, none⟩ = some (.int .i64 x76) ∧
 R (.returned (.tuple #[.int .i64 y58, .int .i64 x76])) h71) (fun ch73 h72 => R (.panicked ch73) h72) u69 h70) h66)) h61
def F28 (B : World) (R : Ending → Heap → Prop) (a1 : Bool) (a2 : Option Addr) (a2n : Nat) (a2c : Nat) (a3 : Int) (a4 : Bool) (a5 : Option Addr) (a5n : Nat) (a5c : Nat) (a6 : Int) (h : Heap) : Prop :=
  alW h (.cells #[.bool a1, .slice a2 a2n a2c, .int .i64 a3] 29) fun r7 h8 =>
 alW h8 (.cells #[.bool a4, .slice a5 a5n a5c, .int .i64 a6] 29) fun r9 h10 =>
 alW h10 (.cells #[.int .i64 0] 30) fun r11 h12 =>
 isP (some ⟨r7, 0, none⟩) fun b13 o14 =>
∃ x15, cell? h12 ⟨b13, o14, none⟩ = some (.bool x15) ∧
∃ x16 x16n x16c, cell? h12 ⟨b13, o14 + 1, none⟩ = some (.slice x16 x16n x16c) ∧
∃ x17, cell? h12 ⟨b13, o14 + 1 + 1, none⟩ = some (.int .i64 x17) ∧
 isP (some ⟨r9, 0, none⟩) fun b18 o19 =>
∃ x20, cell? h12 ⟨b18, o19, none⟩ = some (.bool x20) ∧
∃ x21 x21n x21c, cell? h12 ⟨b18, o19 + 1, none⟩ = some (.slice x21 x21n x21c) ∧
∃ x22, cell? h12 ⟨b18, o19 + 1 + 1, none⟩ = some (.int .i64 x22) ∧
 alW h12 (.cells #[.bool x15, .slice x16 x16n x16c, .int .i64 x17, .bool x20, .slice x21 x21n x21c, .int .i64 x22] 29) fun r23 h24 =>
 Ent Tryz.prog B 67 #[.slice (some ⟨r23, 0, none⟩) 2 2] (retE (fun v25 h26 => ∃ x29 x29n x29c, v25 = .slice x29 x29n x29c ∧
 ixW x29 x29n (1 : Int) 2 fun b38 o39 =>
 isP (some ⟨b38, o39, none⟩) fun b40 o41 =>
 isP (some ⟨b40, o41, none⟩) fun b42 o43 => ∃ x44, cell? h26 ⟨b42, o43, none⟩ = some (.pointer x44) ∧
 ixW x29 x29n (1 : Int) 2 fun b45 o46 =>
 isP (some ⟨b45, o46, none⟩) fun b47 o48 =>
 isP (some ⟨b47, o48, none⟩) fun b49 o50 => ∃ x51, cell? h26 ⟨b49, o50, none⟩ = some (.pointer x51) ∧
 Ent Tryz.prog B 74 #[.pointer x44, .pointer x51] (retE (fun v52 h53 => ∃ x56, v52 = .pointer x56 ∧
 F28_j57 B R (0 : Int) (some ⟨r11, 0, none⟩) x29 x29n x29c (some ⟨r11, 0, none⟩) h53)
 (fun _ _ => False)) h26)
 (fun ch27 h28 => Enters Tryz.prog 62 ∧ FnD Tryz.prog B 62 #[.pointer (some ⟨r11, 0, none⟩)] (.panicking ch27) (dfE fun u30 h31 => lvW (fun h32 => isP (some ⟨r11, 0, none⟩) fun b35 o36 => ∃ x37, cell? h32 ⟨b35, o36, none⟩ = some (.int .i64 x37) ∧
 R (.returned (.tuple #[.int .i64 (0 : Int), .int .i64 x37])) h32) (fun ch34 h33 => R (.panicked ch34) h33) u30 h31) h28)) h24
def F28_L : Nat → List (Nat × TypeDesc) := fun _ => []
theorem F28_W (B : World) (R : Ending → Heap → Prop) (a1 : Bool) (a2 : Option Addr) (a2n : Nat) (a2c : Nat) (a3 : Int) (a4 : Bool) (a5 : Option Addr) (a5n : Nat) (a5c : Nat) (a6 : Int) (h : Heap) : W Tryz.prog B Tryz.f28.ntmps F28_L (prune [] (codeOf Tryz.f28)) (endQD Tryz.prog B Tryz.f28 R) (env0 #[.agg #[.bool a1, .slice a2 a2n a2c, .int .i64 a3], .agg #[.bool a4, .slice a5 a5n a5c, .int .i64 a6]]) h = F28 B R a1 a2 a2n a2c a3 a4 a5 a5n a5c a6 h := by kernel_rfl
theorem F28_ok {B : World} {R : Ending → Heap → Prop} (a1 : Bool) (a2 : Option Addr) (a2n : Nat) (a2c : Nat) (a3 : Int) (a4 : Bool) (a5 : Option Addr) (a5n : Nat) (a5c : Nat) (a6 : Int) {h : Heap} (H : F28 B R a1 a2 a2n a2c a3 a4 a5 a5n a5c a6 h) : Ent Tryz.prog B 28 #[.agg #[.bool a1, .slice a2 a2n a2c, .int .i64 a3], .agg #[.bool a4, .slice a5 a5n a5c, .int .i64 a6]] R h :=
  Ent_of_WD mixed Tryz.func28 (by kernel_rfl) (by kernel_rfl) (by kernel_rfl) F28_L [] (by rw [F28_W]; exact H)

/-- plumb/dyadic.Sum -/
def F119 (B : World) (R : Ending → Heap → Prop) (a1 : Option Addr) (a1n : Nat) (a1c : Nat) (h : Heap) : Prop :=
  alW h (.cells #[.bool false, .slice none 0 0, .int .i64 0] 29) fun r2 h3 =>
 alW h3 (.cells #[.int .i64 0] 30) fun r4 h5 =>
 Ent Tryz.prog B 67 #[.slice a1 a1n a1c] (retE (fun v6 h7 => ∃ x10 x10n x10c, v6 = .slice x10 x10n x10c ∧
 Ent Tryz.prog B 66 #[.slice x10 x10n x10c] (retE (fun v24 h25 => ∃ x28 x29, v24 = .agg #[.pointer x28, .int .i64 x29] ∧
 Ent Tryz.prog B 65 #[.agg #[.pointer x28, .int .i64 x29]] (retE (fun v43 h44 => ∃ x47 x48 x48n x48c x49, v43 = .agg #[.bool x47, .slice x48 x48n x48c, .int .i64 x49] ∧
 isP (some ⟨r2, 0, none⟩) fun b63 o64 => stC h44 b63 o64 (.bool x47) fun h65 =>
 stC h65 b63 (o64 + 1) (.slice x48 x48n x48c) fun h66 =>
 stC h66 b63 (o64 + 1 + 1) (.int .i64 x49) fun h67 =>
 isP (some ⟨r4, 0, none⟩) fun b68 o69 => stC h67 b68 o69 (.int .i64 (0 : Int)) fun h70 =>
 Enters Tryz.prog 62 ∧ FnD Tryz.prog B 62 #[.pointer (some ⟨r4, 0, none⟩)] .returning (dfE fun u71 h72 => lvW (fun h73 => isP (some ⟨r2, 0, none⟩) fun b76 o77 =>
∃ x78, cell? h73 ⟨b76, o77, none⟩ = some (.bool x78) ∧
∃ x79 x79n x79c, cell? h73 ⟨b76, o77 + 1, none⟩ = some (.slice x79 x79n x79c) ∧
∃ x80, cell? h73 ⟨b76, o77 + 1 + 1, none⟩ = some (.int .i64 x80) ∧
 isP (some ⟨r4, 0, none⟩) fun b81 o82 => ∃ x83, cell? h73 ⟨b81, o82, none⟩ = some (.int .i64 x83) ∧
 R (.returned (.tuple #[.agg #[.bool x78, .slice x79 x79n x79c, .int .i64 x80], .int .i64 x83])) h73) (fun ch75 h74 => R (.panicked ch75) h74) u71 h72) h70)
 (fun ch45 h46 => Enters Tryz.prog 62 ∧ FnD Tryz.prog B 62 #[.pointer (some ⟨r4, 0, none⟩)] (.panicking ch45) (dfE fun u50 h51 => lvW (fun h52 => isP (some ⟨r2, 0, none⟩) fun b55 o56 =>
∃ x57, cell? h52 ⟨b55, o56, none⟩ = some (.bool x57) ∧
∃ x58 x58n x58c, cell? h52 ⟨b55, o56 + 1, none⟩ = some (.slice x58 x58n x58c) ∧
∃ x59, cell? h52 ⟨b55, o56 + 1 + 1, none⟩ = some (.int .i64 x59) ∧
 isP (some ⟨r4, 0, none⟩) fun b60 o61 => ∃ x62, cell? h52 ⟨b60, o61, none⟩ = some (.int .i64 x62) ∧
 R (.returned (.tuple #[.agg #[.bool x57, .slice x58 x58n x58c, .int .i64 x59], .int .i64 x62])) h52) (fun ch54 h53 => R (.panicked ch54) h53) u50 h51) h46)) h25)
 (fun ch26 h27 => Enters Tryz.prog 62 ∧ FnD Tryz.prog B 62 #[.pointer (some ⟨r4, 0, none⟩)] (.panicking ch26) (dfE fun u30 h31 => lvW (fun h32 => isP (some ⟨r2, 0, none⟩) fun b35 o36 =>
∃ x37, cell? h32 ⟨b35, o36, none⟩ = some (.bool x37) ∧
∃ x38 x38n x38c, cell? h32 ⟨b35, o36 + 1, none⟩ = some (.slice x38 x38n x38c) ∧
∃ x39, cell? h32 ⟨b35, o36 + 1 + 1, none⟩ = some (.int .i64 x39) ∧
 isP (some ⟨r4, 0, none⟩) fun b40 o41 => ∃ x42, cell? h32 ⟨b40, o41, none⟩ = some (.int .i64 x42) ∧
 R (.returned (.tuple #[.agg #[.bool x37, .slice x38 x38n x38c, .int .i64 x39], .int .i64 x42])) h32) (fun ch34 h33 => R (.panicked ch34) h33) u30 h31) h27)) h7)
 (fun ch8 h9 => Enters Tryz.prog 62 ∧ FnD Tryz.prog B 62 #[.pointer (some ⟨r4, 0, none⟩)] (.panicking ch8) (dfE fun u11 h12 => lvW (fun h13 => isP (some ⟨r2, 0, none⟩) fun b16 o17 =>
∃ x18, cell? h13 ⟨b16, o17, none⟩ = some (.bool x18) ∧
∃ x19 x19n x19c, cell? h13 ⟨b16, o17 + 1, none⟩ = some (.slice x19 x19n x19c) ∧
∃ x20, cell? h13 ⟨b16, o17 + 1 + 1, none⟩ = some (.int .i64 x20) ∧
 isP (some ⟨r4, 0, none⟩) fun b21 o22 => ∃ x23, cell? h13 ⟨b21, o22, none⟩ = some (.int .i64 x23) ∧
 R (.returned (.tuple #[.agg #[.bool x18, .slice x19 x19n x19c, .int .i64 x20], .int .i64 x23])) h13) (fun ch15 h14 => R (.panicked ch15) h14) u11 h12) h9)) h5
def F119_L : Nat → List (Nat × TypeDesc) := fun _ => []
theorem F119_W (B : World) (R : Ending → Heap → Prop) (a1 : Option Addr) (a1n : Nat) (a1c : Nat) (h : Heap) : W Tryz.prog B Tryz.f119.ntmps F119_L (prune [] (codeOf Tryz.f119)) (endQD Tryz.prog B Tryz.f119 R) (env0 #[.slice a1 a1n a1c]) h = F119 B R a1 a1n a1c h := by kernel_rfl
theorem F119_ok {B : World} {R : Ending → Heap → Prop} (a1 : Option Addr) (a1n : Nat) (a1c : Nat) {h : Heap} (H : F119 B R a1 a1n a1c h) : Ent Tryz.prog B 119 #[.slice a1 a1n a1c] R h :=
  Ent_of_WD mixed Tryz.func119 (by kernel_rfl) (by kernel_rfl) (by kernel_rfl) F119_L [] (by rw [F119_W]; exact H)

/-- plumb/eft.num -/
def F60 (B : World) (R : Ending → Heap → Prop) (a1 : Nat) (h : Heap) : Prop :=
  alW h (.cells #[.bool false, .slice none 0 0, .int .i64 0] 29) fun r2 h3 =>
 Ent Tryz.prog B 56 #[.float .f64 a1] (retE (fun v4 h5 => ∃ x8, v4 = .int .i64 x8 ∧
 Ent Tryz.prog B 21 #[.int .i64 x8] (retE (fun v9 h10 => ∃ x13 x14 x14n x14c x15 x16, v9 = .tuple #[.agg #[.bool x13, .slice x14 x14n x14c, .int .i64 x15], .int .i64 x16] ∧
 alW h10 (.cells #[.bool false, .slice none 0 0, .int .i64 0] 29) fun r17 h18 =>
 isP (some ⟨r17, 0, none⟩) fun b19 o20 => stC h18 b19 o20 (.bool x13) fun h21 =>
 stC h21 b19 (o20 + 1) (.slice x14 x14n x14c) fun h22 =>
 stC h22 b19 (o20 + 1 + 1) (.int .i64 x15) fun h23 =>
 isP (some ⟨r17, 0, none⟩) fun b24 o25 =>
∃ x26, cell? h23 ⟨b24, o25, none⟩ = some (.bool x26) ∧
∃ x27 x27n x27c, cell? h23 ⟨b24, o25 + 1, none⟩ = some (.slice x27 x27n x27c) ∧
∃ x28, cell? h23 ⟨b24, o25 + 1 + 1, none⟩ = some (.int .i64 x28) ∧
 isP (some ⟨r2, 0, none⟩) fun b29 o30 => stC h23 b29 o30 (.bool x26) fun h31 =>
 stC h31 b29 (o30 + 1) (.slice x27 x27n x27c) fun h32 =>
 stC h32 b29 (o30 + 1 + 1) (.int .i64 x28) fun h33 =>
 isP (some ⟨r2, 0, none⟩) fun b34 o35 =>
∃ x36, cell? h33 ⟨b34, o35, none⟩ = some (.bool x36) ∧
∃ x37 x37n x37c, cell? h33 ⟨b34, o35 + 1, none⟩ = some (.slice x37 x37n x37c) ∧
∃ x38, cell? h33 ⟨b34, o35 + 1 + 1, none⟩ = some (.int .i64 x38) ∧
 R (.returned (.agg #[.bool x36, .slice x37 x37n x37c, .int .i64 x38])) h33)
 (fun ch11 h12 => R (.panicked ch11) h12)) h5)
 (fun ch6 h7 => R (.panicked ch6) h7)) h3
def F60_L : Nat → List (Nat × TypeDesc) := fun _ => []
theorem F60_W (B : World) (R : Ending → Heap → Prop) (a1 : Nat) (h : Heap) : W Tryz.prog B Tryz.f60.ntmps F60_L (prune [] (codeOf Tryz.f60)) (endQ Tryz.prog Tryz.f60 R) (env0 #[.float .f64 a1]) h = F60 B R a1 h := by kernel_rfl
theorem F60_ok {B : World} {R : Ending → Heap → Prop} (a1 : Nat) {h : Heap} (H : F60 B R a1 h) : Ent Tryz.prog B 60 #[.float .f64 a1] R h :=
  Ent_of_W mixed Tryz.func60 (by kernel_rfl) (by kernel_rfl) (by kernel_rfl) F60_L [] (by rw [F60_W]; exact H)

/-- plumb/eft.just -/
def F61_j62 (B : World) (R : Ending → Heap → Prop) (y63 : Bool) (h64 : Heap) : Prop :=
  R (.returned (.bool y63)) h64
def F61 (B : World) (R : Ending → Heap → Prop) (a1 : Nat) (a2 : Nat) (a3 : Bool) (a4 : Option Addr) (a4n : Nat) (a4c : Nat) (a5 : Int) (h : Heap) : Prop :=
  alW h (.cells #[.bool a3, .slice a4 a4n a4c, .int .i64 a5] 29) fun r6 h7 =>
 alW h7 (.cells #[.float .f64 a1, .float .f64 a2] 66) fun r8 h9 =>
 Ent Tryz.prog B 59 #[.slice (some ⟨r8, 0, none⟩) 2 2] (retE (fun v10 h11 => ∃ x14, v10 = .bool x14 ∧
((!x14) = true →
 R (.returned (.bool false)) h11) ∧
((!x14) = false →
 Ent Tryz.prog B 60 #[.float .f64 a1] (retE (fun v15 h16 => ∃ x19 x20 x20n x20c x21, v15 = .agg #[.bool x19, .slice x20 x20n x20c, .int .i64 x21] ∧
 Ent Tryz.prog B 60 #[.float .f64 a2] (retE (fun v22 h23 => ∃ x26 x27 x27n x27c x28, v22 = .agg #[.bool x26, .slice x27 x27n x27c, .int .i64 x28] ∧
 alW h23 (.cells #[.bool x19, .slice x20 x20n x20c, .int .i64 x21, .bool x26, .slice x27 x27n x27c, .int .i64 x28] 29) fun r29 h30 =>
 Ent Tryz.prog B 119 #[.slice (some ⟨r29, 0, none⟩) 2 2] (retE (fun v31 h32 => ∃ x35 x36 x36n x36c x37 x38, v31 = .tuple #[.agg #[.bool x35, .slice x36 x36n x36c, .int .i64 x37], .int .i64 x38] ∧
 alW h32 (.cells #[.bool false, .slice none 0 0, .int .i64 0] 29) fun r39 h40 =>
 isP (some ⟨r39, 0, none⟩) fun b41 o42 => stC h40 b41 o42 (.bool x35) fun h43 =>
 stC h43 b41 (o42 + 1) (.slice x36 x36n x36c) fun h44 =>
 stC h44 b41 (o42 + 1 + 1) (.int .i64 x37) fun h45 =>
 isP (some ⟨r39, 0, none⟩) fun b46 o47 =>
∃ x48, cell? h45 ⟨b46, o47, none⟩ = some (.bool x48) ∧
∃ x49 x49n x49c, cell? h45 ⟨b46, o47 + 1, none⟩ = some (.slice x49 x49n x49c) ∧
∃ x50, cell? h45 ⟨b46, o47 + 1 + 1, none⟩ = some (.int .i64 x50) ∧
 isP (some ⟨r6, 0, none⟩) fun b51 o52 =>
∃ x53, cell? h45 ⟨b51, o52, none⟩ = some (.bool x53) ∧
∃ x54 x54n x54c, cell? h45 ⟨b51, o52 + 1, none⟩ = some (.slice x54 x54n x54c) ∧
∃ x55, cell? h45 ⟨b51, o52 + 1 + 1, none⟩ = some (.int .i64 x55) ∧
 Ent Tryz.prog B 28 #[.agg #[.bool x48, .slice x49 x49n x49c, .int .i64 x50], .agg #[.bool x53, .slice x54 x54n x54c, .int .i64 x55]] (retE (fun v56 h57 => ∃ x60 x61, v56 = .tuple #[.int .i64 x60, .int .i64 x61] ∧
((decide (x61 = (0 : Int))) = true →
 F61_j62 B R (decide (x60 = (0 : Int))) h57) ∧
((decide (x61 = (0 : Int))) = false →
 F61_j62 B R false h57))
 (fun ch58 h59 => R (.panicked ch58) h59)) h45)
 (fun ch33 h34 => R (.panicked ch33) h34)) h30)
 (fun ch24 h25 => R (.panicked ch24) h25)) h16)
 (fun ch17 h18 => R (.panicked ch17) h18)) h11))
 (fun ch12 h13 => R (.panicked ch12) h13)) h9
def F61_L : Nat → List (Nat × TypeDesc) := fun _ => []
theorem F61_W (B : World) (R : Ending → Heap → Prop) (a1 : Nat) (a2 : Nat) (a3 : Bool) (a4 : Option Addr) (a4n : Nat) (a4c : Nat) (a5 : Int) (h : Heap) : W Tryz.prog B Tryz.f61.ntmps F61_L (prune [] (codeOf Tryz.f61)) (endQ Tryz.prog Tryz.f61 R) (env0 #[.float .f64 a1, .float .f64 a2, .agg #[.bool a3, .slice a4 a4n a4c, .int .i64 a5]]) h = F61 B R a1 a2 a3 a4 a4n a4c a5 h := by kernel_rfl
theorem F61_ok {B : World} {R : Ending → Heap → Prop} (a1 : Nat) (a2 : Nat) (a3 : Bool) (a4 : Option Addr) (a4n : Nat) (a4c : Nat) (a5 : Int) {h : Heap} (H : F61 B R a1 a2 a3 a4 a4n a4c a5 h) : Ent Tryz.prog B 61 #[.float .f64 a1, .float .f64 a2, .agg #[.bool a3, .slice a4 a4n a4c, .int .i64 a5]] R h :=
  Ent_of_W mixed Tryz.func61 (by kernel_rfl) (by kernel_rfl) (by kernel_rfl) F61_L [] (by rw [F61_W]; exact H)

/-- plumb/bits.Parts -/
def F63 (B : World) (R : Ending → Heap → Prop) (a1 : Int) (h : Heap) : Prop :=
  0 ≤ (52 : Int) ∧
((decide ((bitsI .and .i64 (Int.fdiv a1 (2 ^ min (Int.toNat (52 : Int)) IntKind.i64.bits)) (2047 : Int)) = (2047 : Int))) = true →
 R (.returned (.tuple #[.bool false, .int .i64 (0 : Int), .int .i64 (0 : Int), .bool false])) h) ∧
((decide ((bitsI .and .i64 (Int.fdiv a1 (2 ^ min (Int.toNat (52 : Int)) IntKind.i64.bits)) (2047 : Int)) = (2047 : Int))) = false →
 ((decide ((bitsI .and .i64 (Int.fdiv a1 (2 ^ min (Int.toNat (52 : Int)) IntKind.i64.bits)) (2047 : Int)) = (0 : Int))) = true →
 R (.returned (.tuple #[.bool (decide (a1 < (0 : Int))), .int .i64 (bitsI .and .i64 a1 (4503599627370495 : Int)), .int .i64 (-1074 : Int), .bool true])) h) ∧
((decide ((bitsI .and .i64 (Int.fdiv a1 (2 ^ min (Int.toNat (52 : Int)) IntKind.i64.bits)) (2047 : Int)) = (0 : Int))) = false →
 R (.returned (.tuple #[.bool (decide (a1 < (0 : Int))), .int .i64 (bitsI .or .i64 (bitsI .and .i64 a1 (4503599627370495 : Int)) (4503599627370496 : Int)), .int .i64 (IntKind.i64.wrap ((bitsI .and .i64 (Int.fdiv a1 (2 ^ min (Int.toNat (52 : Int)) IntKind.i64.bits)) (2047 : Int)) - (1075 : Int))), .bool true])) h))
def F63_L : Nat → List (Nat × TypeDesc) := fun _ => []
theorem F63_W (B : World) (R : Ending → Heap → Prop) (a1 : Int) (h : Heap) : W Tryz.prog B Tryz.f63.ntmps F63_L (prune [] (codeOf Tryz.f63)) (endQ Tryz.prog Tryz.f63 R) (env0 #[.int .i64 a1]) h = F63 B R a1 h := by kernel_rfl
theorem F63_ok {B : World} {R : Ending → Heap → Prop} (a1 : Int) {h : Heap} (H : F63 B R a1 h) : Ent Tryz.prog B 63 #[.int .i64 a1] R h :=
  Ent_of_W mixed Tryz.func63 (by kernel_rfl) (by kernel_rfl) (by kernel_rfl) F63_L [] (by rw [F63_W]; exact H)

/-- plumb/dyadic.of -/
def F64_j7 (B : World) (R : Ending → Heap → Prop) (y8 : Int) (y9 : Int) (y10 : Option Addr) (h11 : Heap) : Prop :=
  Ent Tryz.prog B 120 #[.int .i64 y8] (retE (fun v12 h13 => ∃ x16, v12 = .pointer x16 ∧
 Ent Tryz.prog B 65 #[.agg #[.pointer x16, .int .i64 y9]] (retE (fun v17 h18 => ∃ x21 x22 x22n x22c x23, v17 = .agg #[.bool x21, .slice x22 x22n x22c, .int .i64 x23] ∧
 isP y10 fun b24 o25 => stC h18 b24 o25 (.bool x21) fun h26 =>
 stC h26 b24 (o25 + 1) (.slice x22 x22n x22c) fun h27 =>
 stC h27 b24 (o25 + 1 + 1) (.int .i64 x23) fun h28 =>
 isP y10 fun b29 o30 =>
∃ x31, cell? h28 ⟨b29, o30, none⟩ = some (.bool x31) ∧
∃ x32 x32n x32c, cell? h28 ⟨b29, o30 + 1, none⟩ = some (.slice x32 x32n x32c) ∧
∃ x33, cell? h28 ⟨b29, o30 + 1 + 1, none⟩ = some (.int .i64 x33) ∧
 R (.returned (.agg #[.bool x31, .slice x32 x32n x32c, .int .i64 x33])) h28)
 (fun ch19 h20 => R (.panicked ch19) h20)) h13)
 (fun ch14 h15 => R (.panicked ch14) h15)) h11
def F64 (B : World) (R : Ending → Heap → Prop) (a1 : Bool) (a2 : Int) (a3 : Int) (a4 : Bool) (h : Heap) : Prop :=
  alW h (.cells #[.bool false, .slice none 0 0, .int .i64 0] 29) fun r5 h6 =>
((!a4) = true →
 R (.panicked [{ v := .iface 124 (.agg #[.int .i64 (10 : Int)]), recovered := false }]) h6) ∧
((!a4) = false →
 (a1 = true →
 F64_j7 B R (IntKind.i64.wrap (0 - a2)) a3 (some ⟨r5, 0, none⟩) h6) ∧
(a1 = false →
 F64_j7 B R a2 a3 (some ⟨r5, 0, none⟩) h6))
def F64_L : Nat → List (Nat × TypeDesc) := fun _ => []
theorem F64_W (B : World) (R : Ending → Heap → Prop) (a1 : Bool) (a2 : Int) (a3 : Int) (a4 : Bool) (h : Heap) : W Tryz.prog B Tryz.f64.ntmps F64_L (prune [] (codeOf Tryz.f64)) (endQ Tryz.prog Tryz.f64 R) (env0 #[.bool a1, .int .i64 a2, .int .i64 a3, .bool a4]) h = F64 B R a1 a2 a3 a4 h := by kernel_rfl
theorem F64_ok {B : World} {R : Ending → Heap → Prop} (a1 : Bool) (a2 : Int) (a3 : Int) (a4 : Bool) {h : Heap} (H : F64 B R a1 a2 a3 a4 h) : Ent Tryz.prog B 64 #[.bool a1, .int .i64 a2, .int .i64 a3, .bool a4] R h :=
  Ent_of_W mixed Tryz.func64 (by kernel_rfl) (by kernel_rfl) (by kernel_rfl) F64_L [] (by rw [F64_W]; exact H)

/-- plumb/dyadic.told -/
def F65_j66 (B : World) (R : Ending → Heap → Prop) (y67 : Option Addr) (y68 : Option Addr) (y69 : Option Addr) (y70 : Int) (y71 : Bool) (h72 : Heap) : Prop :=
  (y71 = true →
 R (.panicked [{ v := .iface 124 (.agg #[.int .i64 (2 : Int)]), recovered := false }]) h72) ∧
(y71 = false →
 Ent Tryz.prog B 124 #[.pointer y69] (retE (fun v73 h74 => ∃ x77, v73 = .int .i64 x77 ∧
(30 : Int) ≠ 0 ∧
0 ≤ (0 : Int) ∧ (0 : Int) ≤ (IntKind.i64.wrap ((IntKind.i64.wrap (Int.tdiv x77 (30 : Int))) + (1 : Int))) ∧ 8 * (IntKind.i64.wrap ((IntKind.i64.wrap (Int.tdiv x77 (30 : Int))) + (1 : Int))) ≤ 281474976710656 ∧ (IntKind.i64.wrap ((IntKind.i64.wrap (Int.tdiv x77 (30 : Int))) + (1 : Int))) < 9223372036854775808 ∧
 alW h74 (.cells (mkCells #[.int .i64 0] (Int.toNat (IntKind.i64.wrap ((IntKind.i64.wrap (Int.tdiv x77 (30 : Int))) + (1 : Int))) * 1)) 3) fun r78 h79 =>
 Ent Tryz.prog B 120 #[.int .i64 (1073741823 : Int)] (retE (fun v80 h81 => ∃ x84, v80 = .pointer x84 ∧
∃ I85 : Nat → List Value → Heap → Prop, ∃ n86, I85 n86 [.pointer y67, .pointer y68, .pointer y69, .int .i64 y70, .slice (some ⟨r78, 0, none⟩) (Int.toNat (0 : Int)) (Int.toNat (IntKind.i64.wrap ((IntKind.i64.wrap (Int.tdiv x77 (30 : Int))) + (1 : Int)))), .pointer x84] h81 ∧
∀ (n87 : Nat) (h94 : Heap) (z88 : Option Addr) (z89 : Option Addr) (z90 : Option Addr) (z91 : Int) (z92 : Option Addr) (z92n : Nat) (z92c : Nat) (z93 : Option Addr), I85 n87 [.pointer z88, .pointer z89, .pointer z90, .int .i64 z91, .slice z92 z92n z92c, .pointer z93] h94 → ∀ _r : Nat → Value,
 Ent Tryz.prog B 75 #[.pointer z90] (retE (fun v95 h96 => ∃ x99, v95 = .int .i64 x99 ∧
((decide ((0 : Int) < x99)) = true →
 alW h96 (.cells #[.bool false, .slice none 0 0] 131) fun r100 h101 =>
 Ent Tryz.prog B 125 #[.pointer (some ⟨r100, 0, none⟩), .pointer z90, .pointer z93] (retE (fun v102 h103 => ∃ x106, v102 = .pointer x106 ∧
 Ent Tryz.prog B 126 #[.pointer x106] (retE (fun v107 h108 => ∃ x111, v107 = .int .i64 x111 ∧
 alW h108 (.cells #[.int .i64 x111] 3) fun r112 h113 =>
 apW h113 z92 z92n z92c (some ⟨r112, 0, none⟩) 1 1 8 3 #[.int .i64 0] fun q115 n116 c117 h114 =>
 Ent Tryz.prog B 122 #[.pointer z90, .pointer z90, .int .u64 (30 : Int)] (retE (fun v118 h119 => ∃ x122, v118 = .pointer x122 ∧
∃ m123, m123 < n87 ∧ I85 m123 [.pointer z88, .pointer z89, .pointer z90, .int .i64 z91, .slice q115 n116 c117, .pointer z93] h119)
 (fun ch120 h121 => R (.panicked ch120) h121)) h114)
 (fun ch109 h110 => R (.panicked ch109) h110)) h103)
 (fun ch104 h105 => R (.panicked ch104) h105)) h101) ∧
((decide ((0 : Int) < x99)) = false →
 isP z88 fun b124 o125 =>
 isP (some ⟨b124, o125, none⟩) fun b126 o127 => ∃ x128, cell? h96 ⟨b126, o127, none⟩ = some (.pointer x128) ∧
 Ent Tryz.prog B 75 #[.pointer x128] (retE (fun v129 h130 => ∃ x133, v129 = .int .i64 x133 ∧
 isP z89 fun b134 o135 => stC h130 b134 o135 (.bool (decide (x133 < (0 : Int)))) fun h136 =>
 stC h136 b134 (o135 + 1) (.slice z92 z92n z92c) fun h137 =>
 stC h137 b134 (o135 + 1 + 1) (.int .i64 z91) fun h138 =>
 isP z89 fun b139 o140 =>
∃ x141, cell? h138 ⟨b139, o140, none⟩ = some (.bool x141) ∧
∃ x142 x142n x142c, cell? h138 ⟨b139, o140 + 1, none⟩ = some (.slice x142 x142n x142c) ∧
∃ x143, cell? h138 ⟨b139, o140 + 1 + 1, none⟩ = some (.int .i64 x143) ∧
 R (.returned (.agg #[.bool x141, .slice x142 x142n x142c, .int .i64 x143])) h138)
 (fun ch131 h132 => R (.panicked ch131) h132)) h96))
 (fun ch97 h98 => R (.panicked ch97) h98)) h94)
 (fun ch82 h83 => R (.panicked ch82) h83)) h79)
 (fun ch75 h76 => R (.panicked ch75) h76)) h72)
def F65 (B : World) (R : Ending → Heap → Prop) (a1 : Option Addr) (a2 : Int) (h : Heap) : Prop :=
  alW h (.cells #[.pointer a1, .int .i64 a2] 84) fun r3 h4 =>
 alW h4 (.cells #[.bool false, .slice none 0 0, .int .i64 0] 29) fun r5 h6 =>
 isP (some ⟨r3, 0, none⟩) fun b7 o8 =>
 isP (some ⟨b7, o8, none⟩) fun b9 o10 => ∃ x11, cell? h6 ⟨b9, o10, none⟩ = some (.pointer x11) ∧
 Ent Tryz.prog B 75 #[.pointer x11] (retE (fun v12 h13 => ∃ x16, v12 = .int .i64 x16 ∧
((decide (x16 = (0 : Int))) = true →
 isP (some ⟨r5, 0, none⟩) fun b17 o18 => stC h13 b17 o18 (.bool false) fun h19 =>
 stC h19 b17 (o18 + 1) (.slice none 0 0) fun h20 =>
 stC h20 b17 (o18 + 1 + 1) (.int .i64 0) fun h21 =>
 isP (some ⟨r5, 0, none⟩) fun b22 o23 =>
∃ x24, cell? h21 ⟨b22, o23, none⟩ = some (.bool x24) ∧
∃ x25 x25n x25c, cell? h21 ⟨b22, o23 + 1, none⟩ = some (.slice x25 x25n x25c) ∧
∃ x26, cell? h21 ⟨b22, o23 + 1 + 1, none⟩ = some (.int .i64 x26) ∧
 R (.returned (.agg #[.bool x24, .slice x25 x25n x25c, .int .i64 x26])) h21) ∧
((decide (x16 = (0 : Int))) = false →
 isP (some ⟨r3, 0, none⟩) fun b27 o28 =>
 isP (some ⟨b27, o28, none⟩) fun b29 o30 => ∃ x31, cell? h13 ⟨b29, o30, none⟩ = some (.pointer x31) ∧
 Ent Tryz.prog B 121 #[.pointer x31] (retE (fun v32 h33 => ∃ x36, v32 = .int .u64 x36 ∧
 alW h33 (.cells #[.bool false, .slice none 0 0] 131) fun r37 h38 =>
 alW h38 (.cells #[.bool false, .slice none 0 0] 131) fun r39 h40 =>
 isP (some ⟨r3, 0, none⟩) fun b41 o42 =>
 isP (some ⟨b41, o42, none⟩) fun b43 o44 => ∃ x45, cell? h40 ⟨b43, o44, none⟩ = some (.pointer x45) ∧
 Ent Tryz.prog B 123 #[.pointer (some ⟨r39, 0, none⟩), .pointer x45] (retE (fun v46 h47 => ∃ x50, v46 = .pointer x50 ∧
 Ent Tryz.prog B 122 #[.pointer (some ⟨r37, 0, none⟩), .pointer x50, .int .u64 (IntKind.u64.wrap (IntKind.i64.wrap x36))] (retE (fun v51 h52 => ∃ x55, v51 = .pointer x55 ∧
 isP (some ⟨r3, 0, none⟩) fun b56 o57 =>
 isP (some ⟨b56, o57 + 1, none⟩) fun b58 o59 => ∃ x60, cell? h52 ⟨b58, o59, none⟩ = some (.int .i64 x60) ∧
 Ent Tryz.prog B 124 #[.pointer x55] (retE (fun v61 h62 => ∃ x65, v61 = .int .i64 x65 ∧
((decide ((60000 : Int) < x65)) = true →
 (true = true →
 F65_j66 B R (some ⟨r3, 0, none⟩) (some ⟨r5, 0, none⟩) x55 (IntKind.i64.wrap (x60 + (IntKind.i64.wrap x36))) true h62) ∧
(true = false →
 F65_j66 B R (some ⟨r3, 0, none⟩) (some ⟨r5, 0, none⟩) x55 (IntKind.i64.wrap (x60 + (IntKind.i64.wrap x36))) (decide ((1048576 : Int) < (IntKind.i64.wrap (x60 + (IntKind.i64.wrap x36))))) h62)) ∧
((decide ((60000 : Int) < x65)) = false →
 ((decide ((IntKind.i64.wrap (x60 + (IntKind.i64.wrap x36))) < (-1048576 : Int))) = true →
 F65_j66 B R (some ⟨r3, 0, none⟩) (some ⟨r5, 0, none⟩) x55 (IntKind.i64.wrap (x60 + (IntKind.i64.wrap x36))) true h62) ∧
((decide ((IntKind.i64.wrap (x60 + (IntKind.i64.wrap x36))) < (-1048576 : Int))) = false →
 F65_j66 B R (some ⟨r3, 0, none⟩) (some ⟨r5, 0, none⟩) x55 (IntKind.i64.wrap (x60 + (IntKind.i64.wrap x36))) (decide ((1048576 : Int) < (IntKind.i64.wrap (x60 + (IntKind.i64.wrap x36))))) h62)))
 (fun ch63 h64 => R (.panicked ch63) h64)) h52)
 (fun ch53 h54 => R (.panicked ch53) h54)) h47)
 (fun ch48 h49 => R (.panicked ch48) h49)) h40)
 (fun ch34 h35 => R (.panicked ch34) h35)) h13))
 (fun ch14 h15 => R (.panicked ch14) h15)) h6
def F65_L : Nat → List (Nat × TypeDesc) := fun i => match i with
  | 10 => [(1, .pointer 0), (2, .pointer 0), (4, .pointer 0), (5, .int .i64), (6, .slice 0), (7, .pointer 0)]
  | _ => []
theorem F65_W (B : World) (R : Ending → Heap → Prop) (a1 : Option Addr) (a2 : Int) (h : Heap) : W Tryz.prog B Tryz.f65.ntmps F65_L (prune [] (codeOf Tryz.f65)) (endQ Tryz.prog Tryz.f65 R) (env0 #[.agg #[.pointer a1, .int .i64 a2]]) h = F65 B R a1 a2 h := by kernel_rfl
theorem F65_ok {B : World} {R : Ending → Heap → Prop} (a1 : Option Addr) (a2 : Int) {h : Heap} (H : F65 B R a1 a2 h) : Ent Tryz.prog B 65 #[.agg #[.pointer a1, .int .i64 a2]] R h :=
  Ent_of_W mixed Tryz.func65 (by kernel_rfl) (by kernel_rfl) (by kernel_rfl) F65_L [] (by rw [F65_W]; exact H)

/-- plumb/dyadic.plus -/
def F66_j43 (B : World) (R : Ending → Heap → Prop) (I12 : Nat → List Value → Heap → Prop) (n14 : Nat) (y44 : Option Addr) (y45 : Option Addr) (y46 : Option Addr) (y46n : Nat) (y46c : Nat) (y47 : Int) (y48 : Int) (h49 : Heap) : Prop :=
  ∃ m50, m50 < n14 ∧ I12 m50 [.pointer y44, .pointer y45, .slice y46 y46n y46c, .int .i64 y47, .int .i64 (IntKind.i64.wrap (y48 + (1 : Int)))] h49
def F66_j69 (B : World) (R : Ending → Heap → Prop) (I12 : Nat → List Value → Heap → Prop) (n14 : Nat) (y70 : Option Addr) (y71 : Option Addr) (y72 : Option Addr) (y72n : Nat) (y72c : Nat) (y73 : Int) (y74 : Int) (h75 : Heap) : Prop :=
  F66_j43 B R I12 n14 y70 y71 y72 y72n y72c y73 y74 h75
def F66_j136 (B : World) (R : Ending → Heap → Prop) (I12 : Nat → List Value → Heap → Prop) (n14 : Nat) (y137 : Option Addr) (y138 : Option Addr) (y139 : Option Addr) (y139n : Nat) (y139c : Nat) (y140 : Int) (y141 : Int) (h142 : Heap) : Prop :=
  F66_j69 B R I12 n14 y137 y138 y139 y139n y139c y140 y141 h142
def F66_j129 (B : World) (R : Ending → Heap → Prop) (I12 : Nat → List Value → Heap → Prop) (n14 : Nat) (y130 : Option Addr) (y131 : Option Addr) (y132 : Option Addr) (y132n : Nat) (y132c : Nat) (y133 : Int) (y134 : Int) (h135 : Heap) : Prop :=
  F66_j136 B R I12 n14 y130 y131 y132 y132n y132c y133 y134 h135
def F66_j220 (B : World) (R : Ending → Heap → Prop) (I12 : Nat → List Value → Heap → Prop) (n14 : Nat) (y221 : Option Addr) (y222 : Option Addr) (y223 : Option Addr) (y223n : Nat) (y223c : Nat) (y224 : Int) (y225 : Int) (h226 : Heap) : Prop :=
  F66_j136 B R I12 n14 y221 y222 y223 y223n y223c y224 y225 h226
def F66 (B : World) (R : Ending → Heap → Prop) (a1 : Option Addr) (a1n : Nat) (a1c : Nat) (h : Heap) : Prop :=
  alW h (.cells #[.pointer none, .int .i64 0] 84) fun r2 h3 =>
 alW h3 (.cells #[.bool false, .slice none 0 0] 131) fun r4 h5 =>
 alW h5 (.cells #[.pointer none, .int .i64 0] 84) fun r6 h7 =>
 isP (some ⟨r6, 0, none⟩) fun b8 o9 => stC h7 b8 o9 (.pointer (some ⟨r4, 0, none⟩)) fun h10 =>
 stC h10 b8 (o9 + 1) (.int .i64 (0 : Int)) fun h11 =>
∃ I12 : Nat → List Value → Heap → Prop, ∃ n13, I12 n13 [.pointer (some ⟨r2, 0, none⟩), .pointer (some ⟨r6, 0, none⟩), .slice a1 a1n a1c, .int .i64 ((a1n : Nat) : Int), .int .i64 (0 : Int)] h11 ∧
∀ (n14 : Nat) (h20 : Heap) (z15 : Option Addr) (z16 : Option Addr) (z17 : Option Addr) (z17n : Nat) (z17c : Nat) (z18 : Int) (z19 : Int), I12 n14 [.pointer z15, .pointer z16, .slice z17 z17n z17c, .int .i64 z18, .int .i64 z19] h20 → ∀ _r : Nat → Value,
 ((decide (z19 < z18)) = true →
 ixW z17 z17n z19 2 fun b21 o22 =>
 isP (some ⟨b21, o22, none⟩) fun b23 o24 =>
∃ x25, cell? h20 ⟨b23, o24, none⟩ = some (.pointer x25) ∧
∃ x26, cell? h20 ⟨b23, o24 + 1, none⟩ = some (.int .i64 x26) ∧
 alW h20 (.cells #[.pointer none, .int .i64 0] 84) fun r27 h28 =>
 isP (some ⟨r27, 0, none⟩) fun b29 o30 => stC h28 b29 o30 (.pointer x25) fun h31 =>
 stC h31 b29 (o30 + 1) (.int .i64 x26) fun h32 =>
 isP (some ⟨r27, 0, none⟩) fun b33 o34 =>
 isP (some ⟨b33, o34, none⟩) fun b35 o36 => ∃ x37, cell? h32 ⟨b35, o36, none⟩ = some (.pointer x37) ∧
 Ent Tryz.prog B 75 #[.pointer x37] (retE (fun v38 h39 => ∃ x42, v38 = .int .i64 x42 ∧
((decide (x42 = (0 : Int))) = true →
 F66_j43 B R I12 n14 z15 z16 z17 z17n z17c z18 z19 h39) ∧
((decide (x42 = (0 : Int))) = false →
 isP z16 fun b51 o52 =>
 isP (some ⟨b51, o52, none⟩) fun b53 o54 => ∃ x55, cell? h39 ⟨b53, o54, none⟩ = some (.pointer x55) ∧
 Ent Tryz.prog B 75 #[.pointer x55] (retE (fun v56 h57 => ∃ x60, v56 = .int .i64 x60 ∧
((decide (x60 = (0 : Int))) = true →
 isP (some ⟨r27, 0, none⟩) fun b61 o62 =>
∃ x63, cell? h57 ⟨b61, o62, none⟩ = some (.pointer x63) ∧
∃ x64, cell? h57 ⟨b61, o62 + 1, none⟩ = some (.int .i64 x64) ∧
 isP z16 fun b65 o66 => stC h57 b65 o66 (.pointer x63) fun h67 =>
 stC h67 b65 (o66 + 1) (.int .i64 x64) fun h68 =>
 F66_j69 B R I12 n14 z15 z16 z17 z17n z17c z18 z19 h68) ∧
((decide (x60 = (0 : Int))) = false →
 isP (some ⟨r27, 0, none⟩) fun b76 o77 =>
 isP (some ⟨b76, o77 + 1, none⟩) fun b78 o79 => ∃ x80, cell? h57 ⟨b78, o79, none⟩ = some (.int .i64 x80) ∧
 isP z16 fun b81 o82 =>
 isP (some ⟨b81, o82 + 1, none⟩) fun b83 o84 => ∃ x85, cell? h57 ⟨b83, o84, none⟩ = some (.int .i64 x85) ∧
((decide (x85 ≤ x80)) = true →
 isP z16 fun b86 o87 =>
 isP (some ⟨b86, o87, none⟩) fun b88 o89 => ∃ x90, cell? h57 ⟨b88, o89, none⟩ = some (.pointer x90) ∧
 isP (some ⟨r27, 0, none⟩) fun b91 o92 =>
 isP (some ⟨b91, o92, none⟩) fun b93 o94 => ∃ x95, cell? h57 ⟨b93, o94, none⟩ = some (.pointer x95) ∧
 isP (some ⟨r27, 0, none⟩) fun b96 o97 =>
 isP (some ⟨b96, o97 + 1, none⟩) fun b98 o99 => ∃ x100, cell? h57 ⟨b98, o99, none⟩ = some (.int .i64 x100) ∧
 isP z16 fun b101 o102 =>
 isP (some ⟨b101, o102 + 1, none⟩) fun b103 o104 => ∃ x105, cell? h57 ⟨b103, o104, none⟩ = some (.int .i64 x105) ∧
 isP z16 fun b106 o107 =>
 isP (some ⟨b106, o107 + 1, none⟩) fun b108 o109 => ∃ x110, cell? h57 ⟨b108, o109, none⟩ = some (.int .i64 x110) ∧
(alW h57 (.cells #[.bool false, .slice none 0 0] 131) fun r111 h112 =>
 sameCells h57 h112 b108 o109 1 ∧ sameCells h57 h112 b103 o104 1 ∧ sameCells h57 h112 b98 o99 1 ∧ sameCells h57 h112 b93 o94 1 ∧ sameCells h57 h112 b88 o89 1 ∧ alW h112 (.cells #[.bool false, .slice none 0 0] 131) fun r113 h114 =>
 sameCells h112 h114 b108 o109 1 ∧ sameCells h112 h114 b103 o104 1 ∧ sameCells h112 h114 b98 o99 1 ∧ sameCells h112 h114 b93 o94 1 ∧ sameCells h112 h114 b88 o89 1 ∧ Ent Tryz.prog B 128 #[.pointer (some ⟨r113, 0, none⟩), .pointer x95, .int .u64 (IntKind.u64.wrap (IntKind.i64.wrap (x100 - x105)))] (retE (fun v115 h116 => ∃ x119, v115 = .pointer x119 ∧
 sameCells h114 h116 b108 o109 1 ∧ sameCells h114 h116 b88 o89 1 ∧ Ent Tryz.prog B 127 #[.pointer (some ⟨r111, 0, none⟩), .pointer x90, .pointer x119] (retE (fun v120 h121 => ∃ x124, v120 = .pointer x124 ∧
 sameCells h116 h121 b108 o109 1 ∧ isP z16 fun b125 o126 => stC h121 b125 o126 (.pointer x124) fun h127 =>
 stC h127 b125 (o126 + 1) (.int .i64 x110) fun h128 =>
 F66_j129 B R I12 n14 z15 z16 z17 z17n z17c z18 z19 h128)
 (fun _ _ => False)) h116)
 (fun _ _ => False)) h114) ∧
(alW h57 (.cells #[.bool false, .slice none 0 0] 131) fun r143 h144 =>
 sameCells h57 h144 b108 o109 1 ∧ sameCells h57 h144 b103 o104 1 ∧ sameCells h57 h144 b98 o99 1 ∧ sameCells h57 h144 b93 o94 1 ∧ sameCells h57 h144 b88 o89 1 ∧ (alW h144 (.cells #[.bool false, .slice none 0 0] 131) fun r145 h146 =>
 sameCells h144 h146 b108 o109 1 ∧ sameCells h144 h146 b103 o104 1 ∧ sameCells h144 h146 b98 o99 1 ∧ sameCells h144 h146 b93 o94 1 ∧ sameCells h144 h146 b88 o89 1 ∧ Ent Tryz.prog B 128 #[.pointer (some ⟨r143, 0, none⟩), .pointer x95, .int .u64 (IntKind.u64.wrap (IntKind.i64.wrap (x100 - x105)))] (retE (fun v147 h148 => ∃ x151, v147 = .pointer x151 ∧
 sameCells h146 h148 b108 o109 1 ∧ sameCells h146 h148 b88 o89 1 ∧ Ent Tryz.prog B 127 #[.pointer (some ⟨r145, 0, none⟩), .pointer x90, .pointer x151] (retE (fun v152 h153 => ∃ x156, v152 = .pointer x156 ∧
 sameCells h148 h153 b108 o109 1 ∧ isP z16 fun b157 o158 => stC h153 b157 o158 (.pointer x156) fun h159 =>
 stC h159 b157 (o158 + 1) (.int .i64 x110) fun h160 =>
 F66_j129 B R I12 n14 z15 z16 z17 z17n z17c z18 z19 h160)
 (fun _ _ => False)) h148)
 (fun _ _ => False)) h146) ∧
(Ent Tryz.prog B 128 #[.pointer (some ⟨r143, 0, none⟩), .pointer x95, .int .u64 (IntKind.u64.wrap (IntKind.i64.wrap (x100 - x105)))] (retE (fun v161 h162 => ∃ x165, v161 = .pointer x165 ∧
 sameCells h144 h162 b108 o109 1 ∧ sameCells h144 h162 b88 o89 1 ∧ alW h162 (.cells #[.bool false, .slice none 0 0] 131) fun r166 h167 =>
 sameCells h162 h167 b108 o109 1 ∧ sameCells h162 h167 b103 o104 1 ∧ sameCells h162 h167 b98 o99 1 ∧ sameCells h162 h167 b93 o94 1 ∧ sameCells h162 h167 b88 o89 1 ∧ Ent Tryz.prog B 127 #[.pointer (some ⟨r166, 0, none⟩), .pointer x90, .pointer x165] (retE (fun v168 h169 => ∃ x172, v168 = .pointer x172 ∧
 sameCells h167 h169 b108 o109 1 ∧ isP z16 fun b173 o174 => stC h169 b173 o174 (.pointer x172) fun h175 =>
 stC h175 b173 (o174 + 1) (.int .i64 x110) fun h176 =>
 F66_j129 B R I12 n14 z15 z16 z17 z17n z17c z18 z19 h176)
 (fun _ _ => False)) h167)
 (fun _ _ => False)) h144))) ∧
((decide (x85 ≤ x80)) = false →
 isP (some ⟨r27, 0, none⟩) fun b177 o178 =>
 isP (some ⟨b177, o178, none⟩) fun b179 o180 => ∃ x181, cell? h57 ⟨b179, o180, none⟩ = some (.pointer x181) ∧
 isP z16 fun b182 o183 =>
 isP (some ⟨b182, o183, none⟩) fun b184 o185 => ∃ x186, cell? h57 ⟨b184, o185, none⟩ = some (.pointer x186) ∧
 isP z16 fun b187 o188 =>
 isP (some ⟨b187, o188 + 1, none⟩) fun b189 o190 => ∃ x191, cell? h57 ⟨b189, o190, none⟩ = some (.int .i64 x191) ∧
 isP (some ⟨r27, 0, none⟩) fun b192 o193 =>
 isP (some ⟨b192, o193 + 1, none⟩) fun b194 o195 => ∃ x196, cell? h57 ⟨b194, o195, none⟩ = some (.int .i64 x196) ∧
 isP (some ⟨r27, 0, none⟩) fun b197 o198 =>
 isP (some ⟨b197, o198 + 1, none⟩) fun b199 o200 => ∃ x201, cell? h57 ⟨b199, o200, none⟩ = some (.int .i64 x201) ∧
(alW h57 (.cells #[.bool false, .slice none 0 0] 131) fun r202 h203 =>
 sameCells h57 h203 b199 o200 1 ∧ sameCells h57 h203 b194 o195 1 ∧ sameCells h57 h203 b189 o190 1 ∧ sameCells h57 h203 b184 o185 1 ∧ sameCells h57 h203 b179 o180 1 ∧ alW h203 (.cells #[.bool false, .slice none 0 0] 131) fun r204 h205 =>
 sameCells h203 h205 b199 o200 1 ∧ sameCells h203 h205 b194 o195 1 ∧ sameCells h203 h205 b189 o190 1 ∧ sameCells h203 h205 b184 o185 1 ∧ sameCells h203 h205 b179 o180 1 ∧ Ent Tryz.prog B 128 #[.pointer (some ⟨r204, 0, none⟩), .pointer x186, .int .u64 (IntKind.u64.wrap (IntKind.i64.wrap (x191 - x196)))] (retE (fun v206 h207 => ∃ x210, v206 = .pointer x210 ∧
 sameCells h205 h207 b199 o200 1 ∧ sameCells h205 h207 b179 o180 1 ∧ Ent Tryz.prog B 127 #[.pointer (some ⟨r202, 0, none⟩), .pointer x181, .pointer x210] (retE (fun v211 h212 => ∃ x215, v211 = .pointer x215 ∧
 sameCells h207 h212 b199 o200 1 ∧ isP z16 fun b216 o217 => stC h212 b216 o217 (.pointer x215) fun h218 =>
 stC h218 b216 (o217 + 1) (.int .i64 x201) fun h219 =>
 F66_j220 B R I12 n14 z15 z16 z17 z17n z17c z18 z19 h219)
 (fun _ _ => False)) h207)
 (fun _ _ => False)) h205) ∧
(alW h57 (.cells #[.bool false, .slice none 0 0] 131) fun r227 h228 =>
 sameCells h57 h228 b199 o200 1 ∧ sameCells h57 h228 b194 o195 1 ∧ sameCells h57 h228 b189 o190 1 ∧ sameCells h57 h228 b184 o185 1 ∧ sameCells h57 h228 b179 o180 1 ∧ (alW h228 (.cells #[.bool false, .slice none 0 0] 131) fun r229 h230 =>
 sameCells h228 h230 b199 o200 1 ∧ sameCells h228 h230 b194 o195 1 ∧ sameCells h228 h230 b189 o190 1 ∧ sameCells h228 h230 b184 o185 1 ∧ sameCells h228 h230 b179 o180 1 ∧ Ent Tryz.prog B 128 #[.pointer (some ⟨r227, 0, none⟩), .pointer x186, .int .u64 (IntKind.u64.wrap (IntKind.i64.wrap (x191 - x196)))] (retE (fun v231 h232 => ∃ x235, v231 = .pointer x235 ∧
 sameCells h230 h232 b199 o200 1 ∧ sameCells h230 h232 b179 o180 1 ∧ Ent Tryz.prog B 127 #[.pointer (some ⟨r229, 0, none⟩), .pointer x181, .pointer x235] (retE (fun v236 h237 => ∃ x240, v236 = .pointer x240 ∧
 sameCells h232 h237 b199 o200 1 ∧ isP z16 fun b241 o242 => stC h237 b241 o242 (.pointer x240) fun h243 =>
 stC h243 b241 (o242 + 1) (.int .i64 x201) fun h244 =>
 F66_j220 B R I12 n14 z15 z16 z17 z17n z17c z18 z19 h244)
 (fun _ _ => False)) h232)
 (fun _ _ => False)) h230) ∧
(Ent Tryz.prog B 128 #[.pointer (some ⟨r227, 0, none⟩), .pointer x186, .int .u64 (IntKind.u64.wrap (IntKind.i64.wrap (x191 - x196)))] (retE (fun v245 h246 => ∃ x249, v245 = .pointer x249 ∧
 sameCells h228 h246 b199 o200 1 ∧ sameCells h228 h246 b179 o180 1 ∧ alW h246 (.cells #[.bool false, .slice none 0 0] 131) fun r250 h251 =>
 sameCells h246 h251 b199 o200 1 ∧ sameCells h246 h251 b194 o195 1 ∧ sameCells h246 h251 b189 o190 1 ∧ sameCells h246 h251 b184 o185 1 ∧ sameCells h246 h251 b179 o180 1 ∧ Ent Tryz.prog B 127 #[.pointer (some ⟨r250, 0, none⟩), .pointer x181, .pointer x249] (retE (fun v252 h253 => ∃ x256, v252 = .pointer x256 ∧
 sameCells h251 h253 b199 o200 1 ∧ isP z16 fun b257 o258 => stC h253 b257 o258 (.pointer x256) fun h259 =>
 stC h259 b257 (o258 + 1) (.int .i64 x201) fun h260 =>
 F66_j220 B R I12 n14 z15 z16 z17 z17n z17c z18 z19 h260)
 (fun _ _ => False)) h251)
 (fun _ _ => False)) h228)))))
 (fun ch58 h59 => R (.panicked ch58) h59)) h39))
 (fun ch40 h41 => R (.panicked ch40) h41)) h32) ∧
((decide (z19 < z18)) = false →
 isP z16 fun b261 o262 =>
∃ x263, cell? h20 ⟨b261, o262, none⟩ = some (.pointer x263) ∧
∃ x264, cell? h20 ⟨b261, o262 + 1, none⟩ = some (.int .i64 x264) ∧
 isP z15 fun b265 o266 => stC h20 b265 o266 (.pointer x263) fun h267 =>
 stC h267 b265 (o266 + 1) (.int .i64 x264) fun h268 =>
 isP z15 fun b269 o270 =>
∃ x271, cell? h268 ⟨b269, o270, none⟩ = some (.pointer x271) ∧
∃ x272, cell? h268 ⟨b269, o270 + 1, none⟩ = some (.int .i64 x272) ∧
 R (.returned (.agg #[.pointer x271, .int .i64 x272])) h268)
def F66_L : Nat → List (Nat × TypeDesc) := fun i => match i with
  | 3 => [(2, .pointer 0), (3, .pointer 0), (8, .slice 0), (9, .int .i64), (10, .int .i64)]
  | _ => []
theorem F66_W (B : World) (R : Ending → Heap → Prop) (a1 : Option Addr) (a1n : Nat) (a1c : Nat) (h : Heap) : W Tryz.prog B Tryz.f66.ntmps F66_L (prune [] (codeOf Tryz.f66)) (endQ Tryz.prog Tryz.f66 R) (env0 #[.slice a1 a1n a1c]) h = F66 B R a1 a1n a1c h := by kernel_rfl
theorem F66_ok {B : World} {R : Ending → Heap → Prop} (a1 : Option Addr) (a1n : Nat) (a1c : Nat) {h : Heap} (H : F66 B R a1 a1n a1c h) : Ent Tryz.prog B 66 #[.slice a1 a1n a1c] R h :=
  Ent_of_W mixed Tryz.func66 (by kernel_rfl) (by kernel_rfl) (by kernel_rfl) F66_L [] (by rw [F66_W]; exact H)

/-- plumb/dyadic.open -/
def F67_j62 (B : World) (R : Ending → Heap → Prop) (I4 : Nat → List Value → Heap → Prop) (n6 : Nat) (y63 : Option Addr) (y63n : Nat) (y63c : Nat) (y64 : Option Addr) (y64n : Nat) (y64c : Nat) (y65 : Int) (y66 : Int) (h67 : Heap) : Prop :=
  ∃ m68, m68 < n6 ∧ I4 m68 [.slice y63 y63n y63c, .slice y64 y64n y64c, .int .i64 y65, .int .i64 (IntKind.i64.wrap (y66 + (1 : Int)))] h67
def F67 (B : World) (R : Ending → Heap → Prop) (a1 : Option Addr) (a1n : Nat) (a1c : Nat) (h : Heap) : Prop :=
  0 ≤ ((a1n : Nat) : Int) ∧ ((a1n : Nat) : Int) ≤ ((a1n : Nat) : Int) ∧ 16 * ((a1n : Nat) : Int) ≤ 281474976710656 ∧ ((a1n : Nat) : Int) < 9223372036854775808 ∧
 alW h (.cells (mkCells #[.pointer none, .int .i64 0] (Int.toNat ((a1n : Nat) : Int) * 2)) 84) fun r2 h3 =>
∃ I4 : Nat → List Value → Heap → Prop, ∃ n5, I4 n5 [.slice (some ⟨r2, 0, none⟩) (Int.toNat ((a1n : Nat) : Int)) (Int.toNat ((a1n : Nat) : Int)), .slice a1 a1n a1c, .int .i64 ((a1n : Nat) : Int), .int .i64 (0 : Int)] h3 ∧
∀ (n6 : Nat) (h11 : Heap) (z7 : Option Addr) (z7n : Nat) (z7c : Nat) (z8 : Option Addr) (z8n : Nat) (z8c : Nat) (z9 : Int) (z10 : Int), I4 n6 [.slice z7 z7n z7c, .slice z8 z8n z8c, .int .i64 z9, .int .i64 z10] h11 → ∀ _r : Nat → Value,
 ((decide (z10 < z9)) = true →
 ixW z8 z8n z10 3 fun b12 o13 =>
 isP (some ⟨b12, o13, none⟩) fun b14 o15 =>
∃ x16, cell? h11 ⟨b14, o15, none⟩ = some (.bool x16) ∧
∃ x17 x17n x17c, cell? h11 ⟨b14, o15 + 1, none⟩ = some (.slice x17 x17n x17c) ∧
∃ x18, cell? h11 ⟨b14, o15 + 1 + 1, none⟩ = some (.int .i64 x18) ∧
 alW h11 (.cells #[.bool false, .slice none 0 0, .int .i64 0] 29) fun r19 h20 =>
 isP (some ⟨r19, 0, none⟩) fun b21 o22 => stC h20 b21 o22 (.bool x16) fun h23 =>
 stC h23 b21 (o22 + 1) (.slice x17 x17n x17c) fun h24 =>
 stC h24 b21 (o22 + 1 + 1) (.int .i64 x18) fun h25 =>
 isP (some ⟨r19, 0, none⟩) fun b26 o27 =>
∃ x28, cell? h25 ⟨b26, o27, none⟩ = some (.bool x28) ∧
∃ x29 x29n x29c, cell? h25 ⟨b26, o27 + 1, none⟩ = some (.slice x29 x29n x29c) ∧
∃ x30, cell? h25 ⟨b26, o27 + 1 + 1, none⟩ = some (.int .i64 x30) ∧
 Ent Tryz.prog B 129 #[.agg #[.bool x28, .slice x29 x29n x29c, .int .i64 x30]] (retE (fun v31 h32 => ∃ x35, v31 = .bool x35 ∧
((!x35) = true →
 R (.panicked [{ v := .iface 124 (.agg #[.int .i64 (11 : Int)]), recovered := false }]) h32) ∧
((!x35) = false →
 isP (some ⟨r19, 0, none⟩) fun b36 o37 =>
 isP (some ⟨b36, o37, none⟩) fun b38 o39 => ∃ x40, cell? h32 ⟨b38, o39, none⟩ = some (.bool x40) ∧
 isP (some ⟨r19, 0, none⟩) fun b41 o42 =>
 isP (some ⟨b41, o42 + 1, none⟩) fun b43 o44 => ∃ x45 x45n x45c, cell? h32 ⟨b43, o44, none⟩ = some (.slice x45 x45n x45c) ∧
 isP (some ⟨r19, 0, none⟩) fun b46 o47 =>
 isP (some ⟨b46, o47 + 2, none⟩) fun b48 o49 => ∃ x50, cell? h32 ⟨b48, o49, none⟩ = some (.int .i64 x50) ∧
 Ent Tryz.prog B 130 #[.bool x40, .slice x45 x45n x45c] (retE (fun v51 h52 => ∃ x55, v51 = .pointer x55 ∧
 sameCells h32 h52 b48 o49 1 ∧ ixW z7 z7n z10 2 fun b56 o57 =>
 isP (some ⟨b56, o57, none⟩) fun b58 o59 => stC h52 b58 o59 (.pointer x55) fun h60 =>
 stC h60 b58 (o59 + 1) (.int .i64 x50) fun h61 =>
 F67_j62 B R I4 n6 z7 z7n z7c z8 z8n z8c z9 z10 h61)
 (fun _ _ => False)) h32))
 (fun ch33 h34 => R (.panicked ch33) h34)) h25) ∧
((decide (z10 < z9)) = false →
 R (.returned (.slice z7 z7n z7c)) h11)
def F67_L : Nat → List (Nat × TypeDesc) := fun i => match i with
  | 3 => [(3, .slice 0), (9, .slice 0), (10, .int .i64), (11, .int .i64)]
  | _ => []
theorem F67_W (B : World) (R : Ending → Heap → Prop) (a1 : Option Addr) (a1n : Nat) (a1c : Nat) (h : Heap) : W Tryz.prog B Tryz.f67.ntmps F67_L (prune [] (codeOf Tryz.f67)) (endQ Tryz.prog Tryz.f67 R) (env0 #[.slice a1 a1n a1c]) h = F67 B R a1 a1n a1c h := by kernel_rfl
theorem F67_ok {B : World} {R : Ending → Heap → Prop} (a1 : Option Addr) (a1n : Nat) (a1c : Nat) {h : Heap} (H : F67 B R a1 a1n a1c h) : Ent Tryz.prog B 67 #[.slice a1 a1n a1c] R h :=
  Ent_of_W mixed Tryz.func67 (by kernel_rfl) (by kernel_rfl) (by kernel_rfl) F67_L [] (by rw [F67_W]; exact H)

/-- plumb/dyadic.times -/
def F68_j42 (B : World) (R : Ending → Heap → Prop) (y43 : Option Addr) (h44 : Heap) : Prop :=
  isP y43 fun b45 o46 =>
∃ x47, cell? h44 ⟨b45, o46, none⟩ = some (.pointer x47) ∧
∃ x48, cell? h44 ⟨b45, o46 + 1, none⟩ = some (.int .i64 x48) ∧
 R (.returned (.agg #[.pointer x47, .int .i64 x48])) h44
def F68 (B : World) (R : Ending → Heap → Prop) (a1 : Option Addr) (a2 : Int) (a3 : Option Addr) (a4 : Int) (h : Heap) : Prop :=
  alW h (.cells #[.pointer a1, .int .i64 a2] 84) fun r5 h6 =>
 alW h6 (.cells #[.pointer a3, .int .i64 a4] 84) fun r7 h8 =>
 alW h8 (.cells #[.pointer none, .int .i64 0] 84) fun r9 h10 =>
 isP (some ⟨r5, 0, none⟩) fun b11 o12 =>
 isP (some ⟨b11, o12, none⟩) fun b13 o14 => ∃ x15, cell? h10 ⟨b13, o14, none⟩ = some (.pointer x15) ∧
 isP (some ⟨r7, 0, none⟩) fun b16 o17 =>
 isP (some ⟨b16, o17, none⟩) fun b18 o19 => ∃ x20, cell? h10 ⟨b18, o19, none⟩ = some (.pointer x20) ∧
 isP (some ⟨r5, 0, none⟩) fun b21 o22 =>
 isP (some ⟨b21, o22 + 1, none⟩) fun b23 o24 => ∃ x25, cell? h10 ⟨b23, o24, none⟩ = some (.int .i64 x25) ∧
 isP (some ⟨r7, 0, none⟩) fun b26 o27 =>
 isP (some ⟨b26, o27 + 1, none⟩) fun b28 o29 => ∃ x30, cell? h10 ⟨b28, o29, none⟩ = some (.int .i64 x30) ∧
 alW h10 (.cells #[.bool false, .slice none 0 0] 131) fun r31 h32 =>
 sameCells h10 h32 b28 o29 1 ∧ sameCells h10 h32 b23 o24 1 ∧ sameCells h10 h32 b18 o19 1 ∧ sameCells h10 h32 b13 o14 1 ∧ Ent Tryz.prog B 131 #[.pointer (some ⟨r31, 0, none⟩), .pointer x15, .pointer x20] (retE (fun v33 h34 => ∃ x37, v33 = .pointer x37 ∧
 sameCells h32 h34 b28 o29 1 ∧ sameCells h32 h34 b23 o24 1 ∧ isP (some ⟨r9, 0, none⟩) fun b38 o39 => stC h34 b38 o39 (.pointer x37) fun h40 =>
 stC h40 b38 (o39 + 1) (.int .i64 (IntKind.i64.wrap (x25 + x30))) fun h41 =>
 F68_j42 B R (some ⟨r9, 0, none⟩) h41)
 (fun _ _ => False)) h32
def F68_L : Nat → List (Nat × TypeDesc) := fun _ => []
theorem F68_W (B : World) (R : Ending → Heap → Prop) (a1 : Option Addr) (a2 : Int) (a3 : Option Addr) (a4 : Int) (h : Heap) : W Tryz.prog B Tryz.f68.ntmps F68_L (prune [] (codeOf Tryz.f68)) (endQ Tryz.prog Tryz.f68 R) (env0 #[.agg #[.pointer a1, .int .i64 a2], .agg #[.pointer a3, .int .i64 a4]]) h = F68 B R a1 a2 a3 a4 h := by kernel_rfl
theorem F68_ok {B : World} {R : Ending → Heap → Prop} (a1 : Option Addr) (a2 : Int) (a3 : Option Addr) (a4 : Int) {h : Heap} (H : F68 B R a1 a2 a3 a4 h) : Ent Tryz.prog B 68 #[.agg #[.pointer a1, .int .i64 a2], .agg #[.pointer a3, .int .i64 a4]] R h :=
  Ent_of_W mixed Tryz.func68 (by kernel_rfl) (by kernel_rfl) (by kernel_rfl) F68_L [] (by rw [F68_W]; exact H)

/-- plumb/dyadic.Valid -/
def F129_j21 (B : World) (R : Ending → Heap → Prop) (y22 : Bool) (h23 : Heap) : Prop :=
  R (.returned (.bool y22)) h23
def F129_j54 (B : World) (R : Ending → Heap → Prop) (y55 : Bool) (h56 : Heap) : Prop :=
  R (.returned (.bool y55)) h56
def F129 (B : World) (R : Ending → Heap → Prop) (a1 : Bool) (a2 : Option Addr) (a2n : Nat) (a2c : Nat) (a3 : Int) (h : Heap) : Prop :=
  alW h (.cells #[.bool a1, .slice a2 a2n a2c, .int .i64 a3] 29) fun r4 h5 =>
 isP (some ⟨r4, 0, none⟩) fun b6 o7 =>
 isP (some ⟨b6, o7 + 1, none⟩) fun b8 o9 => ∃ x10 x10n x10c, cell? h5 ⟨b8, o9, none⟩ = some (.slice x10 x10n x10c) ∧
((decide (((x10n : Nat) : Int) = (0 : Int))) = true →
 isP (some ⟨r4, 0, none⟩) fun b11 o12 =>
 isP (some ⟨b11, o12, none⟩) fun b13 o14 => ∃ x15, cell? h5 ⟨b13, o14, none⟩ = some (.bool x15) ∧
((!x15) = true →
 isP (some ⟨r4, 0, none⟩) fun b16 o17 =>
 isP (some ⟨b16, o17 + 2, none⟩) fun b18 o19 => ∃ x20, cell? h5 ⟨b18, o19, none⟩ = some (.int .i64 x20) ∧
 F129_j21 B R (decide (x20 = (0 : Int))) h5) ∧
((!x15) = false →
 F129_j21 B R false h5)) ∧
((decide (((x10n : Nat) : Int) = (0 : Int))) = false →
 isP (some ⟨r4, 0, none⟩) fun b24 o25 =>
 isP (some ⟨b24, o25 + 1, none⟩) fun b26 o27 => ∃ x28 x28n x28c, cell? h5 ⟨b26, o27, none⟩ = some (.slice x28 x28n x28c) ∧
 Ent Tryz.prog B 174 #[.slice x28 x28n x28c] (retE (fun v29 h30 => ∃ x33, v29 = .bool x33 ∧
(x33 = true →
 isP (some ⟨r4, 0, none⟩) fun b34 o35 =>
 isP (some ⟨b34, o35 + 1, none⟩) fun b36 o37 => ∃ x38 x38n x38c, cell? h30 ⟨b36, o37, none⟩ = some (.slice x38 x38n x38c) ∧
 ixW x38 x38n (0 : Int) 1 fun b39 o40 =>
 isP (some ⟨b39, o40, none⟩) fun b41 o42 => ∃ x43, cell? h30 ⟨b41, o42, none⟩ = some (.int .i64 x43) ∧
((decide ((bitsI .and .i64 x43 (1 : Int)) = (1 : Int))) = true →
 isP (some ⟨r4, 0, none⟩) fun b44 o45 =>
 isP (some ⟨b44, o45 + 2, none⟩) fun b46 o47 => ∃ x48, cell? h30 ⟨b46, o47, none⟩ = some (.int .i64 x48) ∧
((decide ((-1048576 : Int) ≤ x48)) = true →
 isP (some ⟨r4, 0, none⟩) fun b49 o50 =>
 isP (some ⟨b49, o50 + 2, none⟩) fun b51 o52 => ∃ x53, cell? h30 ⟨b51, o52, none⟩ = some (.int .i64 x53) ∧
 F129_j54 B R (decide (x53 ≤ (1048576 : Int))) h30) ∧
((decide ((-1048576 : Int) ≤ x48)) = false →
 F129_j54 B R false h30)) ∧
((decide ((bitsI .and .i64 x43 (1 : Int)) = (1 : Int))) = false →
 (false = true →
 isP (some ⟨r4, 0, none⟩) fun b57 o58 =>
 isP (some ⟨b57, o58 + 2, none⟩) fun b59 o60 => ∃ x61, cell? h30 ⟨b59, o60, none⟩ = some (.int .i64 x61) ∧
 F129_j54 B R (decide (x61 ≤ (1048576 : Int))) h30) ∧
(false = false →
 F129_j54 B R false h30))) ∧
(x33 = false →
 (false = true →
 isP (some ⟨r4, 0, none⟩) fun b62 o63 =>
 isP (some ⟨b62, o63 + 2, none⟩) fun b64 o65 => ∃ x66, cell? h30 ⟨b64, o65, none⟩ = some (.int .i64 x66) ∧
((decide ((-1048576 : Int) ≤ x66)) = true →
 isP (some ⟨r4, 0, none⟩) fun b67 o68 =>
 isP (some ⟨b67, o68 + 2, none⟩) fun b69 o70 => ∃ x71, cell? h30 ⟨b69, o70, none⟩ = some (.int .i64 x71) ∧
 F129_j54 B R (decide (x71 ≤ (1048576 : Int))) h30) ∧
((decide ((-1048576 : Int) ≤ x66)) = false →
 F129_j54 B R false h30)) ∧
(false = false →
 (false = true →
 isP (some ⟨r4, 0, none⟩) fun b72 o73 =>
 isP (some ⟨b72, o73 + 2, none⟩) fun b74 o75 => ∃ x76, cell? h30 ⟨b74, o75, none⟩ = some (.int .i64 x76) ∧
 F129_j54 B R (decide (x76 ≤ (1048576 : Int))) h30) ∧
(false = false →
 F129_j54 B R false h30))))
 (fun ch31 h32 => R (.panicked ch31) h32)) h5)
def F129_L : Nat → List (Nat × TypeDesc) := fun _ => []
theorem F129_W (B : World) (R : Ending → Heap → Prop) (a1 : Bool) (a2 : Option Addr) (a2n : Nat) (a2c : Nat) (a3 : Int) (h : Heap) : W Tryz.prog B Tryz.f129.ntmps F129_L (prune [] (codeOf Tryz.f129)) (endQ Tryz.prog Tryz.f129 R) (env0 #[.agg #[.bool a1, .slice a2 a2n a2c, .int .i64 a3]]) h = F129 B R a1 a2 a2n a2c a3 h := by kernel_rfl
theorem F129_ok {B : World} {R : Ending → Heap → Prop} (a1 : Bool) (a2 : Option Addr) (a2n : Nat) (a2c : Nat) (a3 : Int) {h : Heap} (H : F129 B R a1 a2 a2n a2c a3 h) : Ent Tryz.prog B 129 #[.agg #[.bool a1, .slice a2 a2n a2c, .int .i64 a3]] R h :=
  Ent_of_W mixed Tryz.func129 (by kernel_rfl) (by kernel_rfl) (by kernel_rfl) F129_L [] (by rw [F129_W]; exact H)

/-- plumb/dyadic.whole -/
def F130_j40 (B : World) (R : Ending → Heap → Prop) (I5 : Nat → List Value → Heap → Prop) (n7 : Nat) (y41 : Option Addr) (h42 : Heap) : Prop :=
  R (.returned (.pointer y41)) h42
def F130 (B : World) (R : Ending → Heap → Prop) (a1 : Bool) (a2 : Option Addr) (a2n : Nat) (a2c : Nat) (h : Heap) : Prop :=
  alW h (.cells #[.bool false, .slice none 0 0] 131) fun r3 h4 =>
∃ I5 : Nat → List Value → Heap → Prop, ∃ n6, I5 n6 [.bool a1, .slice a2 a2n a2c, .pointer (some ⟨r3, 0, none⟩), .int .i64 ((a2n : Nat) : Int), .int .i64 (0 : Int)] h4 ∧
∀ (n7 : Nat) (h13 : Heap) (z8 : Bool) (z9 : Option Addr) (z9n : Nat) (z9c : Nat) (z10 : Option Addr) (z11 : Int) (z12 : Int), I5 n7 [.bool z8, .slice z9 z9n z9c, .pointer z10, .int .i64 z11, .int .i64 z12] h13 → ∀ _r : Nat → Value,
 ((decide (z12 < z11)) = true →
 Ent Tryz.prog B 128 #[.pointer z10, .pointer z10, .int .u64 (30 : Int)] (retE (fun v14 h15 => ∃ x18, v14 = .pointer x18 ∧
 ixW z9 z9n (IntKind.i64.wrap ((IntKind.i64.wrap (((z9n : Nat) : Int) - (1 : Int))) - z12)) 1 fun b19 o20 =>
 isP (some ⟨b19, o20, none⟩) fun b21 o22 => ∃ x23, cell? h15 ⟨b21, o22, none⟩ = some (.int .i64 x23) ∧
 Ent Tryz.prog B 120 #[.int .i64 x23] (retE (fun v24 h25 => ∃ x28, v24 = .pointer x28 ∧
 Ent Tryz.prog B 175 #[.pointer z10, .pointer z10, .pointer x28] (retE (fun v29 h30 => ∃ x33, v29 = .pointer x33 ∧
∃ m34, m34 < n7 ∧ I5 m34 [.bool z8, .slice z9 z9n z9c, .pointer z10, .int .i64 z11, .int .i64 (IntKind.i64.wrap (z12 + (1 : Int)))] h30)
 (fun ch31 h32 => R (.panicked ch31) h32)) h25)
 (fun ch26 h27 => R (.panicked ch26) h27)) h15)
 (fun ch16 h17 => R (.panicked ch16) h17)) h13) ∧
((decide (z12 < z11)) = false →
 (z8 = true →
 Ent Tryz.prog B 74 #[.pointer z10, .pointer z10] (retE (fun v35 h36 => ∃ x39, v35 = .pointer x39 ∧
 F130_j40 B R I5 n7 z10 h36)
 (fun ch37 h38 => R (.panicked ch37) h38)) h13) ∧
(z8 = false →
 F130_j40 B R I5 n7 z10 h13))
def F130_L : Nat → List (Nat × TypeDesc) := fun i => match i with
  | 3 => [(0, .bool), (1, .slice 0), (5, .pointer 0), (9, .int .i64), (10, .int .i64)]
  | _ => []
theorem F130_W (B : World) (R : Ending → Heap → Prop) (a1 : Bool) (a2 : Option Addr) (a2n : Nat) (a2c : Nat) (h : Heap) : W Tryz.prog B Tryz.f130.ntmps F130_L (prune [] (codeOf Tryz.f130)) (endQ Tryz.prog Tryz.f130 R) (env0 #[.bool a1, .slice a2 a2n a2c]) h = F130 B R a1 a2 a2n a2c h := by kernel_rfl
theorem F130_ok {B : World} {R : Ending → Heap → Prop} (a1 : Bool) (a2 : Option Addr) (a2n : Nat) (a2c : Nat) {h : Heap} (H : F130 B R a1 a2 a2n a2c h) : Ent Tryz.prog B 130 #[.bool a1, .slice a2 a2n a2c] R h :=
  Ent_of_W mixed Tryz.func130 (by kernel_rfl) (by kernel_rfl) (by kernel_rfl) F130_L [] (by rw [F130_W]; exact H)

/-- plumb/nat.Valid -/
def F174_j15 (B : World) (R : Ending → Heap → Prop) (I2 : Nat → List Value → Heap → Prop) (n4 : Nat) (y16 : Option Addr) (y16n : Nat) (y16c : Nat) (y17 : Option Addr) (y17n : Nat) (y17c : Nat) (y18 : Int) (y19 : Int) (y20 : Bool) (h21 : Heap) : Prop :=
  (y20 = true →
 R (.returned (.bool false)) h21) ∧
(y20 = false →
 ∃ m22, m22 < n4 ∧ I2 m22 [.slice y16 y16n y16c, .slice y17 y17n y17c, .int .i64 y18, .int .i64 (IntKind.i64.wrap (y19 + (1 : Int)))] h21)
def F174_j23 (B : World) (R : Ending → Heap → Prop) (I2 : Nat → List Value → Heap → Prop) (n4 : Nat) (y24 : Bool) (h25 : Heap) : Prop :=
  R (.returned (.bool y24)) h25
def F174 (B : World) (R : Ending → Heap → Prop) (a1 : Option Addr) (a1n : Nat) (a1c : Nat) (h : Heap) : Prop :=
  ∃ I2 : Nat → List Value → Heap → Prop, ∃ n3, I2 n3 [.slice a1 a1n a1c, .slice a1 a1n a1c, .int .i64 ((a1n : Nat) : Int), .int .i64 (0 : Int)] h ∧
∀ (n4 : Nat) (h9 : Heap) (z5 : Option Addr) (z5n : Nat) (z5c : Nat) (z6 : Option Addr) (z6n : Nat) (z6c : Nat) (z7 : Int) (z8 : Int), I2 n4 [.slice z5 z5n z5c, .slice z6 z6n z6c, .int .i64 z7, .int .i64 z8] h9 → ∀ _r : Nat → Value,
 ((decide (z8 < z7)) = true →
 ixW z6 z6n z8 1 fun b10 o11 =>
 isP (some ⟨b10, o11, none⟩) fun b12 o13 => ∃ x14, cell? h9 ⟨b12, o13, none⟩ = some (.int .i64 x14) ∧
((decide (x14 < (0 : Int))) = true →
 F174_j15 B R I2 n4 z5 z5n z5c z6 z6n z6c z7 z8 true h9) ∧
((decide (x14 < (0 : Int))) = false →
 F174_j15 B R I2 n4 z5 z5n z5c z6 z6n z6c z7 z8 (decide ((1073741824 : Int) ≤ x14)) h9)) ∧
((decide (z8 < z7)) = false →
 ((decide (((z5n : Nat) : Int) ≤ (2000 : Int))) = true →
 ((decide (((z5n : Nat) : Int) = (0 : Int))) = true →
 F174_j23 B R I2 n4 true h9) ∧
((decide (((z5n : Nat) : Int) = (0 : Int))) = false →
 ixW z5 z5n (IntKind.i64.wrap (((z5n : Nat) : Int) - (1 : Int))) 1 fun b26 o27 =>
 isP (some ⟨b26, o27, none⟩) fun b28 o29 => ∃ x30, cell? h9 ⟨b28, o29, none⟩ = some (.int .i64 x30) ∧
 F174_j23 B R I2 n4 (!decide (x30 = (0 : Int))) h9)) ∧
((decide (((z5n : Nat) : Int) ≤ (2000 : Int))) = false →
 F174_j23 B R I2 n4 false h9))
def F174_L : Nat → List (Nat × TypeDesc) := fun i => match i with
  | 2 => [(0, .slice 0), (5, .slice 0), (6, .int .i64), (7, .int .i64)]
  | _ => []
theorem F174_W (B : World) (R : Ending → Heap → Prop) (a1 : Option Addr) (a1n : Nat) (a1c : Nat) (h : Heap) : W Tryz.prog B Tryz.f174.ntmps F174_L (prune [] (codeOf Tryz.f174)) (endQ Tryz.prog Tryz.f174 R) (env0 #[.slice a1 a1n a1c]) h = F174 B R a1 a1n a1c h := by kernel_rfl
theorem F174_ok {B : World} {R : Ending → Heap → Prop} (a1 : Option Addr) (a1n : Nat) (a1c : Nat) {h : Heap} (H : F174 B R a1 a1n a1c h) : Ent Tryz.prog B 174 #[.slice a1 a1n a1c] R h :=
  Ent_of_W mixed Tryz.func174 (by kernel_rfl) (by kernel_rfl) (by kernel_rfl) F174_L [] (by rw [F174_W]; exact H)

/-- plumb/bits.Class -/
def F17 (B : World) (R : Ending → Heap → Prop) (a1 : Int) (h : Heap) : Prop :=
  0 ≤ (52 : Int) ∧
 Ent Tryz.prog B 53 #[.int .i64 (bitsI .and .i64 (Int.fdiv a1 (2 ^ min (Int.toNat (52 : Int)) IntKind.i64.bits)) (2047 : Int)), .int .i64 (bitsI .and .i64 a1 (4503599627370495 : Int)), .int .i64 (2047 : Int)] (retE (fun v2 h3 => ∃ x6, v2 = .int .i64 x6 ∧
 R (.returned (.int .i64 x6)) h3)
 (fun ch4 h5 => R (.panicked ch4) h5)) h
def F17_L : Nat → List (Nat × TypeDesc) := fun _ => []
theorem F17_W (B : World) (R : Ending → Heap → Prop) (a1 : Int) (h : Heap) : W Tryz.prog B Tryz.f17.ntmps F17_L (prune [] (codeOf Tryz.f17)) (endQ Tryz.prog Tryz.f17 R) (env0 #[.int .i64 a1]) h = F17 B R a1 h := by kernel_rfl
theorem F17_ok {B : World} {R : Ending → Heap → Prop} (a1 : Int) {h : Heap} (H : F17 B R a1 h) : Ent Tryz.prog B 17 #[.int .i64 a1] R h :=
  Ent_of_W mixed Tryz.func17 (by kernel_rfl) (by kernel_rfl) (by kernel_rfl) F17_L [] (by rw [F17_W]; exact H)

/-- plumb/eft.Square -/
def F52 (B : World) (R : Ending → Heap → Prop) (a1 : Int) (h : Heap) : Prop :=
  Ent Tryz.prog B 19 #[.int .i64 a1, .int .i64 a1] (retE (fun v2 h3 => ∃ x6 x7 x8, v2 = .tuple #[.int .i64 x6, .int .i64 x7, .bool x8] ∧
 R (.returned (.tuple #[.int .i64 x6, .int .i64 x7, .bool x8])) h3)
 (fun ch4 h5 => R (.panicked ch4) h5)) h
/-- plumb/bits.classed -/
def F53_j11 (B : World) (R : Ending → Heap → Prop) (y12 : Int) (h13 : Heap) : Prop :=
  R (.returned (.int .i64 y12)) h13
def F53_j14 (B : World) (R : Ending → Heap → Prop) (y15 : Int) (h16 : Heap) : Prop :=
  F53_j11 B R y15 h16
def F53_j22 (B : World) (R : Ending → Heap → Prop) (y23 : Int) (h24 : Heap) : Prop :=
  F53_j14 B R y23 h24
def F53_j25 (B : World) (R : Ending → Heap → Prop) (y26 : Int) (h27 : Heap) : Prop :=
  F53_j22 B R y26 h27
def F53_j17 (B : World) (R : Ending → Heap → Prop) (y18 : Int) (y19 : Int) (y20 : Bool) (h21 : Heap) : Prop :=
  (y20 = true →
 F53_j22 B R (0 : Int) h21) ∧
(y20 = false →
 ((decide (y18 = (0 : Int))) = true →
 F53_j25 B R (1 : Int) h21) ∧
((decide (y18 = (0 : Int))) = false →
 F53_j25 B R y19 h21))
def F53_j4 (B : World) (R : Ending → Heap → Prop) (y5 : Int) (y6 : Int) (y7 : Int) (y8 : Int) (y9 : Bool) (h10 : Heap) : Prop :=
  (y9 = true →
 F53_j11 B R (4 : Int) h10) ∧
(y9 = false →
 ((decide (y5 = y7)) = true →
 F53_j14 B R (3 : Int) h10) ∧
((decide (y5 = y7)) = false →
 ((decide (y5 = (0 : Int))) = true →
 F53_j17 B R y5 y8 (decide (y6 = (0 : Int))) h10) ∧
((decide (y5 = (0 : Int))) = false →
 F53_j17 B R y5 y8 false h10)))
def F53 (B : World) (R : Ending → Heap → Prop) (a1 : Int) (a2 : Int) (a3 : Int) (h : Heap) : Prop :=
  ((decide (a1 = a3)) = true →
 F53_j4 B R a1 a2 a3 (2 : Int) (!decide (a2 = (0 : Int))) h) ∧
((decide (a1 = a3)) = false →
 F53_j4 B R a1 a2 a3 (2 : Int) false h)
def F53_L : Nat → List (Nat × TypeDesc) := fun _ => []
theorem F53_W (B : World) (R : Ending → Heap → Prop) (a1 : Int) (a2 : Int) (a3 : Int) (h : Heap) : W Tryz.prog B Tryz.f53.ntmps F53_L (prune [] (codeOf Tryz.f53)) (endQ Tryz.prog Tryz.f53 R) (env0 #[.int .i64 a1, .int .i64 a2, .int .i64 a3]) h = F53 B R a1 a2 a3 h := by kernel_rfl
theorem F53_ok {B : World} {R : Ending → Heap → Prop} (a1 : Int) (a2 : Int) (a3 : Int) {h : Heap} (H : F53 B R a1 a2 a3 h) : Ent Tryz.prog B 53 #[.int .i64 a1, .int .i64 a2, .int .i64 a3] R h :=
  Ent_of_W mixed Tryz.func53 (by kernel_rfl) (by kernel_rfl) (by kernel_rfl) F53_L [] (by rw [F53_W]; exact H)

/-- plumb/bits.Float -/
def F54 (B : World) (R : Ending → Heap → Prop) (a1 : Int) (h : Heap) : Prop :=
  Ent Tryz.prog B 116 #[.int .u64 (IntKind.u64.wrap a1)] (retE (fun v2 h3 => ∃ x6, v2 = .float .f64 x6 ∧
 R (.returned (.float .f64 x6)) h3)
 (fun ch4 h5 => R (.panicked ch4) h5)) h
def F54_L : Nat → List (Nat × TypeDesc) := fun _ => []
theorem F54_W (B : World) (R : Ending → Heap → Prop) (a1 : Int) (h : Heap) : W Tryz.prog B Tryz.f54.ntmps F54_L (prune [] (codeOf Tryz.f54)) (endQ Tryz.prog Tryz.f54 R) (env0 #[.int .i64 a1]) h = F54 B R a1 h := by kernel_rfl
theorem F54_ok {B : World} {R : Ending → Heap → Prop} (a1 : Int) {h : Heap} (H : F54 B R a1 h) : Ent Tryz.prog B 54 #[.int .i64 a1] R h :=
  Ent_of_W mixed Tryz.func54 (by kernel_rfl) (by kernel_rfl) (by kernel_rfl) F54_L [] (by rw [F54_W]; exact H)

/-- plumb/eft.twoSum -/
def F55 (B : World) (R : Ending → Heap → Prop) (a1 : Nat) (a2 : Nat) (h : Heap) : Prop :=
  flW .f64 (FloatKind.f64.format.add a1 a2) a1 a2 fun f3 =>
 flW .f64 (FloatKind.f64.format.sub f3 a1) f3 a1 fun f4 =>
 flW .f64 (FloatKind.f64.format.sub f3 f4) f3 f4 fun f5 =>
 flW .f64 (FloatKind.f64.format.sub a1 f5) a1 f5 fun f6 =>
 flW .f64 (FloatKind.f64.format.sub a2 f4) a2 f4 fun f7 =>
 flW .f64 (FloatKind.f64.format.add f6 f7) f6 f7 fun f8 =>
 R (.returned (.tuple #[.float .f64 f3, .float .f64 f8])) h
def F55_L : Nat → List (Nat × TypeDesc) := fun _ => []
theorem F55_W (B : World) (R : Ending → Heap → Prop) (a1 : Nat) (a2 : Nat) (h : Heap) : W Tryz.prog B Tryz.f55.ntmps F55_L (prune [] (codeOf Tryz.f55)) (endQ Tryz.prog Tryz.f55 R) (env0 #[.float .f64 a1, .float .f64 a2]) h = F55 B R a1 a2 h := by kernel_rfl
theorem F55_ok {B : World} {R : Ending → Heap → Prop} (a1 : Nat) (a2 : Nat) {h : Heap} (H : F55 B R a1 a2 h) : Ent Tryz.prog B 55 #[.float .f64 a1, .float .f64 a2] R h :=
  Ent_of_W mixed Tryz.func55 (by kernel_rfl) (by kernel_rfl) (by kernel_rfl) F55_L [] (by rw [F55_W]; exact H)

/-- plumb/bits.Of -/
def F56 (B : World) (R : Ending → Heap → Prop) (a1 : Nat) (h : Heap) : Prop :=
  ((FloatKind.f64.format.order a1 a1 != some .eq) = true →
 R (.returned (.int .i64 (9221120237041090561 : Int))) h) ∧
((FloatKind.f64.format.order a1 a1 != some .eq) = false →
 Ent Tryz.prog B 117 #[.float .f64 a1] (retE (fun v2 h3 => ∃ x6, v2 = .int .u64 x6 ∧
 R (.returned (.int .i64 (IntKind.i64.wrap x6))) h3)
 (fun ch4 h5 => R (.panicked ch4) h5)) h)
def F56_L : Nat → List (Nat × TypeDesc) := fun _ => []
theorem F56_W (B : World) (R : Ending → Heap → Prop) (a1 : Nat) (h : Heap) : W Tryz.prog B Tryz.f56.ntmps F56_L (prune [] (codeOf Tryz.f56)) (endQ Tryz.prog Tryz.f56 R) (env0 #[.float .f64 a1]) h = F56 B R a1 h := by kernel_rfl
theorem F56_ok {B : World} {R : Ending → Heap → Prop} (a1 : Nat) {h : Heap} (H : F56 B R a1 h) : Ent Tryz.prog B 56 #[.float .f64 a1] R h :=
  Ent_of_W mixed Tryz.func56 (by kernel_rfl) (by kernel_rfl) (by kernel_rfl) F56_L [] (by rw [F56_W]; exact H)

/-- plumb/eft.sum -/
def F57 (B : World) (R : Ending → Heap → Prop) (a1 : Nat) (a2 : Nat) (a3 : Nat) (a4 : Nat) (h : Heap) : Prop :=
  alW h (.cells #[.float .f64 a3, .float .f64 a4, .float .f64 a1, .float .f64 a2] 66) fun r5 h6 =>
 Ent Tryz.prog B 59 #[.slice (some ⟨r5, 0, none⟩) 4 4] (retE (fun v7 h8 => ∃ x11, v7 = .bool x11 ∧
((!x11) = true →
 R (.returned (.bool false)) h8) ∧
((!x11) = false →
 Ent Tryz.prog B 60 #[.float .f64 a3] (retE (fun v12 h13 => ∃ x16 x17 x17n x17c x18, v12 = .agg #[.bool x16, .slice x17 x17n x17c, .int .i64 x18] ∧
 Ent Tryz.prog B 60 #[.float .f64 a4] (retE (fun v19 h20 => ∃ x23 x24 x24n x24c x25, v19 = .agg #[.bool x23, .slice x24 x24n x24c, .int .i64 x25] ∧
 Ent Tryz.prog B 22 #[.agg #[.bool x16, .slice x17 x17n x17c, .int .i64 x18], .agg #[.bool x23, .slice x24 x24n x24c, .int .i64 x25]] (retE (fun v26 h27 => ∃ x30 x31 x31n x31c x32 x33, v26 = .tuple #[.agg #[.bool x30, .slice x31 x31n x31c, .int .i64 x32], .int .i64 x33] ∧
 alW h27 (.cells #[.bool false, .slice none 0 0, .int .i64 0] 29) fun r34 h35 =>
 isP (some ⟨r34, 0, none⟩) fun b36 o37 => stC h35 b36 o37 (.bool x30) fun h38 =>
 stC h38 b36 (o37 + 1) (.slice x31 x31n x31c) fun h39 =>
 stC h39 b36 (o37 + 1 + 1) (.int .i64 x32) fun h40 =>
 isP (some ⟨r34, 0, none⟩) fun b41 o42 =>
∃ x43, cell? h40 ⟨b41, o42, none⟩ = some (.bool x43) ∧
∃ x44 x44n x44c, cell? h40 ⟨b41, o42 + 1, none⟩ = some (.slice x44 x44n x44c) ∧
∃ x45, cell? h40 ⟨b41, o42 + 1 + 1, none⟩ = some (.int .i64 x45) ∧
 Ent Tryz.prog B 61 #[.float .f64 a1, .float .f64 a2, .agg #[.bool x43, .slice x44 x44n x44c, .int .i64 x45]] (retE (fun v46 h47 => ∃ x50, v46 = .bool x50 ∧
 R (.returned (.bool x50)) h47)
 (fun ch48 h49 => R (.panicked ch48) h49)) h40)
 (fun ch28 h29 => R (.panicked ch28) h29)) h20)
 (fun ch21 h22 => R (.panicked ch21) h22)) h13)
 (fun ch14 h15 => R (.panicked ch14) h15)) h8))
 (fun ch9 h10 => R (.panicked ch9) h10)) h6
def F57_L : Nat → List (Nat × TypeDesc) := fun _ => []
theorem F57_W (B : World) (R : Ending → Heap → Prop) (a1 : Nat) (a2 : Nat) (a3 : Nat) (a4 : Nat) (h : Heap) : W Tryz.prog B Tryz.f57.ntmps F57_L (prune [] (codeOf Tryz.f57)) (endQ Tryz.prog Tryz.f57 R) (env0 #[.float .f64 a1, .float .f64 a2, .float .f64 a3, .float .f64 a4]) h = F57 B R a1 a2 a3 a4 h := by kernel_rfl
theorem F57_ok {B : World} {R : Ending → Heap → Prop} (a1 : Nat) (a2 : Nat) (a3 : Nat) (a4 : Nat) {h : Heap} (H : F57 B R a1 a2 a3 a4 h) : Ent Tryz.prog B 57 #[.float .f64 a1, .float .f64 a2, .float .f64 a3, .float .f64 a4] R h :=
  Ent_of_W mixed Tryz.func57 (by kernel_rfl) (by kernel_rfl) (by kernel_rfl) F57_L [] (by rw [F57_W]; exact H)

/-- plumb/eft.split -/
def F58 (B : World) (R : Ending → Heap → Prop) (a1 : Nat) (h : Heap) : Prop :=
  flW .f64 (FloatKind.f64.format.mul 4728779608772575232 a1) 4728779608772575232 a1 fun f2 =>
 flW .f64 (FloatKind.f64.format.sub f2 a1) f2 a1 fun f3 =>
 flW .f64 (FloatKind.f64.format.sub f2 f3) f2 f3 fun f4 =>
 flW .f64 (FloatKind.f64.format.sub a1 f4) a1 f4 fun f5 =>
 R (.returned (.tuple #[.float .f64 f4, .float .f64 f5])) h
def F58_L : Nat → List (Nat × TypeDesc) := fun _ => []
theorem F58_W (B : World) (R : Ending → Heap → Prop) (a1 : Nat) (h : Heap) : W Tryz.prog B Tryz.f58.ntmps F58_L (prune [] (codeOf Tryz.f58)) (endQ Tryz.prog Tryz.f58 R) (env0 #[.float .f64 a1]) h = F58 B R a1 h := by kernel_rfl
theorem F58_ok {B : World} {R : Ending → Heap → Prop} (a1 : Nat) {h : Heap} (H : F58 B R a1 h) : Ent Tryz.prog B 58 #[.float .f64 a1] R h :=
  Ent_of_W mixed Tryz.func58 (by kernel_rfl) (by kernel_rfl) (by kernel_rfl) F58_L [] (by rw [F58_W]; exact H)

/-- plumb/eft.finite -/
def F59_j14 (B : World) (R : Ending → Heap → Prop) (I2 : Nat → List Value → Heap → Prop) (n4 : Nat) (y15 : Option Addr) (y15n : Nat) (y15c : Nat) (y16 : Int) (y17 : Int) (y18 : Bool) (h19 : Heap) : Prop :=
  (y18 = true →
 R (.returned (.bool false)) h19) ∧
(y18 = false →
 ∃ m20, m20 < n4 ∧ I2 m20 [.slice y15 y15n y15c, .int .i64 y16, .int .i64 (IntKind.i64.wrap (y17 + (1 : Int)))] h19)
def F59 (B : World) (R : Ending → Heap → Prop) (a1 : Option Addr) (a1n : Nat) (a1c : Nat) (h : Heap) : Prop :=
  ∃ I2 : Nat → List Value → Heap → Prop, ∃ n3, I2 n3 [.slice a1 a1n a1c, .int .i64 ((a1n : Nat) : Int), .int .i64 (0 : Int)] h ∧
∀ (n4 : Nat) (h8 : Heap) (z5 : Option Addr) (z5n : Nat) (z5c : Nat) (z6 : Int) (z7 : Int), I2 n4 [.slice z5 z5n z5c, .int .i64 z6, .int .i64 z7] h8 → ∀ _r : Nat → Value,
 ((decide (z7 < z6)) = true →
 ixW z5 z5n z7 1 fun b9 o10 =>
 isP (some ⟨b9, o10, none⟩) fun b11 o12 => ∃ x13, cell? h8 ⟨b11, o12, none⟩ = some (.float .f64 x13) ∧
((FloatKind.f64.format.order x13 x13 != some .eq) = true →
 F59_j14 B R I2 n4 z5 z5n z5c z6 z7 true h8) ∧
((FloatKind.f64.format.order x13 x13 != some .eq) = false →
 Ent Tryz.prog B 118 #[.float .f64 x13, .int .i64 (0 : Int)] (retE (fun v21 h22 => ∃ x25, v21 = .bool x25 ∧
 F59_j14 B R I2 n4 z5 z5n z5c z6 z7 x25 h22)
 (fun ch23 h24 => R (.panicked ch23) h24)) h8)) ∧
((decide (z7 < z6)) = false →
 R (.returned (.bool true)) h8)
def F59_L : Nat → List (Nat × TypeDesc) := fun i => match i with
  | 2 => [(5, .slice 0), (6, .int .i64), (7, .int .i64)]
  | _ => []
theorem F59_W (B : World) (R : Ending → Heap → Prop) (a1 : Option Addr) (a1n : Nat) (a1c : Nat) (h : Heap) : W Tryz.prog B Tryz.f59.ntmps F59_L (prune [] (codeOf Tryz.f59)) (endQ Tryz.prog Tryz.f59 R) (env0 #[.slice a1 a1n a1c]) h = F59 B R a1 a1n a1c h := by kernel_rfl
theorem F59_ok {B : World} {R : Ending → Heap → Prop} (a1 : Option Addr) (a1n : Nat) (a1c : Nat) {h : Heap} (H : F59 B R a1 a1n a1c h) : Ent Tryz.prog B 59 #[.slice a1 a1n a1c] R h :=
  Ent_of_W mixed Tryz.func59 (by kernel_rfl) (by kernel_rfl) (by kernel_rfl) F59_L [] (by rw [F59_W]; exact H)

/-- plumb/eft.TwoProd -/
def F19_j80 (B : World) (R : Ending → Heap → Prop) (y81 : Bool) (y82 : Nat) (y83 : Nat) (h84 : Heap) : Prop :=
  Ent Tryz.prog B 56 #[.float .f64 y82] (retE (fun v85 h86 => ∃ x89, v85 = .int .i64 x89 ∧
 Ent Tryz.prog B 56 #[.float .f64 y83] (retE (fun v90 h91 => ∃ x94, v90 = .int .i64 x94 ∧
 R (.returned (.tuple #[.int .i64 x89, .int .i64 x94, .bool y81])) h91)
 (fun ch92 h93 => R (.panicked ch92) h93)) h86)
 (fun ch87 h88 => R (.panicked ch87) h88)) h84
def F19 (B : World) (R : Ending → Heap → Prop) (a1 : Int) (a2 : Int) (h : Heap) : Prop :=
  Ent Tryz.prog B 54 #[.int .i64 a1] (retE (fun v3 h4 => ∃ x7, v3 = .float .f64 x7 ∧
 Ent Tryz.prog B 54 #[.int .i64 a2] (retE (fun v8 h9 => ∃ x12, v8 = .float .f64 x12 ∧
 flW .f64 (FloatKind.f64.format.mul x7 x12) x7 x12 fun f13 =>
 Ent Tryz.prog B 58 #[.float .f64 x7] (retE (fun v14 h15 => ∃ x18 x19, v14 = .tuple #[.float .f64 x18, .float .f64 x19] ∧
 Ent Tryz.prog B 58 #[.float .f64 x12] (retE (fun v20 h21 => ∃ x24 x25, v20 = .tuple #[.float .f64 x24, .float .f64 x25] ∧
 flW .f64 (FloatKind.f64.format.mul x19 x25) x19 x25 fun f26 =>
 flW .f64 (FloatKind.f64.format.mul x18 x24) x18 x24 fun f27 =>
 flW .f64 (FloatKind.f64.format.sub f13 f27) f13 f27 fun f28 =>
 flW .f64 (FloatKind.f64.format.mul x19 x24) x19 x24 fun f29 =>
 flW .f64 (FloatKind.f64.format.sub f28 f29) f28 f29 fun f30 =>
 flW .f64 (FloatKind.f64.format.mul x18 x25) x18 x25 fun f31 =>
 flW .f64 (FloatKind.f64.format.sub f30 f31) f30 f31 fun f32 =>
 flW .f64 (FloatKind.f64.format.sub f26 f32) f26 f32 fun f33 =>
 alW h21 (.cells #[.float .f64 x7, .float .f64 x12] 66) fun r34 h35 =>
 Ent Tryz.prog B 59 #[.slice (some ⟨r34, 0, none⟩) 2 2] (retE (fun v36 h37 => ∃ x40, v36 = .bool x40 ∧
(x40 = true →
 Ent Tryz.prog B 60 #[.float .f64 x7] (retE (fun v41 h42 => ∃ x45 x46 x46n x46c x47, v41 = .agg #[.bool x45, .slice x46 x46n x46c, .int .i64 x47] ∧
 Ent Tryz.prog B 60 #[.float .f64 x12] (retE (fun v48 h49 => ∃ x52 x53 x53n x53c x54, v48 = .agg #[.bool x52, .slice x53 x53n x53c, .int .i64 x54] ∧
 Ent Tryz.prog B 23 #[.agg #[.bool x45, .slice x46 x46n x46c, .int .i64 x47], .agg #[.bool x52, .slice x53 x53n x53c, .int .i64 x54]] (retE (fun v55 h56 => ∃ x59 x60 x60n x60c x61 x62, v55 = .tuple #[.agg #[.bool x59, .slice x60 x60n x60c, .int .i64 x61], .int .i64 x62] ∧
 alW h56 (.cells #[.bool false, .slice none 0 0, .int .i64 0] 29) fun r63 h64 =>
 isP (some ⟨r63, 0, none⟩) fun b65 o66 => stC h64 b65 o66 (.bool x59) fun h67 =>
 stC h67 b65 (o66 + 1) (.slice x60 x60n x60c) fun h68 =>
 stC h68 b65 (o66 + 1 + 1) (.int .i64 x61) fun h69 =>
 isP (some ⟨r63, 0, none⟩) fun b70 o71 =>
∃ x72, cell? h69 ⟨b70, o71, none⟩ = some (.bool x72) ∧
∃ x73 x73n x73c, cell? h69 ⟨b70, o71 + 1, none⟩ = some (.slice x73 x73n x73c) ∧
∃ x74, cell? h69 ⟨b70, o71 + 1 + 1, none⟩ = some (.int .i64 x74) ∧
 Ent Tryz.prog B 61 #[.float .f64 f13, .float .f64 f33, .agg #[.bool x72, .slice x73 x73n x73c, .int .i64 x74]] (retE (fun v75 h76 => ∃ x79, v75 = .bool x79 ∧
 F19_j80 B R x79 f13 f33 h76)
 (fun ch77 h78 => R (.panicked ch77) h78)) h69)
 (fun ch57 h58 => R (.panicked ch57) h58)) h49)
 (fun ch50 h51 => R (.panicked ch50) h51)) h42)
 (fun ch43 h44 => R (.panicked ch43) h44)) h37) ∧
(x40 = false →
 F19_j80 B R false f13 f33 h37))
 (fun ch38 h39 => R (.panicked ch38) h39)) h35)
 (fun ch22 h23 => R (.panicked ch22) h23)) h15)
 (fun ch16 h17 => R (.panicked ch16) h17)) h9)
 (fun ch10 h11 => R (.panicked ch10) h11)) h4)
 (fun ch5 h6 => R (.panicked ch5) h6)) h
def F19_L : Nat → List (Nat × TypeDesc) := fun _ => []
theorem F19_W (B : World) (R : Ending → Heap → Prop) (a1 : Int) (a2 : Int) (h : Heap) : W Tryz.prog B Tryz.f19.ntmps F19_L (prune [] (codeOf Tryz.f19)) (endQ Tryz.prog Tryz.f19 R) (env0 #[.int .i64 a1, .int .i64 a2]) h = F19 B R a1 a2 h := by kernel_rfl
theorem F19_ok {B : World} {R : Ending → Heap → Prop} (a1 : Int) (a2 : Int) {h : Heap} (H : F19 B R a1 a2 h) : Ent Tryz.prog B 19 #[.int .i64 a1, .int .i64 a2] R h :=
  Ent_of_W mixed Tryz.func19 (by kernel_rfl) (by kernel_rfl) (by kernel_rfl) F19_L [] (by rw [F19_W]; exact H)

/-- plumb/plumblaw6.EftProds -/
def F3_j18 (B : World) (R : Ending → Heap → Prop) (y19 : Bool) (h20 : Heap) : Prop :=
  R (.returned (.bool y19)) h20
def F3 (B : World) (R : Ending → Heap → Prop) (a1 : Int) (a2 : Int) (h : Heap) : Prop :=
  Ent Tryz.prog B 15 #[] (retE (fun v3 h4 => ∃ x7, v3 = .bool x7 ∧
(x7 = true →
 Ent Tryz.prog B 16 #[.int .i64 a1, .int .i64 a2] (retE (fun v8 h9 => ∃ x12, v8 = .bool x12 ∧
(x12 = true →
 Ent Tryz.prog B 16 #[.int .i64 a2, .int .i64 a1] (retE (fun v13 h14 => ∃ x17, v13 = .bool x17 ∧
 F3_j18 B R x17 h14)
 (fun ch15 h16 => R (.panicked ch15) h16)) h9) ∧
(x12 = false →
 F3_j18 B R false h9))
 (fun ch10 h11 => R (.panicked ch10) h11)) h4) ∧
(x7 = false →
 (false = true →
 Ent Tryz.prog B 16 #[.int .i64 a2, .int .i64 a1] (retE (fun v21 h22 => ∃ x25, v21 = .bool x25 ∧
 F3_j18 B R x25 h22)
 (fun ch23 h24 => R (.panicked ch23) h24)) h4) ∧
(false = false →
 F3_j18 B R false h4)))
 (fun ch5 h6 => R (.panicked ch5) h6)) h
/-- plumb/eft.TwoSum -/
def F18 (B : World) (R : Ending → Heap → Prop) (a1 : Int) (a2 : Int) (h : Heap) : Prop :=
  Ent Tryz.prog B 54 #[.int .i64 a1] (retE (fun v3 h4 => ∃ x7, v3 = .float .f64 x7 ∧
 Ent Tryz.prog B 54 #[.int .i64 a2] (retE (fun v8 h9 => ∃ x12, v8 = .float .f64 x12 ∧
 Ent Tryz.prog B 55 #[.float .f64 x7, .float .f64 x12] (retE (fun v13 h14 => ∃ x17 x18, v13 = .tuple #[.float .f64 x17, .float .f64 x18] ∧
 Ent Tryz.prog B 56 #[.float .f64 x17] (retE (fun v19 h20 => ∃ x23, v19 = .int .i64 x23 ∧
 Ent Tryz.prog B 56 #[.float .f64 x18] (retE (fun v24 h25 => ∃ x28, v24 = .int .i64 x28 ∧
 Ent Tryz.prog B 57 #[.float .f64 x17, .float .f64 x18, .float .f64 x7, .float .f64 x12] (retE (fun v29 h30 => ∃ x33, v29 = .bool x33 ∧
 R (.returned (.tuple #[.int .i64 x23, .int .i64 x28, .bool x33])) h30)
 (fun ch31 h32 => R (.panicked ch31) h32)) h25)
 (fun ch26 h27 => R (.panicked ch26) h27)) h20)
 (fun ch21 h22 => R (.panicked ch21) h22)) h14)
 (fun ch15 h16 => R (.panicked ch15) h16)) h9)
 (fun ch10 h11 => R (.panicked ch10) h11)) h4)
 (fun ch5 h6 => R (.panicked ch5) h6)) h
def F18_L : Nat → List (Nat × TypeDesc) := fun _ => []
theorem F18_W (B : World) (R : Ending → Heap → Prop) (a1 : Int) (a2 : Int) (h : Heap) : W Tryz.prog B Tryz.f18.ntmps F18_L (prune [] (codeOf Tryz.f18)) (endQ Tryz.prog Tryz.f18 R) (env0 #[.int .i64 a1, .int .i64 a2]) h = F18 B R a1 a2 h := by kernel_rfl
theorem F18_ok {B : World} {R : Ending → Heap → Prop} (a1 : Int) (a2 : Int) {h : Heap} (H : F18 B R a1 a2 h) : Ent Tryz.prog B 18 #[.int .i64 a1, .int .i64 a2] R h :=
  Ent_of_W mixed Tryz.func18 (by kernel_rfl) (by kernel_rfl) (by kernel_rfl) F18_L [] (by rw [F18_W]; exact H)

/-- math.IsInf -/
def F118_j8 (B : World) (R : Ending → Heap → Prop) (y9 : Nat) (h10 : Heap) : Prop :=
  R (.returned (.bool (FloatKind.f64.format.order y9 9218868437227405311 == some .gt))) h10
def F118_j11 (B : World) (R : Ending → Heap → Prop) (y12 : Nat) (h13 : Heap) : Prop :=
  F118_j8 B R y12 h13
def F118 (B : World) (R : Ending → Heap → Prop) (a1 : Nat) (a2 : Int) (h : Heap) : Prop :=
  ((decide (a2 = (0 : Int))) = true →
 Ent Tryz.prog B 94 #[.float .f64 a1] (retE (fun v3 h4 => ∃ x7, v3 = .float .f64 x7 ∧
 F118_j8 B R x7 h4)
 (fun ch5 h6 => R (.panicked ch5) h6)) h) ∧
((decide (a2 = (0 : Int))) = false →
 ((decide (a2 < (0 : Int))) = true →
 F118_j11 B R (Op.negFloat .f64 a1) h) ∧
((decide (a2 < (0 : Int))) = false →
 F118_j11 B R a1 h))
def F118_L : Nat → List (Nat × TypeDesc) := fun _ => []
theorem F118_W (B : World) (R : Ending → Heap → Prop) (a1 : Nat) (a2 : Int) (h : Heap) : W Tryz.prog B Tryz.f118.ntmps F118_L (prune [] (codeOf Tryz.f118)) (endQ Tryz.prog Tryz.f118 R) (env0 #[.float .f64 a1, .int .i64 a2]) h = F118 B R a1 a2 h := by kernel_rfl
theorem F118_ok {B : World} {R : Ending → Heap → Prop} (a1 : Nat) (a2 : Int) {h : Heap} (H : F118 B R a1 a2 h) : Ent Tryz.prog B 118 #[.float .f64 a1, .int .i64 a2] R h :=
  Ent_of_W mixed Tryz.func118 (by kernel_rfl) (by kernel_rfl) (by kernel_rfl) F118_L [] (by rw [F118_W]; exact H)
end Go.Proofs
