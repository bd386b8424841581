import Derived.Test.YtkfafikejdhccaaGreatDoorA20
/- Here stand lemmas: what further functions come to (written by program). -/
set_option linter.unusedVariables false
namespace Go.Proofs
open Go Go.Eng
/-- plumb/plumblaw6.EftHonest -/
def F4_j39 (B : World) (R : Ending → Heap → Prop) (y40 : Bool) (h41 : Heap) : Prop :=
  R (.returned (.bool y40)) h41
def F4_j134 (B : World) (R : Ending → Heap → Prop) (y135 : Int) (y136 : Int) (y137 : Option Addr) (y138 : Option Addr) (y139 : Bool) (h140 : Heap) : Prop :=
  (y139 = true →
 R (.returned (.bool false)) h140) ∧
(y139 = false →
 Ent Tryz.prog B 20 #[.int .i64 y135, .int .i64 y136] (retE (fun v141 h142 => ∃ x145 x146 x147, v141 = .tuple #[.int .i64 x145, .int .i64 x146, .bool x147] ∧
 isP y137 fun b148 o149 =>
∃ x150, cell? h142 ⟨b148, o149, none⟩ = some (.bool x150) ∧
∃ x151 x151n x151c, cell? h142 ⟨b148, o149 + 1, none⟩ = some (.slice x151 x151n x151c) ∧
∃ x152, cell? h142 ⟨b148, o149 + 1 + 1, none⟩ = some (.int .i64 x152) ∧
 Ent Tryz.prog B 24 #[.int .i64 x145, .int .i64 x146, .agg #[.bool x150, .slice x151 x151n x151c, .int .i64 x152]] (retE (fun v153 h154 => ∃ x157, v153 = .bool x157 ∧
((!(x147 == x157)) = true →
 R (.returned (.bool false)) h154) ∧
((!(x147 == x157)) = false →
 Ent Tryz.prog B 19 #[.int .i64 y135, .int .i64 y136] (retE (fun v158 h159 => ∃ x162 x163 x164, v158 = .tuple #[.int .i64 x162, .int .i64 x163, .bool x164] ∧
 isP y138 fun b165 o166 =>
∃ x167, cell? h159 ⟨b165, o166, none⟩ = some (.bool x167) ∧
∃ x168 x168n x168c, cell? h159 ⟨b165, o166 + 1, none⟩ = some (.slice x168 x168n x168c) ∧
∃ x169, cell? h159 ⟨b165, o166 + 1 + 1, none⟩ = some (.int .i64 x169) ∧
 Ent Tryz.prog B 24 #[.int .i64 x162, .int .i64 x163, .agg #[.bool x167, .slice x168 x168n x168c, .int .i64 x169]] (retE (fun v170 h171 => ∃ x174, v170 = .bool x174 ∧
 R (.returned (.bool (x164 == x174))) h171)
 (fun ch172 h173 => R (.panicked ch172) h173)) h159)
 (fun ch160 h161 => R (.panicked ch160) h161)) h154))
 (fun ch155 h156 => R (.panicked ch155) h156)) h142)
 (fun ch143 h144 => R (.panicked ch143) h144)) h140)
def F4_j8 (B : World) (R : Ending → Heap → Prop) (y9 : Int) (y10 : Int) (y11 : Bool) (h12 : Heap) : Prop :=
  (y11 = true →
 Ent Tryz.prog B 18 #[.int .i64 y9, .int .i64 y10] (retE (fun v13 h14 => ∃ x17 x18 x19, v13 = .tuple #[.int .i64 x17, .int .i64 x18, .bool x19] ∧
 Ent Tryz.prog B 19 #[.int .i64 y9, .int .i64 y10] (retE (fun v20 h21 => ∃ x24 x25 x26, v20 = .tuple #[.int .i64 x24, .int .i64 x25, .bool x26] ∧
 Ent Tryz.prog B 20 #[.int .i64 y9, .int .i64 y10] (retE (fun v27 h28 => ∃ x31 x32 x33, v27 = .tuple #[.int .i64 x31, .int .i64 x32, .bool x33] ∧
 Ent Tryz.prog B 15 #[] (retE (fun v34 h35 => ∃ x38, v34 = .bool x38 ∧
(x38 = true →
 ((!x19) = true →
 ((!x26) = true →
 F4_j39 B R (!x33) h35) ∧
((!x26) = false →
 F4_j39 B R false h35)) ∧
((!x19) = false →
 (false = true →
 F4_j39 B R (!x33) h35) ∧
(false = false →
 F4_j39 B R false h35))) ∧
(x38 = false →
 (false = true →
 ((!x26) = true →
 F4_j39 B R (!x33) h35) ∧
((!x26) = false →
 F4_j39 B R false h35)) ∧
(false = false →
 (false = true →
 F4_j39 B R (!x33) h35) ∧
(false = false →
 F4_j39 B R false h35))))
 (fun ch36 h37 => R (.panicked ch36) h37)) h28)
 (fun ch29 h30 => R (.panicked ch29) h30)) h21)
 (fun ch22 h23 => R (.panicked ch22) h23)) h14)
 (fun ch15 h16 => R (.panicked ch15) h16)) h12) ∧
(y11 = false →
 Ent Tryz.prog B 21 #[.int .i64 y9] (retE (fun v42 h43 => ∃ x46 x47 x47n x47c x48 x49, v42 = .tuple #[.agg #[.bool x46, .slice x47 x47n x47c, .int .i64 x48], .int .i64 x49] ∧
 alW h43 (.cells #[.bool false, .slice none 0 0, .int .i64 0] 29) fun r50 h51 =>
 isP (some ⟨r50, 0, none⟩) fun b52 o53 => stC h51 b52 o53 (.bool x46) fun h54 =>
 stC h54 b52 (o53 + 1) (.slice x47 x47n x47c) fun h55 =>
 stC h55 b52 (o53 + 1 + 1) (.int .i64 x48) fun h56 =>
 Ent Tryz.prog B 21 #[.int .i64 y10] (retE (fun v57 h58 => ∃ x61 x62 x62n x62c x63 x64, v57 = .tuple #[.agg #[.bool x61, .slice x62 x62n x62c, .int .i64 x63], .int .i64 x64] ∧
 alW h58 (.cells #[.bool false, .slice none 0 0, .int .i64 0] 29) fun r65 h66 =>
 isP (some ⟨r65, 0, none⟩) fun b67 o68 => stC h66 b67 o68 (.bool x61) fun h69 =>
 stC h69 b67 (o68 + 1) (.slice x62 x62n x62c) fun h70 =>
 stC h70 b67 (o68 + 1 + 1) (.int .i64 x63) fun h71 =>
 isP (some ⟨r50, 0, none⟩) fun b72 o73 =>
∃ x74, cell? h71 ⟨b72, o73, none⟩ = some (.bool x74) ∧
∃ x75 x75n x75c, cell? h71 ⟨b72, o73 + 1, none⟩ = some (.slice x75 x75n x75c) ∧
∃ x76, cell? h71 ⟨b72, o73 + 1 + 1, none⟩ = some (.int .i64 x76) ∧
 isP (some ⟨r65, 0, none⟩) fun b77 o78 =>
∃ x79, cell? h71 ⟨b77, o78, none⟩ = some (.bool x79) ∧
∃ x80 x80n x80c, cell? h71 ⟨b77, o78 + 1, none⟩ = some (.slice x80 x80n x80c) ∧
∃ x81, cell? h71 ⟨b77, o78 + 1 + 1, none⟩ = some (.int .i64 x81) ∧
 Ent Tryz.prog B 22 #[.agg #[.bool x74, .slice x75 x75n x75c, .int .i64 x76], .agg #[.bool x79, .slice x80 x80n x80c, .int .i64 x81]] (retE (fun v82 h83 => ∃ x86 x87 x87n x87c x88 x89, v82 = .tuple #[.agg #[.bool x86, .slice x87 x87n x87c, .int .i64 x88], .int .i64 x89] ∧
 alW h83 (.cells #[.bool false, .slice none 0 0, .int .i64 0] 29) fun r90 h91 =>
 isP (some ⟨r90, 0, none⟩) fun b92 o93 => stC h91 b92 o93 (.bool x86) fun h94 =>
 stC h94 b92 (o93 + 1) (.slice x87 x87n x87c) fun h95 =>
 stC h95 b92 (o93 + 1 + 1) (.int .i64 x88) fun h96 =>
 isP (some ⟨r50, 0, none⟩) fun b97 o98 =>
∃ x99, cell? h96 ⟨b97, o98, none⟩ = some (.bool x99) ∧
∃ x100 x100n x100c, cell? h96 ⟨b97, o98 + 1, none⟩ = some (.slice x100 x100n x100c) ∧
∃ x101, cell? h96 ⟨b97, o98 + 1 + 1, none⟩ = some (.int .i64 x101) ∧
 isP (some ⟨r65, 0, none⟩) fun b102 o103 =>
∃ x104, cell? h96 ⟨b102, o103, none⟩ = some (.bool x104) ∧
∃ x105 x105n x105c, cell? h96 ⟨b102, o103 + 1, none⟩ = some (.slice x105 x105n x105c) ∧
∃ x106, cell? h96 ⟨b102, o103 + 1 + 1, none⟩ = some (.int .i64 x106) ∧
 Ent Tryz.prog B 23 #[.agg #[.bool x99, .slice x100 x100n x100c, .int .i64 x101], .agg #[.bool x104, .slice x105 x105n x105c, .int .i64 x106]] (retE (fun v107 h108 => ∃ x111 x112 x112n x112c x113 x114, v107 = .tuple #[.agg #[.bool x111, .slice x112 x112n x112c, .int .i64 x113], .int .i64 x114] ∧
 alW h108 (.cells #[.bool false, .slice none 0 0, .int .i64 0] 29) fun r115 h116 =>
 isP (some ⟨r115, 0, none⟩) fun b117 o118 => stC h116 b117 o118 (.bool x111) fun h119 =>
 stC h119 b117 (o118 + 1) (.slice x112 x112n x112c) fun h120 =>
 stC h120 b117 (o118 + 1 + 1) (.int .i64 x113) fun h121 =>
 Ent Tryz.prog B 18 #[.int .i64 y9, .int .i64 y10] (retE (fun v122 h123 => ∃ x126 x127 x128, v122 = .tuple #[.int .i64 x126, .int .i64 x127, .bool x128] ∧
 Ent Tryz.prog B 15 #[] (retE (fun v129 h130 => ∃ x133, v129 = .bool x133 ∧
((!x133) = true →
 F4_j134 B R y9 y10 (some ⟨r90, 0, none⟩) (some ⟨r115, 0, none⟩) true h130) ∧
((!x133) = false →
 isP (some ⟨r90, 0, none⟩) fun b175 o176 =>
∃ x177, cell? h130 ⟨b175, o176, none⟩ = some (.bool x177) ∧
∃ x178 x178n x178c, cell? h130 ⟨b175, o176 + 1, none⟩ = some (.slice x178 x178n x178c) ∧
∃ x179, cell? h130 ⟨b175, o176 + 1 + 1, none⟩ = some (.int .i64 x179) ∧
 Ent Tryz.prog B 24 #[.int .i64 x126, .int .i64 x127, .agg #[.bool x177, .slice x178 x178n x178c, .int .i64 x179]] (retE (fun v180 h181 => ∃ x184, v180 = .bool x184 ∧
 F4_j134 B R y9 y10 (some ⟨r90, 0, none⟩) (some ⟨r115, 0, none⟩) (!(x128 == x184)) h181)
 (fun ch182 h183 => R (.panicked ch182) h183)) h130))
 (fun ch131 h132 => R (.panicked ch131) h132)) h123)
 (fun ch124 h125 => R (.panicked ch124) h125)) h121)
 (fun ch109 h110 => R (.panicked ch109) h110)) h96)
 (fun ch84 h85 => R (.panicked ch84) h85)) h71)
 (fun ch59 h60 => R (.panicked ch59) h60)) h56)
 (fun ch44 h45 => R (.panicked ch44) h45)) h12)
def F4 (B : World) (R : Ending → Heap → Prop) (a1 : Int) (a2 : Int) (h : Heap) : Prop :=
  Ent Tryz.prog B 17 #[.int .i64 a1] (retE (fun v3 h4 => ∃ x7, v3 = .int .i64 x7 ∧
((decide ((2 : Int) < x7)) = true →
 F4_j8 B R a1 a2 true h4) ∧
((decide ((2 : Int) < x7)) = false →
 Ent Tryz.prog B 17 #[.int .i64 a2] (retE (fun v185 h186 => ∃ x189, v185 = .int .i64 x189 ∧
 F4_j8 B R a1 a2 (decide ((2 : Int) < x189)) h186)
 (fun ch187 h188 => R (.panicked ch187) h188)) h4))
 (fun ch5 h6 => R (.panicked ch5) h6)) h
/-- plumb/plumblaw6.EftSums -/
def F5_j18 (B : World) (R : Ending → Heap → Prop) (y19 : Bool) (h20 : Heap) : Prop :=
  R (.returned (.bool y19)) h20
def F5 (B : World) (R : Ending → Heap → Prop) (a1 : Int) (a2 : Int) (h : Heap) : Prop :=
  Ent Tryz.prog B 15 #[] (retE (fun v3 h4 => ∃ x7, v3 = .bool x7 ∧
(x7 = true →
 Ent Tryz.prog B 25 #[.int .i64 a1, .int .i64 a2] (retE (fun v8 h9 => ∃ x12, v8 = .bool x12 ∧
(x12 = true →
 Ent Tryz.prog B 25 #[.int .i64 a2, .int .i64 a1] (retE (fun v13 h14 => ∃ x17, v13 = .bool x17 ∧
 F5_j18 B R x17 h14)
 (fun ch15 h16 => R (.panicked ch15) h16)) h9) ∧
(x12 = false →
 F5_j18 B R false h9))
 (fun ch10 h11 => R (.panicked ch10) h11)) h4) ∧
(x7 = false →
 (false = true →
 Ent Tryz.prog B 25 #[.int .i64 a2, .int .i64 a1] (retE (fun v21 h22 => ∃ x25, v21 = .bool x25 ∧
 F5_j18 B R x25 h22)
 (fun ch23 h24 => R (.panicked ch23) h24)) h4) ∧
(false = false →
 F5_j18 B R false h4)))
 (fun ch5 h6 => R (.panicked ch5) h6)) h
/-- plumb/plumblaw6.EftAll -/
def F6_j32 (B : World) (R : Ending → Heap → Prop) (I2 : Nat → List Value → Heap → Prop) (n4 : Nat) (y33 : Option Addr) (y33n : Nat) (y33c : Nat) (y34 : Int) (y35 : Bool) (h36 : Heap) : Prop :=
  (y35 = true →
 R (.returned (.bool false)) h36) ∧
(y35 = false →
 ∃ m37, m37 < n4 ∧ I2 m37 [.slice y33 y33n y33c, .int .i64 (IntKind.i64.wrap (y34 + (1 : Int)))] h36)
def F6_j8 (B : World) (R : Ending → Heap → Prop) (I2 : Nat → List Value → Heap → Prop) (n4 : Nat) (y9 : Option Addr) (y9n : Nat) (y9c : Nat) (y10 : Int) (y11 : Bool) (h12 : Heap) : Prop :=
  (y11 = true →
 ixW y9 y9n y10 2 fun b13 o14 =>
 isP (some ⟨b13, o14, none⟩) fun b15 o16 =>
 isP (some ⟨b15, o16, none⟩) fun b17 o18 => ∃ x19, cell? h12 ⟨b17, o18, none⟩ = some (.int .i64 x19) ∧
 ixW y9 y9n y10 2 fun b20 o21 =>
 isP (some ⟨b20, o21, none⟩) fun b22 o23 =>
 isP (some ⟨b22, o23 + 1, none⟩) fun b24 o25 => ∃ x26, cell? h12 ⟨b24, o25, none⟩ = some (.int .i64 x26) ∧
 Ent Tryz.prog B 25 #[.int .i64 x19, .int .i64 x26] (retE (fun v27 h28 => ∃ x31, v27 = .bool x31 ∧
((!x31) = true →
 F6_j32 B R I2 n4 y9 y9n y9c y10 true h28) ∧
((!x31) = false →
 ixW y9 y9n y10 2 fun b38 o39 =>
 isP (some ⟨b38, o39, none⟩) fun b40 o41 =>
 isP (some ⟨b40, o41 + 1, none⟩) fun b42 o43 => ∃ x44, cell? h28 ⟨b42, o43, none⟩ = some (.int .i64 x44) ∧
 ixW y9 y9n y10 2 fun b45 o46 =>
 isP (some ⟨b45, o46, none⟩) fun b47 o48 =>
 isP (some ⟨b47, o48, none⟩) fun b49 o50 => ∃ x51, cell? h28 ⟨b49, o50, none⟩ = some (.int .i64 x51) ∧
 Ent Tryz.prog B 16 #[.int .i64 x44, .int .i64 x51] (retE (fun v52 h53 => ∃ x56, v52 = .bool x56 ∧
 F6_j32 B R I2 n4 y9 y9n y9c y10 (!x56) h53)
 (fun _ _ => False)) h28))
 (fun _ _ => False)) h12) ∧
(y11 = false →
 Ent Tryz.prog B 15 #[] (retE (fun v57 h58 => ∃ x61, v57 = .bool x61 ∧
 R (.returned (.bool x61)) h58)
 (fun ch59 h60 => R (.panicked ch59) h60)) h12)
def F6 (B : World) (R : Ending → Heap → Prop) (a1 : Option Addr) (a1n : Nat) (a1c : Nat) (h : Heap) : Prop :=
  ∃ I2 : Nat → List Value → Heap → Prop, ∃ n3, I2 n3 [.slice a1 a1n a1c, .int .i64 (0 : Int)] h ∧
∀ (n4 : Nat) (h7 : Heap) (z5 : Option Addr) (z5n : Nat) (z5c : Nat) (z6 : Int), I2 n4 [.slice z5 z5n z5c, .int .i64 z6] h7 → ∀ _r : Nat → Value,
 ((decide (z6 < ((z5n : Nat) : Int))) = true →
 F6_j8 B R I2 n4 z5 z5n z5c z6 (decide (z6 < (60 : Int))) h7) ∧
((decide (z6 < ((z5n : Nat) : Int))) = false →
 F6_j8 B R I2 n4 z5 z5n z5c z6 false h7)
/-- plumb/eft.FastTwoSum -/
def F20 (B : World) (R : Ending → Heap → Prop) (a1 : Int) (a2 : Int) (h : Heap) : Prop :=
  Ent Tryz.prog B 54 #[.int .i64 a1] (retE (fun v3 h4 => ∃ x7, v3 = .float .f64 x7 ∧
 Ent Tryz.prog B 54 #[.int .i64 a2] (retE (fun v8 h9 => ∃ x12, v8 = .float .f64 x12 ∧
 flW .f64 (FloatKind.f64.format.add x7 x12) x7 x12 fun f13 =>
 flW .f64 (FloatKind.f64.format.sub f13 x7) f13 x7 fun f14 =>
 flW .f64 (FloatKind.f64.format.sub x12 f14) x12 f14 fun f15 =>
 Ent Tryz.prog B 56 #[.float .f64 f13] (retE (fun v16 h17 => ∃ x20, v16 = .int .i64 x20 ∧
 Ent Tryz.prog B 56 #[.float .f64 f15] (retE (fun v21 h22 => ∃ x25, v21 = .int .i64 x25 ∧
 Ent Tryz.prog B 57 #[.float .f64 f13, .float .f64 f15, .float .f64 x7, .float .f64 x12] (retE (fun v26 h27 => ∃ x30, v26 = .bool x30 ∧
 R (.returned (.tuple #[.int .i64 x20, .int .i64 x25, .bool x30])) h27)
 (fun ch28 h29 => R (.panicked ch28) h29)) h22)
 (fun ch23 h24 => R (.panicked ch23) h24)) h17)
 (fun ch18 h19 => R (.panicked ch18) h19)) h9)
 (fun ch10 h11 => R (.panicked ch10) h11)) h4)
 (fun ch5 h6 => R (.panicked ch5) h6)) h
def F20_L : Nat → List (Nat × TypeDesc) := fun _ => []
theorem F20_W (B : World) (R : Ending → Heap → Prop) (a1 : Int) (a2 : Int) (h : Heap) : W Tryz.prog B Tryz.f20.ntmps F20_L (prune [] (codeOf Tryz.f20)) (endQ Tryz.prog Tryz.f20 R) (env0 #[.int .i64 a1, .int .i64 a2]) h = F20 B R a1 a2 h := by kernel_rfl
theorem F20_ok {B : World} {R : Ending → Heap → Prop} (a1 : Int) (a2 : Int) {h : Heap} (H : F20 B R a1 a2 h) : Ent Tryz.prog B 20 #[.int .i64 a1, .int .i64 a2] R h :=
  Ent_of_W mixed Tryz.func20 (by kernel_rfl) (by kernel_rfl) (by kernel_rfl) F20_L [] (by rw [F20_W]; exact H)

/-- plumb/plumblaw6.summed -/
def F25_j55 (B : World) (R : Ending → Heap → Prop) (y56 : Bool) (h57 : Heap) : Prop :=
  R (.returned (.bool y56)) h57
def F25_j36 (B : World) (R : Ending → Heap → Prop) (y37 : Int) (y38 : Int) (y39 : Bool) (h40 : Heap) : Prop :=
  (y39 = true →
 R (.returned (.bool false)) h40) ∧
(y39 = false →
 Ent Tryz.prog B 20 #[.int .i64 y37, .int .i64 y38] (retE (fun v41 h42 => ∃ x45 x46 x47, v41 = .tuple #[.int .i64 x45, .int .i64 x46, .bool x47] ∧
 Ent Tryz.prog B 72 #[.int .i64 y37, .int .i64 y38] (retE (fun v48 h49 => ∃ x52 x53 x54, v48 = .tuple #[.int .i64 x52, .int .i64 x53, .bool x54] ∧
((decide (x45 = x52)) = true →
 ((decide (x46 = x53)) = true →
 F25_j55 B R (x47 == x54) h49) ∧
((decide (x46 = x53)) = false →
 F25_j55 B R false h49)) ∧
((decide (x45 = x52)) = false →
 (false = true →
 F25_j55 B R (x47 == x54) h49) ∧
(false = false →
 F25_j55 B R false h49)))
 (fun ch50 h51 => R (.panicked ch50) h51)) h42)
 (fun ch43 h44 => R (.panicked ch43) h44)) h40)
def F25_j17 (B : World) (R : Ending → Heap → Prop) (y18 : Int) (y19 : Int) (y20 : Bool) (h21 : Heap) : Prop :=
  (y20 = true →
 R (.returned (.bool false)) h21) ∧
(y20 = false →
 Ent Tryz.prog B 70 #[.int .i64 y18, .int .i64 y19] (retE (fun v22 h23 => ∃ x26 x27 x28, v22 = .tuple #[.int .i64 x26, .int .i64 x27, .bool x28] ∧
 Ent Tryz.prog B 71 #[.int .i64 y18, .int .i64 y19] (retE (fun v29 h30 => ∃ x33 x34 x35, v29 = .tuple #[.int .i64 x33, .int .i64 x34, .bool x35] ∧
((!decide (x26 = x33)) = true →
 (true = true →
 F25_j36 B R y18 y19 true h30) ∧
(true = false →
 F25_j36 B R y18 y19 (!(x28 == x35)) h30)) ∧
((!decide (x26 = x33)) = false →
 ((!decide (x27 = x34)) = true →
 F25_j36 B R y18 y19 true h30) ∧
((!decide (x27 = x34)) = false →
 F25_j36 B R y18 y19 (!(x28 == x35)) h30)))
 (fun ch31 h32 => R (.panicked ch31) h32)) h23)
 (fun ch24 h25 => R (.panicked ch24) h25)) h21)
def F25 (B : World) (R : Ending → Heap → Prop) (a1 : Int) (a2 : Int) (h : Heap) : Prop :=
  Ent Tryz.prog B 18 #[.int .i64 a1, .int .i64 a2] (retE (fun v3 h4 => ∃ x7 x8 x9, v3 = .tuple #[.int .i64 x7, .int .i64 x8, .bool x9] ∧
 Ent Tryz.prog B 69 #[.int .i64 a1, .int .i64 a2] (retE (fun v10 h11 => ∃ x14 x15 x16, v10 = .tuple #[.int .i64 x14, .int .i64 x15, .bool x16] ∧
((!decide (x7 = x14)) = true →
 (true = true →
 F25_j17 B R a1 a2 true h11) ∧
(true = false →
 F25_j17 B R a1 a2 (!(x9 == x16)) h11)) ∧
((!decide (x7 = x14)) = false →
 ((!decide (x8 = x15)) = true →
 F25_j17 B R a1 a2 true h11) ∧
((!decide (x8 = x15)) = false →
 F25_j17 B R a1 a2 (!(x9 == x16)) h11)))
 (fun ch12 h13 => R (.panicked ch12) h13)) h4)
 (fun ch5 h6 => R (.panicked ch5) h6)) h
end Go.Proofs
