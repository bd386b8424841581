import Derived.Test.YtkfafikejdhccaaGreatDoorA20
/- Here stand lemmas: what the functions of this file come to, fourth part (written by program). -/
set_option linter.unusedVariables false
namespace Go.Proofs
open Go Go.Eng
/-- (plumb/plumbref4.Kind).Cut -/
def F237_j169 (B : World) (R : Ending → Heap → Prop) (I90 : Nat → List Value → Heap → Prop) (n92 : Nat) (y170 : Option Addr) (y171 : Int) (y172 : Bool) (h173 : Heap) : Prop :=
  (y172 = true →
 isP y170 fun b174 o175 =>
 isP (some ⟨b174, o175 + 3, none⟩) fun b176 o177 => ∃ x178, cell? h173 ⟨b176, o177, none⟩ = some (.int .i64 x178) ∧
 R (.returned (.tuple #[.int .i64 (IntKind.i64.wrap (y171 + x178)), .bool true])) h173) ∧
(y172 = false →
 False)
def F237_j159 (B : World) (R : Ending → Heap → Prop) (I90 : Nat → List Value → Heap → Prop) (n92 : Nat) (y160 : Bool) (y161 : Int) (y162 : Option Addr) (y163 : Int) (y164 : Int) (y165 : Bool) (y166 : Int) (y167 : Bool) (h168 : Heap) : Prop :=
  (y167 = true →
 ((decide (y161 = (0 : Int))) = true →
 (true = true →
 F237_j169 B R I90 n92 y162 y163 true h168) ∧
(true = false →
 ((decide (y161 = (1 : Int))) = true →
 F237_j169 B R I90 n92 y162 y163 y160 h168) ∧
((decide (y161 = (1 : Int))) = false →
 F237_j169 B R I90 n92 y162 y163 false h168))) ∧
((decide (y161 = (0 : Int))) = false →
 ((decide (y161 = (2 : Int))) = true →
 ((!y160) = true →
 F237_j169 B R I90 n92 y162 y163 true h168) ∧
((!y160) = false →
 ((decide (y161 = (1 : Int))) = true →
 F237_j169 B R I90 n92 y162 y163 y160 h168) ∧
((decide (y161 = (1 : Int))) = false →
 F237_j169 B R I90 n92 y162 y163 false h168))) ∧
((decide (y161 = (2 : Int))) = false →
 (false = true →
 F237_j169 B R I90 n92 y162 y163 true h168) ∧
(false = false →
 ((decide (y161 = (1 : Int))) = true →
 F237_j169 B R I90 n92 y162 y163 y160 h168) ∧
((decide (y161 = (1 : Int))) = false →
 F237_j169 B R I90 n92 y162 y163 false h168))))) ∧
(y167 = false →
 isP y162 fun b179 o180 =>
∃ x181, cell? h168 ⟨b179, o180, none⟩ = some (.int .i64 x181) ∧
∃ x182, cell? h168 ⟨b179, o180 + 1, none⟩ = some (.int .i64 x182) ∧
∃ x183, cell? h168 ⟨b179, o180 + 1 + 1, none⟩ = some (.int .i64 x183) ∧
∃ x184, cell? h168 ⟨b179, o180 + 1 + 1 + 1, none⟩ = some (.int .i64 x184) ∧
∃ x185, cell? h168 ⟨b179, o180 + 1 + 1 + 1 + 1, none⟩ = some (.int .i64 x185) ∧
 Ent Tryz.prog B 256 #[.agg #[.int .i64 x181, .int .i64 x182, .int .i64 x183, .int .i64 x184, .int .i64 x185], .int .i64 y164, .int .i64 y166] (retE (fun v186 h187 => ∃ x190, v186 = .int .i64 x190 ∧
 R (.returned (.tuple #[.int .i64 (IntKind.i64.wrap (y163 + x190)), .bool y165])) h187)
 (fun ch188 h189 => R (.panicked ch188) h189)) h168)
def F237_j134 (B : World) (R : Ending → Heap → Prop) (I90 : Nat → List Value → Heap → Prop) (n92 : Nat) (y135 : Bool) (y136 : Int) (y137 : Int) (y138 : Option Addr) (y139 : Int) (y140 : Int) (y141 : Int) (y142 : Bool) (h143 : Heap) : Prop :=
  ((decide ((0 : Int) < y141)) = true →
 isP y138 fun b144 o145 =>
 isP (some ⟨b144, o145, none⟩) fun b146 o147 => ∃ x148, cell? h143 ⟨b146, o147, none⟩ = some (.int .i64 x148) ∧
0 ≤ (IntKind.i64.wrap (x148 - (1 : Int))) ∧
((decide ((IntKind.i64.wrap ((1 : Int) * 2 ^ min (Int.toNat (IntKind.i64.wrap (x148 - (1 : Int)))) IntKind.i64.bits)) ≤ y141)) = true →
 isP y138 fun b149 o150 =>
 isP (some ⟨b149, o150 + 2, none⟩) fun b151 o152 => ∃ x153, cell? h143 ⟨b151, o152, none⟩ = some (.int .i64 x153) ∧
 Ent Tryz.prog B 255 #[.int .i64 y141] (retE (fun v154 h155 => ∃ x158, v154 = .int .i64 x158 ∧
 sameCells h143 h155 b151 o152 1 ∧ F237_j159 B R I90 n92 y135 y137 y138 y139 y141 y142 (IntKind.i64.wrap (y140 + y136)) (decide (x153 < (IntKind.i64.wrap (x158 + (IntKind.i64.wrap (y140 + y136)))))) h155)
 (fun _ _ => False)) h143) ∧
((decide ((IntKind.i64.wrap ((1 : Int) * 2 ^ min (Int.toNat (IntKind.i64.wrap (x148 - (1 : Int)))) IntKind.i64.bits)) ≤ y141)) = false →
 F237_j159 B R I90 n92 y135 y137 y138 y139 y141 y142 (IntKind.i64.wrap (y140 + y136)) false h143)) ∧
((decide ((0 : Int) < y141)) = false →
 (false = true →
 isP y138 fun b191 o192 =>
 isP (some ⟨b191, o192 + 2, none⟩) fun b193 o194 => ∃ x195, cell? h143 ⟨b193, o194, none⟩ = some (.int .i64 x195) ∧
 Ent Tryz.prog B 255 #[.int .i64 y141] (retE (fun v196 h197 => ∃ x200, v196 = .int .i64 x200 ∧
 sameCells h143 h197 b193 o194 1 ∧ F237_j159 B R I90 n92 y135 y137 y138 y139 y141 y142 (IntKind.i64.wrap (y140 + y136)) (decide (x195 < (IntKind.i64.wrap (x200 + (IntKind.i64.wrap (y140 + y136)))))) h197)
 (fun _ _ => False)) h143) ∧
(false = false →
 F237_j159 B R I90 n92 y135 y137 y138 y139 y141 y142 (IntKind.i64.wrap (y140 + y136)) false h143))
def F237_j123 (B : World) (R : Ending → Heap → Prop) (I90 : Nat → List Value → Heap → Prop) (n92 : Nat) (y124 : Bool) (y125 : Int) (y126 : Int) (y127 : Option Addr) (y128 : Int) (y129 : Int) (y130 : Int) (y131 : Bool) (y132 : Bool) (h133 : Heap) : Prop :=
  (y132 = true →
 F237_j134 B R I90 n92 y124 y125 y126 y127 y128 y129 (IntKind.i64.wrap (y130 + (1 : Int))) y131 h133) ∧
(y132 = false →
 F237_j134 B R I90 n92 y124 y125 y126 y127 y128 y129 y130 y131 h133)
def F237_j111 (B : World) (R : Ending → Heap → Prop) (I90 : Nat → List Value → Heap → Prop) (n92 : Nat) (y112 : Bool) (y113 : Int) (y114 : Int) (y115 : Option Addr) (y116 : Int) (y117 : Int) (y118 : Bool) (y119 : Bool) (y120 : Int) (y121 : Bool) (h122 : Heap) : Prop :=
  ((decide (y114 = (0 : Int))) = true →
 (y118 = true →
 (y119 = true →
 F237_j123 B R I90 n92 y112 y113 y114 y115 y116 y117 y120 y121 true h122) ∧
(y119 = false →
 (2 : Int) ≠ 0 ∧
 F237_j123 B R I90 n92 y112 y113 y114 y115 y116 y117 y120 y121 (decide ((Int.tmod y120 (2 : Int)) = (1 : Int))) h122)) ∧
(y118 = false →
 F237_j123 B R I90 n92 y112 y113 y114 y115 y116 y117 y120 y121 false h122)) ∧
((decide (y114 = (0 : Int))) = false →
 False)
def F237_j79 (B : World) (R : Ending → Heap → Prop) (y80 : Bool) (y81 : Int) (y82 : Int) (y83 : Option Addr) (y84 : Int) (y85 : Int) (y86 : Option Addr) (y86n : Nat) (y86c : Nat) (y87 : Bool) (y88 : Bool) (h89 : Heap) : Prop :=
  ∃ I90 : Nat → List Value → Heap → Prop, ∃ n91, I90 n91 [.bool y80, .int .i64 y81, .int .i64 y82, .pointer y83, .int .i64 y84, .int .i64 y85, .slice y86 y86n y86c, .bool y87, .bool y88, .int .i64 (0 : Int), .int .i64 (IntKind.i64.wrap (((y86n : Nat) : Int) - (1 : Int)))] h89 ∧
∀ (n92 : Nat) (h104 : Heap) (z93 : Bool) (z94 : Int) (z95 : Int) (z96 : Option Addr) (z97 : Int) (z98 : Int) (z99 : Option Addr) (z99n : Nat) (z99c : Nat) (z100 : Bool) (z101 : Bool) (z102 : Int) (z103 : Int), I90 n92 [.bool z93, .int .i64 z94, .int .i64 z95, .pointer z96, .int .i64 z97, .int .i64 z98, .slice z99 z99n z99c, .bool z100, .bool z101, .int .i64 z102, .int .i64 z103] h104 → ∀ _r : Nat → Value,
 ((decide ((0 : Int) ≤ z103)) = true →
 0 ≤ (30 : Int) ∧
 ixW z99 z99n z103 1 fun b105 o106 =>
 isP (some ⟨b105, o106, none⟩) fun b107 o108 => ∃ x109, cell? h104 ⟨b107, o108, none⟩ = some (.int .i64 x109) ∧
∃ m110, m110 < n92 ∧ I90 m110 [.bool z93, .int .i64 z94, .int .i64 z95, .pointer z96, .int .i64 z97, .int .i64 z98, .slice z99 z99n z99c, .bool z100, .bool z101, .int .i64 (IntKind.i64.wrap ((IntKind.i64.wrap (z102 * 2 ^ min (Int.toNat (30 : Int)) IntKind.i64.bits)) + x109)), .int .i64 (IntKind.i64.wrap (z103 - (1 : Int)))] h104) ∧
((decide ((0 : Int) ≤ z103)) = false →
 (z100 = true →
 F237_j111 B R I90 n92 z93 z94 z95 z96 z97 z98 z100 z101 z102 true h104) ∧
(z100 = false →
 F237_j111 B R I90 n92 z93 z94 z95 z96 z97 z98 z100 z101 z102 z101 h104))
def F237_j63 (B : World) (R : Ending → Heap → Prop) (y64 : Bool) (y65 : Option Addr) (y65n : Nat) (y65c : Nat) (y66 : Int) (y67 : Bool) (y68 : Int) (y69 : Option Addr) (y70 : Int) (y71 : Int) (y72 : Option Addr) (y72n : Nat) (y72c : Nat) (h73 : Heap) : Prop :=
  Ent Tryz.prog B 254 #[.slice y65 y65n y65c, .int .i64 (IntKind.i64.wrap (y71 - (1 : Int)))] (retE (fun v74 h75 => ∃ x78, v74 = .bool x78 ∧
(y67 = true →
 F237_j79 B R y64 y66 y68 y69 y70 y71 y72 y72n y72c x78 true h75) ∧
(y67 = false →
 ((decide ((0 : Int) < (IntKind.i64.wrap (y71 - (1 : Int))))) = true →
 Ent Tryz.prog B 190 #[.slice y65 y65n y65c] (retE (fun v201 h202 => ∃ x205, v201 = .int .i64 x205 ∧
((decide ((0 : Int) ≤ x205)) = true →
 Ent Tryz.prog B 190 #[.slice y65 y65n y65c] (retE (fun v206 h207 => ∃ x210, v206 = .int .i64 x210 ∧
 F237_j79 B R y64 y66 y68 y69 y70 y71 y72 y72n y72c x78 (decide (x210 < (IntKind.i64.wrap (y71 - (1 : Int))))) h207)
 (fun ch208 h209 => R (.panicked ch208) h209)) h202) ∧
((decide ((0 : Int) ≤ x205)) = false →
 F237_j79 B R y64 y66 y68 y69 y70 y71 y72 y72n y72c x78 false h202))
 (fun ch203 h204 => R (.panicked ch203) h204)) h75) ∧
((decide ((0 : Int) < (IntKind.i64.wrap (y71 - (1 : Int))))) = false →
 (false = true →
 Ent Tryz.prog B 190 #[.slice y65 y65n y65c] (retE (fun v211 h212 => ∃ x215, v211 = .int .i64 x215 ∧
 F237_j79 B R y64 y66 y68 y69 y70 y71 y72 y72n y72c x78 (decide (x215 < (IntKind.i64.wrap (y71 - (1 : Int))))) h212)
 (fun ch213 h214 => R (.panicked ch213) h214)) h75) ∧
(false = false →
 F237_j79 B R y64 y66 y68 y69 y70 y71 y72 y72n y72c x78 false h75))))
 (fun ch76 h77 => R (.panicked ch76) h77)) h73
def F237_j32 (B : World) (R : Ending → Heap → Prop) (y33 : Bool) (y34 : Option Addr) (y34n : Nat) (y34c : Nat) (y35 : Int) (y36 : Bool) (y37 : Int) (y38 : Option Addr) (y39 : Int) (y40 : Int) (y41 : Bool) (h42 : Heap) : Prop :=
  (y41 = true →
 R (.returned (.tuple #[.int .i64 y39, .bool false])) h42) ∧
(y41 = false →
 isP y38 fun b43 o44 =>
 isP (some ⟨b43, o44, none⟩) fun b45 o46 => ∃ x47, cell? h42 ⟨b45, o46, none⟩ = some (.int .i64 x47) ∧
 isP y38 fun b48 o49 =>
 isP (some ⟨b48, o49 + 1, none⟩) fun b50 o51 => ∃ x52, cell? h42 ⟨b50, o51, none⟩ = some (.int .i64 x52) ∧
 Ent Tryz.prog B 191 #[.slice y34 y34n y34c, .int .i64 (if (0 : Int) > (IntKind.i64.wrap ((if x52 > (IntKind.i64.wrap ((IntKind.i64.wrap (y40 + y35)) - x47)) then x52 else (IntKind.i64.wrap ((IntKind.i64.wrap (y40 + y35)) - x47))) - y35)) then (0 : Int) else (IntKind.i64.wrap ((if x52 > (IntKind.i64.wrap ((IntKind.i64.wrap (y40 + y35)) - x47)) then x52 else (IntKind.i64.wrap ((IntKind.i64.wrap (y40 + y35)) - x47))) - y35)))] (retE (fun v53 h54 => ∃ x57 x57n x57c, v53 = .slice x57 x57n x57c ∧
((decide ((IntKind.i64.wrap ((if x52 > (IntKind.i64.wrap ((IntKind.i64.wrap (y40 + y35)) - x47)) then x52 else (IntKind.i64.wrap ((IntKind.i64.wrap (y40 + y35)) - x47))) - y35)) < (0 : Int))) = true →
 Ent Tryz.prog B 177 #[.slice y34 y34n y34c, .int .i64 (IntKind.i64.wrap (0 - (IntKind.i64.wrap ((if x52 > (IntKind.i64.wrap ((IntKind.i64.wrap (y40 + y35)) - x47)) then x52 else (IntKind.i64.wrap ((IntKind.i64.wrap (y40 + y35)) - x47))) - y35))))] (retE (fun v58 h59 => ∃ x62 x62n x62c, v58 = .slice x62 x62n x62c ∧
 F237_j63 B R y33 y34 y34n y34c y35 y36 y37 y38 y39 (IntKind.i64.wrap ((if x52 > (IntKind.i64.wrap ((IntKind.i64.wrap (y40 + y35)) - x47)) then x52 else (IntKind.i64.wrap ((IntKind.i64.wrap (y40 + y35)) - x47))) - y35)) x62 x62n x62c h59)
 (fun ch60 h61 => R (.panicked ch60) h61)) h54) ∧
((decide ((IntKind.i64.wrap ((if x52 > (IntKind.i64.wrap ((IntKind.i64.wrap (y40 + y35)) - x47)) then x52 else (IntKind.i64.wrap ((IntKind.i64.wrap (y40 + y35)) - x47))) - y35)) < (0 : Int))) = false →
 F237_j63 B R y33 y34 y34n y34c y35 y36 y37 y38 y39 (IntKind.i64.wrap ((if x52 > (IntKind.i64.wrap ((IntKind.i64.wrap (y40 + y35)) - x47)) then x52 else (IntKind.i64.wrap ((IntKind.i64.wrap (y40 + y35)) - x47))) - y35)) x57 x57n x57c h54))
 (fun ch55 h56 => R (.panicked ch55) h56)) h42)
def F237_j18 (B : World) (R : Ending → Heap → Prop) (y19 : Bool) (y20 : Option Addr) (y20n : Nat) (y20c : Nat) (y21 : Int) (y22 : Bool) (y23 : Int) (y24 : Option Addr) (y25 : Int) (h26 : Heap) : Prop :=
  Ent Tryz.prog B 253 #[.slice y20 y20n y20c] (retE (fun v27 h28 => ∃ x31, v27 = .int .i64 x31 ∧
((decide (x31 = (0 : Int))) = true →
 F237_j32 B R y19 y20 y20n y20c y21 y22 y23 y24 y25 x31 (!y22) h28) ∧
((decide (x31 = (0 : Int))) = false →
 F237_j32 B R y19 y20 y20n y20c y21 y22 y23 y24 y25 x31 false h28))
 (fun ch29 h30 => R (.panicked ch29) h30)) h26
def F237 (B : World) (R : Ending → Heap → Prop) (a1 : Int) (a2 : Int) (a3 : Int) (a4 : Int) (a5 : Int) (a6 : Bool) (a7 : Option Addr) (a7n : Nat) (a7c : Nat) (a8 : Int) (a9 : Bool) (a10 : Int) (h : Heap) : Prop :=
  alW h (.cells #[.int .i64 a1, .int .i64 a2, .int .i64 a3, .int .i64 a4, .int .i64 a5] 166) fun r11 h12 =>
(a6 = true →
 isP (some ⟨r11, 0, none⟩) fun b13 o14 =>
 isP (some ⟨b13, o14 + 4, none⟩) fun b15 o16 => ∃ x17, cell? h12 ⟨b15, o16, none⟩ = some (.int .i64 x17) ∧
 F237_j18 B R a6 a7 a7n a7c a8 a9 a10 (some ⟨r11, 0, none⟩) x17 h12) ∧
(a6 = false →
 F237_j18 B R a6 a7 a7n a7c a8 a9 a10 (some ⟨r11, 0, none⟩) (0 : Int) h12)
def F237_L : Nat → List (Nat × TypeDesc) := fun i => match i with
  | 15 => [(1, .bool), (3, .int .i64), (5, .int .i64), (6, .pointer 0), (14, .int .i64), (16, .int .i64), (17, .slice 0), (18, .bool), (19, .bool), (20, .int .i64), (21, .int .i64)]
  | _ => []
theorem F237_W (B : World) (R : Ending → Heap → Prop) (a1 : Int) (a2 : Int) (a3 : Int) (a4 : Int) (a5 : Int) (a6 : Bool) (a7 : Option Addr) (a7n : Nat) (a7c : Nat) (a8 : Int) (a9 : Bool) (a10 : Int) (h : Heap) : W Tryz.prog B Tryz.f237.ntmps F237_L (prune [23, 24, 25, 26, 33] (codeOf Tryz.f237)) (endQ Tryz.prog Tryz.f237 R) (env0 #[.agg #[.int .i64 a1, .int .i64 a2, .int .i64 a3, .int .i64 a4, .int .i64 a5], .bool a6, .slice a7 a7n a7c, .int .i64 a8, .bool a9, .int .i64 a10]) h = F237 B R a1 a2 a3 a4 a5 a6 a7 a7n a7c a8 a9 a10 h := by kernel_rfl
theorem F237_ok {B : World} {R : Ending → Heap → Prop} (a1 : Int) (a2 : Int) (a3 : Int) (a4 : Int) (a5 : Int) (a6 : Bool) (a7 : Option Addr) (a7n : Nat) (a7c : Nat) (a8 : Int) (a9 : Bool) (a10 : Int) {h : Heap} (H : F237 B R a1 a2 a3 a4 a5 a6 a7 a7n a7c a8 a9 a10 h) : Ent Tryz.prog B 237 #[.agg #[.int .i64 a1, .int .i64 a2, .int .i64 a3, .int .i64 a4, .int .i64 a5], .bool a6, .slice a7 a7n a7c, .int .i64 a8, .bool a9, .int .i64 a10] R h :=
  Ent_of_W mixed Tryz.func237 (by kernel_rfl) (by kernel_rfl) (by kernel_rfl) F237_L [23, 24, 25, 26, 33] (by rw [F237_W]; exact H)
end Go.Proofs
