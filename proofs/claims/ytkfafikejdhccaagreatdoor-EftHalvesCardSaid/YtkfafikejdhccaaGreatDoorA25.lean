import Derived.Test.YtkfafikejdhccaaGreatDoorA20
/- Here stand lemmas: what further functions come to, for EftHalves (written by program). -/
set_option linter.unusedVariables false
namespace Go.Proofs
open Go Go.Eng
/-- plumb/plumblaw6.EftHalves -/
def F7_j53 (B : World) (R : Ending → Heap → Prop) (y54 : Int) (y55 : Option Addr) (y56 : Option Addr) (y57 : Bool) (h58 : Heap) : Prop :=
  (y57 = true →
 R (.returned (.bool false)) h58) ∧
(y57 = false →
 isP y55 fun b59 o60 =>
∃ x61, cell? h58 ⟨b59, o60, none⟩ = some (.bool x61) ∧
∃ x62 x62n x62c, cell? h58 ⟨b59, o60 + 1, none⟩ = some (.slice x62 x62n x62c) ∧
∃ x63, cell? h58 ⟨b59, o60 + 1 + 1, none⟩ = some (.int .i64 x63) ∧
 isP y56 fun b64 o65 =>
∃ x66, cell? h58 ⟨b64, o65, none⟩ = some (.bool x66) ∧
∃ x67 x67n x67c, cell? h58 ⟨b64, o65 + 1, none⟩ = some (.slice x67 x67n x67c) ∧
∃ x68, cell? h58 ⟨b64, o65 + 1 + 1, none⟩ = some (.int .i64 x68) ∧
 Ent Tryz.prog B 22 #[.agg #[.bool x61, .slice x62 x62n x62c, .int .i64 x63], .agg #[.bool x66, .slice x67 x67n x67c, .int .i64 x68]] (retE (fun v69 h70 => ∃ x73 x74 x74n x74c x75 x76, v69 = .tuple #[.agg #[.bool x73, .slice x74 x74n x74c, .int .i64 x75], .int .i64 x76] ∧
 alW h70 (.cells #[.bool false, .slice none 0 0, .int .i64 0] 29) fun r77 h78 =>
 isP (some ⟨r77, 0, none⟩) fun b79 o80 => stC h78 b79 o80 (.bool x73) fun h81 =>
 stC h81 b79 (o80 + 1) (.slice x74 x74n x74c) fun h82 =>
 stC h82 b79 (o80 + 1 + 1) (.int .i64 x75) fun h83 =>
 Ent Tryz.prog B 21 #[.int .i64 y54] (retE (fun v84 h85 => ∃ x88 x89 x89n x89c x90 x91, v84 = .tuple #[.agg #[.bool x88, .slice x89 x89n x89c, .int .i64 x90], .int .i64 x91] ∧
 alW h85 (.cells #[.bool false, .slice none 0 0, .int .i64 0] 29) fun r92 h93 =>
 isP (some ⟨r92, 0, none⟩) fun b94 o95 => stC h93 b94 o95 (.bool x88) fun h96 =>
 stC h96 b94 (o95 + 1) (.slice x89 x89n x89c) fun h97 =>
 stC h97 b94 (o95 + 1 + 1) (.int .i64 x90) fun h98 =>
 isP (some ⟨r77, 0, none⟩) fun b99 o100 =>
∃ x101, cell? h98 ⟨b99, o100, none⟩ = some (.bool x101) ∧
∃ x102 x102n x102c, cell? h98 ⟨b99, o100 + 1, none⟩ = some (.slice x102 x102n x102c) ∧
∃ x103, cell? h98 ⟨b99, o100 + 1 + 1, none⟩ = some (.int .i64 x103) ∧
 isP (some ⟨r92, 0, none⟩) fun b104 o105 =>
∃ x106, cell? h98 ⟨b104, o105, none⟩ = some (.bool x106) ∧
∃ x107 x107n x107c, cell? h98 ⟨b104, o105 + 1, none⟩ = some (.slice x107 x107n x107c) ∧
∃ x108, cell? h98 ⟨b104, o105 + 1 + 1, none⟩ = some (.int .i64 x108) ∧
 Ent Tryz.prog B 28 #[.agg #[.bool x101, .slice x102 x102n x102c, .int .i64 x103], .agg #[.bool x106, .slice x107 x107n x107c, .int .i64 x108]] (retE (fun v109 h110 => ∃ x113 x114, v109 = .tuple #[.int .i64 x113, .int .i64 x114] ∧
 R (.returned (.bool (decide (x113 = (0 : Int))))) h110)
 (fun ch111 h112 => R (.panicked ch111) h112)) h98)
 (fun ch86 h87 => R (.panicked ch86) h87)) h83)
 (fun ch71 h72 => R (.panicked ch71) h72)) h58)
def F7_j7 (B : World) (R : Ending → Heap → Prop) (y8 : Int) (y9 : Bool) (h10 : Heap) : Prop :=
  (y9 = true →
 Ent Tryz.prog B 15 #[] (retE (fun v11 h12 => ∃ x15, v11 = .bool x15 ∧
 R (.returned (.bool x15)) h12)
 (fun ch13 h14 => R (.panicked ch13) h14)) h10) ∧
(y9 = false →
 Ent Tryz.prog B 27 #[.int .i64 y8] (retE (fun v16 h17 => ∃ x20 x21 x22, v16 = .tuple #[.int .i64 x20, .int .i64 x21, .bool x22] ∧
 Ent Tryz.prog B 21 #[.int .i64 x20] (retE (fun v23 h24 => ∃ x27 x28 x28n x28c x29 x30, v23 = .tuple #[.agg #[.bool x27, .slice x28 x28n x28c, .int .i64 x29], .int .i64 x30] ∧
 alW h24 (.cells #[.bool false, .slice none 0 0, .int .i64 0] 29) fun r31 h32 =>
 isP (some ⟨r31, 0, none⟩) fun b33 o34 => stC h32 b33 o34 (.bool x27) fun h35 =>
 stC h35 b33 (o34 + 1) (.slice x28 x28n x28c) fun h36 =>
 stC h36 b33 (o34 + 1 + 1) (.int .i64 x29) fun h37 =>
 Ent Tryz.prog B 21 #[.int .i64 x21] (retE (fun v38 h39 => ∃ x42 x43 x43n x43c x44 x45, v38 = .tuple #[.agg #[.bool x42, .slice x43 x43n x43c, .int .i64 x44], .int .i64 x45] ∧
 alW h39 (.cells #[.bool false, .slice none 0 0, .int .i64 0] 29) fun r46 h47 =>
 isP (some ⟨r46, 0, none⟩) fun b48 o49 => stC h47 b48 o49 (.bool x42) fun h50 =>
 stC h50 b48 (o49 + 1) (.slice x43 x43n x43c) fun h51 =>
 stC h51 b48 (o49 + 1 + 1) (.int .i64 x44) fun h52 =>
((!x22) = true →
 (true = true →
 (true = true →
 (true = true →
 (true = true →
 F7_j53 B R y8 (some ⟨r31, 0, none⟩) (some ⟨r46, 0, none⟩) true h52) ∧
(true = false →
 isP (some ⟨r46, 0, none⟩) fun b115 o116 =>
 isP (some ⟨b115, o116 + 1, none⟩) fun b117 o118 => ∃ x119 x119n x119c, cell? h52 ⟨b117, o118, none⟩ = some (.slice x119 x119n x119c) ∧
((decide (((x119n : Nat) : Int) = (1 : Int))) = true →
 isP (some ⟨r46, 0, none⟩) fun b120 o121 =>
 isP (some ⟨b120, o121 + 1, none⟩) fun b122 o123 => ∃ x124 x124n x124c, cell? h52 ⟨b122, o123, none⟩ = some (.slice x124 x124n x124c) ∧
 ixW x124 x124n (0 : Int) 1 fun b125 o126 =>
 isP (some ⟨b125, o126, none⟩) fun b127 o128 => ∃ x129, cell? h52 ⟨b127, o128, none⟩ = some (.int .i64 x129) ∧
 F7_j53 B R y8 (some ⟨r31, 0, none⟩) (some ⟨r46, 0, none⟩) (decide ((67108864 : Int) ≤ x129)) h52) ∧
((decide (((x119n : Nat) : Int) = (1 : Int))) = false →
 F7_j53 B R y8 (some ⟨r31, 0, none⟩) (some ⟨r46, 0, none⟩) false h52))) ∧
(true = false →
 isP (some ⟨r31, 0, none⟩) fun b130 o131 =>
 isP (some ⟨b130, o131 + 1, none⟩) fun b132 o133 => ∃ x134 x134n x134c, cell? h52 ⟨b132, o133, none⟩ = some (.slice x134 x134n x134c) ∧
((decide (((x134n : Nat) : Int) = (1 : Int))) = true →
 isP (some ⟨r31, 0, none⟩) fun b135 o136 =>
 isP (some ⟨b135, o136 + 1, none⟩) fun b137 o138 => ∃ x139 x139n x139c, cell? h52 ⟨b137, o138, none⟩ = some (.slice x139 x139n x139c) ∧
 ixW x139 x139n (0 : Int) 1 fun b140 o141 =>
 isP (some ⟨b140, o141, none⟩) fun b142 o143 => ∃ x144, cell? h52 ⟨b142, o143, none⟩ = some (.int .i64 x144) ∧
((decide ((67108864 : Int) ≤ x144)) = true →
 F7_j53 B R y8 (some ⟨r31, 0, none⟩) (some ⟨r46, 0, none⟩) true h52) ∧
((decide ((67108864 : Int) ≤ x144)) = false →
 isP (some ⟨r46, 0, none⟩) fun b145 o146 =>
 isP (some ⟨b145, o146 + 1, none⟩) fun b147 o148 => ∃ x149 x149n x149c, cell? h52 ⟨b147, o148, none⟩ = some (.slice x149 x149n x149c) ∧
((decide (((x149n : Nat) : Int) = (1 : Int))) = true →
 isP (some ⟨r46, 0, none⟩) fun b150 o151 =>
 isP (some ⟨b150, o151 + 1, none⟩) fun b152 o153 => ∃ x154 x154n x154c, cell? h52 ⟨b152, o153, none⟩ = some (.slice x154 x154n x154c) ∧
 ixW x154 x154n (0 : Int) 1 fun b155 o156 =>
 isP (some ⟨b155, o156, none⟩) fun b157 o158 => ∃ x159, cell? h52 ⟨b157, o158, none⟩ = some (.int .i64 x159) ∧
 F7_j53 B R y8 (some ⟨r31, 0, none⟩) (some ⟨r46, 0, none⟩) (decide ((67108864 : Int) ≤ x159)) h52) ∧
((decide (((x149n : Nat) : Int) = (1 : Int))) = false →
 F7_j53 B R y8 (some ⟨r31, 0, none⟩) (some ⟨r46, 0, none⟩) false h52))) ∧
((decide (((x134n : Nat) : Int) = (1 : Int))) = false →
 (false = true →
 F7_j53 B R y8 (some ⟨r31, 0, none⟩) (some ⟨r46, 0, none⟩) true h52) ∧
(false = false →
 isP (some ⟨r46, 0, none⟩) fun b160 o161 =>
 isP (some ⟨b160, o161 + 1, none⟩) fun b162 o163 => ∃ x164 x164n x164c, cell? h52 ⟨b162, o163, none⟩ = some (.slice x164 x164n x164c) ∧
((decide (((x164n : Nat) : Int) = (1 : Int))) = true →
 isP (some ⟨r46, 0, none⟩) fun b165 o166 =>
 isP (some ⟨b165, o166 + 1, none⟩) fun b167 o168 => ∃ x169 x169n x169c, cell? h52 ⟨b167, o168, none⟩ = some (.slice x169 x169n x169c) ∧
 ixW x169 x169n (0 : Int) 1 fun b170 o171 =>
 isP (some ⟨b170, o171, none⟩) fun b172 o173 => ∃ x174, cell? h52 ⟨b172, o173, none⟩ = some (.int .i64 x174) ∧
 F7_j53 B R y8 (some ⟨r31, 0, none⟩) (some ⟨r46, 0, none⟩) (decide ((67108864 : Int) ≤ x174)) h52) ∧
((decide (((x164n : Nat) : Int) = (1 : Int))) = false →
 F7_j53 B R y8 (some ⟨r31, 0, none⟩) (some ⟨r46, 0, none⟩) false h52))))) ∧
(true = false →
 isP (some ⟨r46, 0, none⟩) fun b175 o176 =>
 isP (some ⟨b175, o176 + 1, none⟩) fun b177 o178 => ∃ x179 x179n x179c, cell? h52 ⟨b177, o178, none⟩ = some (.slice x179 x179n x179c) ∧
((decide ((1 : Int) < ((x179n : Nat) : Int))) = true →
 (true = true →
 F7_j53 B R y8 (some ⟨r31, 0, none⟩) (some ⟨r46, 0, none⟩) true h52) ∧
(true = false →
 isP (some ⟨r46, 0, none⟩) fun b180 o181 =>
 isP (some ⟨b180, o181 + 1, none⟩) fun b182 o183 => ∃ x184 x184n x184c, cell? h52 ⟨b182, o183, none⟩ = some (.slice x184 x184n x184c) ∧
((decide (((x184n : Nat) : Int) = (1 : Int))) = true →
 isP (some ⟨r46, 0, none⟩) fun b185 o186 =>
 isP (some ⟨b185, o186 + 1, none⟩) fun b187 o188 => ∃ x189 x189n x189c, cell? h52 ⟨b187, o188, none⟩ = some (.slice x189 x189n x189c) ∧
 ixW x189 x189n (0 : Int) 1 fun b190 o191 =>
 isP (some ⟨b190, o191, none⟩) fun b192 o193 => ∃ x194, cell? h52 ⟨b192, o193, none⟩ = some (.int .i64 x194) ∧
 F7_j53 B R y8 (some ⟨r31, 0, none⟩) (some ⟨r46, 0, none⟩) (decide ((67108864 : Int) ≤ x194)) h52) ∧
((decide (((x184n : Nat) : Int) = (1 : Int))) = false →
 F7_j53 B R y8 (some ⟨r31, 0, none⟩) (some ⟨r46, 0, none⟩) false h52))) ∧
((decide ((1 : Int) < ((x179n : Nat) : Int))) = false →
 isP (some ⟨r31, 0, none⟩) fun b195 o196 =>
 isP (some ⟨b195, o196 + 1, none⟩) fun b197 o198 => ∃ x199 x199n x199c, cell? h52 ⟨b197, o198, none⟩ = some (.slice x199 x199n x199c) ∧
((decide (((x199n : Nat) : Int) = (1 : Int))) = true →
 isP (some ⟨r31, 0, none⟩) fun b200 o201 =>
 isP (some ⟨b200, o201 + 1, none⟩) fun b202 o203 => ∃ x204 x204n x204c, cell? h52 ⟨b202, o203, none⟩ = some (.slice x204 x204n x204c) ∧
 ixW x204 x204n (0 : Int) 1 fun b205 o206 =>
 isP (some ⟨b205, o206, none⟩) fun b207 o208 => ∃ x209, cell? h52 ⟨b207, o208, none⟩ = some (.int .i64 x209) ∧
((decide ((67108864 : Int) ≤ x209)) = true →
 F7_j53 B R y8 (some ⟨r31, 0, none⟩) (some ⟨r46, 0, none⟩) true h52) ∧
((decide ((67108864 : Int) ≤ x209)) = false →
 isP (some ⟨r46, 0, none⟩) fun b210 o211 =>
 isP (some ⟨b210, o211 + 1, none⟩) fun b212 o213 => ∃ x214 x214n x214c, cell? h52 ⟨b212, o213, none⟩ = some (.slice x214 x214n x214c) ∧
((decide (((x214n : Nat) : Int) = (1 : Int))) = true →
 isP (some ⟨r46, 0, none⟩) fun b215 o216 =>
 isP (some ⟨b215, o216 + 1, none⟩) fun b217 o218 => ∃ x219 x219n x219c, cell? h52 ⟨b217, o218, none⟩ = some (.slice x219 x219n x219c) ∧
 ixW x219 x219n (0 : Int) 1 fun b220 o221 =>
 isP (some ⟨b220, o221, none⟩) fun b222 o223 => ∃ x224, cell? h52 ⟨b222, o223, none⟩ = some (.int .i64 x224) ∧
 F7_j53 B R y8 (some ⟨r31, 0, none⟩) (some ⟨r46, 0, none⟩) (decide ((67108864 : Int) ≤ x224)) h52) ∧
((decide (((x214n : Nat) : Int) = (1 : Int))) = false →
 F7_j53 B R y8 (some ⟨r31, 0, none⟩) (some ⟨r46, 0, none⟩) false h52))) ∧
((decide (((x199n : Nat) : Int) = (1 : Int))) = false →
 (false = true →
 F7_j53 B R y8 (some ⟨r31, 0, none⟩) (some ⟨r46, 0, none⟩) true h52) ∧
(false = false →
 isP (some ⟨r46, 0, none⟩) fun b225 o226 =>
 isP (some ⟨b225, o226 + 1, none⟩) fun b227 o228 => ∃ x229 x229n x229c, cell? h52 ⟨b227, o228, none⟩ = some (.slice x229 x229n x229c) ∧
((decide (((x229n : Nat) : Int) = (1 : Int))) = true →
 isP (some ⟨r46, 0, none⟩) fun b230 o231 =>
 isP (some ⟨b230, o231 + 1, none⟩) fun b232 o233 => ∃ x234 x234n x234c, cell? h52 ⟨b232, o233, none⟩ = some (.slice x234 x234n x234c) ∧
 ixW x234 x234n (0 : Int) 1 fun b235 o236 =>
 isP (some ⟨b235, o236, none⟩) fun b237 o238 => ∃ x239, cell? h52 ⟨b237, o238, none⟩ = some (.int .i64 x239) ∧
 F7_j53 B R y8 (some ⟨r31, 0, none⟩) (some ⟨r46, 0, none⟩) (decide ((67108864 : Int) ≤ x239)) h52) ∧
((decide (((x229n : Nat) : Int) = (1 : Int))) = false →
 F7_j53 B R y8 (some ⟨r31, 0, none⟩) (some ⟨r46, 0, none⟩) false h52)))))) ∧
(true = false →
 isP (some ⟨r31, 0, none⟩) fun b240 o241 =>
 isP (some ⟨b240, o241 + 1, none⟩) fun b242 o243 => ∃ x244 x244n x244c, cell? h52 ⟨b242, o243, none⟩ = some (.slice x244 x244n x244c) ∧
((decide ((1 : Int) < ((x244n : Nat) : Int))) = true →
 (true = true →
 (true = true →
 F7_j53 B R y8 (some ⟨r31, 0, none⟩) (some ⟨r46, 0, none⟩) true h52) ∧
(true = false →
 isP (some ⟨r46, 0, none⟩) fun b245 o246 =>
 isP (some ⟨b245, o246 + 1, none⟩) fun b247 o248 => ∃ x249 x249n x249c, cell? h52 ⟨b247, o248, none⟩ = some (.slice x249 x249n x249c) ∧
((decide (((x249n : Nat) : Int) = (1 : Int))) = true →
 isP (some ⟨r46, 0, none⟩) fun b250 o251 =>
 isP (some ⟨b250, o251 + 1, none⟩) fun b252 o253 => ∃ x254 x254n x254c, cell? h52 ⟨b252, o253, none⟩ = some (.slice x254 x254n x254c) ∧
 ixW x254 x254n (0 : Int) 1 fun b255 o256 =>
 isP (some ⟨b255, o256, none⟩) fun b257 o258 => ∃ x259, cell? h52 ⟨b257, o258, none⟩ = some (.int .i64 x259) ∧
 F7_j53 B R y8 (some ⟨r31, 0, none⟩) (some ⟨r46, 0, none⟩) (decide ((67108864 : Int) ≤ x259)) h52) ∧
((decide (((x249n : Nat) : Int) = (1 : Int))) = false →
 F7_j53 B R y8 (some ⟨r31, 0, none⟩) (some ⟨r46, 0, none⟩) false h52))) ∧
(true = false →
 isP (some ⟨r31, 0, none⟩) fun b260 o261 =>
 isP (some ⟨b260, o261 + 1, none⟩) fun b262 o263 => ∃ x264 x264n x264c, cell? h52 ⟨b262, o263, none⟩ = some (.slice x264 x264n x264c) ∧
((decide (((x264n : Nat) : Int) = (1 : Int))) = true →
 isP (some ⟨r31, 0, none⟩) fun b265 o266 =>
 isP (some ⟨b265, o266 + 1, none⟩) fun b267 o268 => ∃ x269 x269n x269c, cell? h52 ⟨b267, o268, none⟩ = some (.slice x269 x269n x269c) ∧
 ixW x269 x269n (0 : Int) 1 fun b270 o271 =>
 isP (some ⟨b270, o271, none⟩) fun b272 o273 => ∃ x274, cell? h52 ⟨b272, o273, none⟩ = some (.int .i64 x274) ∧
((decide ((67108864 : Int) ≤ x274)) = true →
 F7_j53 B R y8 (some ⟨r31, 0, none⟩) (some ⟨r46, 0, none⟩) true h52) ∧
((decide ((67108864 : Int) ≤ x274)) = false →
 isP (some ⟨r46, 0, none⟩) fun b275 o276 =>
 isP (some ⟨b275, o276 + 1, none⟩) fun b277 o278 => ∃ x279 x279n x279c, cell? h52 ⟨b277, o278, none⟩ = some (.slice x279 x279n x279c) ∧
((decide (((x279n : Nat) : Int) = (1 : Int))) = true →
 isP (some ⟨r46, 0, none⟩) fun b280 o281 =>
 isP (some ⟨b280, o281 + 1, none⟩) fun b282 o283 => ∃ x284 x284n x284c, cell? h52 ⟨b282, o283, none⟩ = some (.slice x284 x284n x284c) ∧
 ixW x284 x284n (0 : Int) 1 fun b285 o286 =>
 isP (some ⟨b285, o286, none⟩) fun b287 o288 => ∃ x289, cell? h52 ⟨b287, o288, none⟩ = some (.int .i64 x289) ∧
 F7_j53 B R y8 (some ⟨r31, 0, none⟩) (some ⟨r46, 0, none⟩) (decide ((67108864 : Int) ≤ x289)) h52) ∧
((decide (((x279n : Nat) : Int) = (1 : Int))) = false →
 F7_j53 B R y8 (some ⟨r31, 0, none⟩) (some ⟨r46, 0, none⟩) false h52))) ∧
((decide (((x264n : Nat) : Int) = (1 : Int))) = false →
 (false = true →
 F7_j53 B R y8 (some ⟨r31, 0, none⟩) (some ⟨r46, 0, none⟩) true h52) ∧
(false = false →
 isP (some ⟨r46, 0, none⟩) fun b290 o291 =>
 isP (some ⟨b290, o291 + 1, none⟩) fun b292 o293 => ∃ x294 x294n x294c, cell? h52 ⟨b292, o293, none⟩ = some (.slice x294 x294n x294c) ∧
((decide (((x294n : Nat) : Int) = (1 : Int))) = true →
 isP (some ⟨r46, 0, none⟩) fun b295 o296 =>
 isP (some ⟨b295, o296 + 1, none⟩) fun b297 o298 => ∃ x299 x299n x299c, cell? h52 ⟨b297, o298, none⟩ = some (.slice x299 x299n x299c) ∧
 ixW x299 x299n (0 : Int) 1 fun b300 o301 =>
 isP (some ⟨b300, o301, none⟩) fun b302 o303 => ∃ x304, cell? h52 ⟨b302, o303, none⟩ = some (.int .i64 x304) ∧
 F7_j53 B R y8 (some ⟨r31, 0, none⟩) (some ⟨r46, 0, none⟩) (decide ((67108864 : Int) ≤ x304)) h52) ∧
((decide (((x294n : Nat) : Int) = (1 : Int))) = false →
 F7_j53 B R y8 (some ⟨r31, 0, none⟩) (some ⟨r46, 0, none⟩) false h52))))) ∧
((decide ((1 : Int) < ((x244n : Nat) : Int))) = false →
 isP (some ⟨r46, 0, none⟩) fun b305 o306 =>
 isP (some ⟨b305, o306 + 1, none⟩) fun b307 o308 => ∃ x309 x309n x309c, cell? h52 ⟨b307, o308, none⟩ = some (.slice x309 x309n x309c) ∧
((decide ((1 : Int) < ((x309n : Nat) : Int))) = true →
 (true = true →
 F7_j53 B R y8 (some ⟨r31, 0, none⟩) (some ⟨r46, 0, none⟩) true h52) ∧
(true = false →
 isP (some ⟨r46, 0, none⟩) fun b310 o311 =>
 isP (some ⟨b310, o311 + 1, none⟩) fun b312 o313 => ∃ x314 x314n x314c, cell? h52 ⟨b312, o313, none⟩ = some (.slice x314 x314n x314c) ∧
((decide (((x314n : Nat) : Int) = (1 : Int))) = true →
 isP (some ⟨r46, 0, none⟩) fun b315 o316 =>
 isP (some ⟨b315, o316 + 1, none⟩) fun b317 o318 => ∃ x319 x319n x319c, cell? h52 ⟨b317, o318, none⟩ = some (.slice x319 x319n x319c) ∧
 ixW x319 x319n (0 : Int) 1 fun b320 o321 =>
 isP (some ⟨b320, o321, none⟩) fun b322 o323 => ∃ x324, cell? h52 ⟨b322, o323, none⟩ = some (.int .i64 x324) ∧
 F7_j53 B R y8 (some ⟨r31, 0, none⟩) (some ⟨r46, 0, none⟩) (decide ((67108864 : Int) ≤ x324)) h52) ∧
((decide (((x314n : Nat) : Int) = (1 : Int))) = false →
 F7_j53 B R y8 (some ⟨r31, 0, none⟩) (some ⟨r46, 0, none⟩) false h52))) ∧
((decide ((1 : Int) < ((x309n : Nat) : Int))) = false →
 isP (some ⟨r31, 0, none⟩) fun b325 o326 =>
 isP (some ⟨b325, o326 + 1, none⟩) fun b327 o328 => ∃ x329 x329n x329c, cell? h52 ⟨b327, o328, none⟩ = some (.slice x329 x329n x329c) ∧
((decide (((x329n : Nat) : Int) = (1 : Int))) = true →
 isP (some ⟨r31, 0, none⟩) fun b330 o331 =>
 isP (some ⟨b330, o331 + 1, none⟩) fun b332 o333 => ∃ x334 x334n x334c, cell? h52 ⟨b332, o333, none⟩ = some (.slice x334 x334n x334c) ∧
 ixW x334 x334n (0 : Int) 1 fun b335 o336 =>
 isP (some ⟨b335, o336, none⟩) fun b337 o338 => ∃ x339, cell? h52 ⟨b337, o338, none⟩ = some (.int .i64 x339) ∧
((decide ((67108864 : Int) ≤ x339)) = true →
 F7_j53 B R y8 (some ⟨r31, 0, none⟩) (some ⟨r46, 0, none⟩) true h52) ∧
((decide ((67108864 : Int) ≤ x339)) = false →
 isP (some ⟨r46, 0, none⟩) fun b340 o341 =>
 isP (some ⟨b340, o341 + 1, none⟩) fun b342 o343 => ∃ x344 x344n x344c, cell? h52 ⟨b342, o343, none⟩ = some (.slice x344 x344n x344c) ∧
((decide (((x344n : Nat) : Int) = (1 : Int))) = true →
 isP (some ⟨r46, 0, none⟩) fun b345 o346 =>
 isP (some ⟨b345, o346 + 1, none⟩) fun b347 o348 => ∃ x349 x349n x349c, cell? h52 ⟨b347, o348, none⟩ = some (.slice x349 x349n x349c) ∧
 ixW x349 x349n (0 : Int) 1 fun b350 o351 =>
 isP (some ⟨b350, o351, none⟩) fun b352 o353 => ∃ x354, cell? h52 ⟨b352, o353, none⟩ = some (.int .i64 x354) ∧
 F7_j53 B R y8 (some ⟨r31, 0, none⟩) (some ⟨r46, 0, none⟩) (decide ((67108864 : Int) ≤ x354)) h52) ∧
((decide (((x344n : Nat) : Int) = (1 : Int))) = false →
 F7_j53 B R y8 (some ⟨r31, 0, none⟩) (some ⟨r46, 0, none⟩) false h52))) ∧
((decide (((x329n : Nat) : Int) = (1 : Int))) = false →
 (false = true →
 F7_j53 B R y8 (some ⟨r31, 0, none⟩) (some ⟨r46, 0, none⟩) true h52) ∧
(false = false →
 isP (some ⟨r46, 0, none⟩) fun b355 o356 =>
 isP (some ⟨b355, o356 + 1, none⟩) fun b357 o358 => ∃ x359 x359n x359c, cell? h52 ⟨b357, o358, none⟩ = some (.slice x359 x359n x359c) ∧
((decide (((x359n : Nat) : Int) = (1 : Int))) = true →
 isP (some ⟨r46, 0, none⟩) fun b360 o361 =>
 isP (some ⟨b360, o361 + 1, none⟩) fun b362 o363 => ∃ x364 x364n x364c, cell? h52 ⟨b362, o363, none⟩ = some (.slice x364 x364n x364c) ∧
 ixW x364 x364n (0 : Int) 1 fun b365 o366 =>
 isP (some ⟨b365, o366, none⟩) fun b367 o368 => ∃ x369, cell? h52 ⟨b367, o368, none⟩ = some (.int .i64 x369) ∧
 F7_j53 B R y8 (some ⟨r31, 0, none⟩) (some ⟨r46, 0, none⟩) (decide ((67108864 : Int) ≤ x369)) h52) ∧
((decide (((x359n : Nat) : Int) = (1 : Int))) = false →
 F7_j53 B R y8 (some ⟨r31, 0, none⟩) (some ⟨r46, 0, none⟩) false h52))))))) ∧
((!x22) = false →
 ((!decide ((IntKind.i64.wrap (x30 + x45)) = (0 : Int))) = true →
 (true = true →
 (true = true →
 (true = true →
 F7_j53 B R y8 (some ⟨r31, 0, none⟩) (some ⟨r46, 0, none⟩) true h52) ∧
(true = false →
 isP (some ⟨r46, 0, none⟩) fun b370 o371 =>
 isP (some ⟨b370, o371 + 1, none⟩) fun b372 o373 => ∃ x374 x374n x374c, cell? h52 ⟨b372, o373, none⟩ = some (.slice x374 x374n x374c) ∧
((decide (((x374n : Nat) : Int) = (1 : Int))) = true →
 isP (some ⟨r46, 0, none⟩) fun b375 o376 =>
 isP (some ⟨b375, o376 + 1, none⟩) fun b377 o378 => ∃ x379 x379n x379c, cell? h52 ⟨b377, o378, none⟩ = some (.slice x379 x379n x379c) ∧
 ixW x379 x379n (0 : Int) 1 fun b380 o381 =>
 isP (some ⟨b380, o381, none⟩) fun b382 o383 => ∃ x384, cell? h52 ⟨b382, o383, none⟩ = some (.int .i64 x384) ∧
 F7_j53 B R y8 (some ⟨r31, 0, none⟩) (some ⟨r46, 0, none⟩) (decide ((67108864 : Int) ≤ x384)) h52) ∧
((decide (((x374n : Nat) : Int) = (1 : Int))) = false →
 F7_j53 B R y8 (some ⟨r31, 0, none⟩) (some ⟨r46, 0, none⟩) false h52))) ∧
(true = false →
 isP (some ⟨r31, 0, none⟩) fun b385 o386 =>
 isP (some ⟨b385, o386 + 1, none⟩) fun b387 o388 => ∃ x389 x389n x389c, cell? h52 ⟨b387, o388, none⟩ = some (.slice x389 x389n x389c) ∧
((decide (((x389n : Nat) : Int) = (1 : Int))) = true →
 isP (some ⟨r31, 0, none⟩) fun b390 o391 =>
 isP (some ⟨b390, o391 + 1, none⟩) fun b392 o393 => ∃ x394 x394n x394c, cell? h52 ⟨b392, o393, none⟩ = some (.slice x394 x394n x394c) ∧
 ixW x394 x394n (0 : Int) 1 fun b395 o396 =>
 isP (some ⟨b395, o396, none⟩) fun b397 o398 => ∃ x399, cell? h52 ⟨b397, o398, none⟩ = some (.int .i64 x399) ∧
((decide ((67108864 : Int) ≤ x399)) = true →
 F7_j53 B R y8 (some ⟨r31, 0, none⟩) (some ⟨r46, 0, none⟩) true h52) ∧
((decide ((67108864 : Int) ≤ x399)) = false →
 isP (some ⟨r46, 0, none⟩) fun b400 o401 =>
 isP (some ⟨b400, o401 + 1, none⟩) fun b402 o403 => ∃ x404 x404n x404c, cell? h52 ⟨b402, o403, none⟩ = some (.slice x404 x404n x404c) ∧
((decide (((x404n : Nat) : Int) = (1 : Int))) = true →
 isP (some ⟨r46, 0, none⟩) fun b405 o406 =>
 isP (some ⟨b405, o406 + 1, none⟩) fun b407 o408 => ∃ x409 x409n x409c, cell? h52 ⟨b407, o408, none⟩ = some (.slice x409 x409n x409c) ∧
 ixW x409 x409n (0 : Int) 1 fun b410 o411 =>
 isP (some ⟨b410, o411, none⟩) fun b412 o413 => ∃ x414, cell? h52 ⟨b412, o413, none⟩ = some (.int .i64 x414) ∧
 F7_j53 B R y8 (some ⟨r31, 0, none⟩) (some ⟨r46, 0, none⟩) (decide ((67108864 : Int) ≤ x414)) h52) ∧
((decide (((x404n : Nat) : Int) = (1 : Int))) = false →
 F7_j53 B R y8 (some ⟨r31, 0, none⟩) (some ⟨r46, 0, none⟩) false h52))) ∧
((decide (((x389n : Nat) : Int) = (1 : Int))) = false →
 (false = true →
 F7_j53 B R y8 (some ⟨r31, 0, none⟩) (some ⟨r46, 0, none⟩) true h52) ∧
(false = false →
 isP (some ⟨r46, 0, none⟩) fun b415 o416 =>
 isP (some ⟨b415, o416 + 1, none⟩) fun b417 o418 => ∃ x419 x419n x419c, cell? h52 ⟨b417, o418, none⟩ = some (.slice x419 x419n x419c) ∧
((decide (((x419n : Nat) : Int) = (1 : Int))) = true →
 isP (some ⟨r46, 0, none⟩) fun b420 o421 =>
 isP (some ⟨b420, o421 + 1, none⟩) fun b422 o423 => ∃ x424 x424n x424c, cell? h52 ⟨b422, o423, none⟩ = some (.slice x424 x424n x424c) ∧
 ixW x424 x424n (0 : Int) 1 fun b425 o426 =>
 isP (some ⟨b425, o426, none⟩) fun b427 o428 => ∃ x429, cell? h52 ⟨b427, o428, none⟩ = some (.int .i64 x429) ∧
 F7_j53 B R y8 (some ⟨r31, 0, none⟩) (some ⟨r46, 0, none⟩) (decide ((67108864 : Int) ≤ x429)) h52) ∧
((decide (((x419n : Nat) : Int) = (1 : Int))) = false →
 F7_j53 B R y8 (some ⟨r31, 0, none⟩) (some ⟨r46, 0, none⟩) false h52))))) ∧
(true = false →
 isP (some ⟨r46, 0, none⟩) fun b430 o431 =>
 isP (some ⟨b430, o431 + 1, none⟩) fun b432 o433 => ∃ x434 x434n x434c, cell? h52 ⟨b432, o433, none⟩ = some (.slice x434 x434n x434c) ∧
((decide ((1 : Int) < ((x434n : Nat) : Int))) = true →
 (true = true →
 F7_j53 B R y8 (some ⟨r31, 0, none⟩) (some ⟨r46, 0, none⟩) true h52) ∧
(true = false →
 isP (some ⟨r46, 0, none⟩) fun b435 o436 =>
 isP (some ⟨b435, o436 + 1, none⟩) fun b437 o438 => ∃ x439 x439n x439c, cell? h52 ⟨b437, o438, none⟩ = some (.slice x439 x439n x439c) ∧
((decide (((x439n : Nat) : Int) = (1 : Int))) = true →
 isP (some ⟨r46, 0, none⟩) fun b440 o441 =>
 isP (some ⟨b440, o441 + 1, none⟩) fun b442 o443 => ∃ x444 x444n x444c, cell? h52 ⟨b442, o443, none⟩ = some (.slice x444 x444n x444c) ∧
 ixW x444 x444n (0 : Int) 1 fun b445 o446 =>
 isP (some ⟨b445, o446, none⟩) fun b447 o448 => ∃ x449, cell? h52 ⟨b447, o448, none⟩ = some (.int .i64 x449) ∧
 F7_j53 B R y8 (some ⟨r31, 0, none⟩) (some ⟨r46, 0, none⟩) (decide ((67108864 : Int) ≤ x449)) h52) ∧
((decide (((x439n : Nat) : Int) = (1 : Int))) = false →
 F7_j53 B R y8 (some ⟨r31, 0, none⟩) (some ⟨r46, 0, none⟩) false h52))) ∧
((decide ((1 : Int) < ((x434n : Nat) : Int))) = false →
 isP (some ⟨r31, 0, none⟩) fun b450 o451 =>
 isP (some ⟨b450, o451 + 1, none⟩) fun b452 o453 => ∃ x454 x454n x454c, cell? h52 ⟨b452, o453, none⟩ = some (.slice x454 x454n x454c) ∧
((decide (((x454n : Nat) : Int) = (1 : Int))) = true →
 isP (some ⟨r31, 0, none⟩) fun b455 o456 =>
 isP (some ⟨b455, o456 + 1, none⟩) fun b457 o458 => ∃ x459 x459n x459c, cell? h52 ⟨b457, o458, none⟩ = some (.slice x459 x459n x459c) ∧
 ixW x459 x459n (0 : Int) 1 fun b460 o461 =>
 isP (some ⟨b460, o461, none⟩) fun b462 o463 => ∃ x464, cell? h52 ⟨b462, o463, none⟩ = some (.int .i64 x464) ∧
((decide ((67108864 : Int) ≤ x464)) = true →
 F7_j53 B R y8 (some ⟨r31, 0, none⟩) (some ⟨r46, 0, none⟩) true h52) ∧
((decide ((67108864 : Int) ≤ x464)) = false →
 isP (some ⟨r46, 0, none⟩) fun b465 o466 =>
 isP (some ⟨b465, o466 + 1, none⟩) fun b467 o468 => ∃ x469 x469n x469c, cell? h52 ⟨b467, o468, none⟩ = some (.slice x469 x469n x469c) ∧
((decide (((x469n : Nat) : Int) = (1 : Int))) = true →
 isP (some ⟨r46, 0, none⟩) fun b470 o471 =>
 isP (some ⟨b470, o471 + 1, none⟩) fun b472 o473 => ∃ x474 x474n x474c, cell? h52 ⟨b472, o473, none⟩ = some (.slice x474 x474n x474c) ∧
 ixW x474 x474n (0 : Int) 1 fun b475 o476 =>
 isP (some ⟨b475, o476, none⟩) fun b477 o478 => ∃ x479, cell? h52 ⟨b477, o478, none⟩ = some (.int .i64 x479) ∧
 F7_j53 B R y8 (some ⟨r31, 0, none⟩) (some ⟨r46, 0, none⟩) (decide ((67108864 : Int) ≤ x479)) h52) ∧
((decide (((x469n : Nat) : Int) = (1 : Int))) = false →
 F7_j53 B R y8 (some ⟨r31, 0, none⟩) (some ⟨r46, 0, none⟩) false h52))) ∧
((decide (((x454n : Nat) : Int) = (1 : Int))) = false →
 (false = true →
 F7_j53 B R y8 (some ⟨r31, 0, none⟩) (some ⟨r46, 0, none⟩) true h52) ∧
(false = false →
 isP (some ⟨r46, 0, none⟩) fun b480 o481 =>
 isP (some ⟨b480, o481 + 1, none⟩) fun b482 o483 => ∃ x484 x484n x484c, cell? h52 ⟨b482, o483, none⟩ = some (.slice x484 x484n x484c) ∧
((decide (((x484n : Nat) : Int) = (1 : Int))) = true →
 isP (some ⟨r46, 0, none⟩) fun b485 o486 =>
 isP (some ⟨b485, o486 + 1, none⟩) fun b487 o488 => ∃ x489 x489n x489c, cell? h52 ⟨b487, o488, none⟩ = some (.slice x489 x489n x489c) ∧
 ixW x489 x489n (0 : Int) 1 fun b490 o491 =>
 isP (some ⟨b490, o491, none⟩) fun b492 o493 => ∃ x494, cell? h52 ⟨b492, o493, none⟩ = some (.int .i64 x494) ∧
 F7_j53 B R y8 (some ⟨r31, 0, none⟩) (some ⟨r46, 0, none⟩) (decide ((67108864 : Int) ≤ x494)) h52) ∧
((decide (((x484n : Nat) : Int) = (1 : Int))) = false →
 F7_j53 B R y8 (some ⟨r31, 0, none⟩) (some ⟨r46, 0, none⟩) false h52)))))) ∧
((!decide ((IntKind.i64.wrap (x30 + x45)) = (0 : Int))) = false →
 isP (some ⟨r31, 0, none⟩) fun b495 o496 =>
 isP (some ⟨b495, o496 + 1, none⟩) fun b497 o498 => ∃ x499 x499n x499c, cell? h52 ⟨b497, o498, none⟩ = some (.slice x499 x499n x499c) ∧
((decide ((1 : Int) < ((x499n : Nat) : Int))) = true →
 (true = true →
 (true = true →
 F7_j53 B R y8 (some ⟨r31, 0, none⟩) (some ⟨r46, 0, none⟩) true h52) ∧
(true = false →
 isP (some ⟨r46, 0, none⟩) fun b500 o501 =>
 isP (some ⟨b500, o501 + 1, none⟩) fun b502 o503 => ∃ x504 x504n x504c, cell? h52 ⟨b502, o503, none⟩ = some (.slice x504 x504n x504c) ∧
((decide (((x504n : Nat) : Int) = (1 : Int))) = true →
 isP (some ⟨r46, 0, none⟩) fun b505 o506 =>
 isP (some ⟨b505, o506 + 1, none⟩) fun b507 o508 => ∃ x509 x509n x509c, cell? h52 ⟨b507, o508, none⟩ = some (.slice x509 x509n x509c) ∧
 ixW x509 x509n (0 : Int) 1 fun b510 o511 =>
 isP (some ⟨b510, o511, none⟩) fun b512 o513 => ∃ x514, cell? h52 ⟨b512, o513, none⟩ = some (.int .i64 x514) ∧
 F7_j53 B R y8 (some ⟨r31, 0, none⟩) (some ⟨r46, 0, none⟩) (decide ((67108864 : Int) ≤ x514)) h52) ∧
((decide (((x504n : Nat) : Int) = (1 : Int))) = false →
 F7_j53 B R y8 (some ⟨r31, 0, none⟩) (some ⟨r46, 0, none⟩) false h52))) ∧
(true = false →
 isP (some ⟨r31, 0, none⟩) fun b515 o516 =>
 isP (some ⟨b515, o516 + 1, none⟩) fun b517 o518 => ∃ x519 x519n x519c, cell? h52 ⟨b517, o518, none⟩ = some (.slice x519 x519n x519c) ∧
((decide (((x519n : Nat) : Int) = (1 : Int))) = true →
 isP (some ⟨r31, 0, none⟩) fun b520 o521 =>
 isP (some ⟨b520, o521 + 1, none⟩) fun b522 o523 => ∃ x524 x524n x524c, cell? h52 ⟨b522, o523, none⟩ = some (.slice x524 x524n x524c) ∧
 ixW x524 x524n (0 : Int) 1 fun b525 o526 =>
 isP (some ⟨b525, o526, none⟩) fun b527 o528 => ∃ x529, cell? h52 ⟨b527, o528, none⟩ = some (.int .i64 x529) ∧
((decide ((67108864 : Int) ≤ x529)) = true →
 F7_j53 B R y8 (some ⟨r31, 0, none⟩) (some ⟨r46, 0, none⟩) true h52) ∧
((decide ((67108864 : Int) ≤ x529)) = false →
 isP (some ⟨r46, 0, none⟩) fun b530 o531 =>
 isP (some ⟨b530, o531 + 1, none⟩) fun b532 o533 => ∃ x534 x534n x534c, cell? h52 ⟨b532, o533, none⟩ = some (.slice x534 x534n x534c) ∧
((decide (((x534n : Nat) : Int) = (1 : Int))) = true →
 isP (some ⟨r46, 0, none⟩) fun b535 o536 =>
 isP (some ⟨b535, o536 + 1, none⟩) fun b537 o538 => ∃ x539 x539n x539c, cell? h52 ⟨b537, o538, none⟩ = some (.slice x539 x539n x539c) ∧
 ixW x539 x539n (0 : Int) 1 fun b540 o541 =>
 isP (some ⟨b540, o541, none⟩) fun b542 o543 => ∃ x544, cell? h52 ⟨b542, o543, none⟩ = some (.int .i64 x544) ∧
 F7_j53 B R y8 (some ⟨r31, 0, none⟩) (some ⟨r46, 0, none⟩) (decide ((67108864 : Int) ≤ x544)) h52) ∧
((decide (((x534n : Nat) : Int) = (1 : Int))) = false →
 F7_j53 B R y8 (some ⟨r31, 0, none⟩) (some ⟨r46, 0, none⟩) false h52))) ∧
((decide (((x519n : Nat) : Int) = (1 : Int))) = false →
 (false = true →
 F7_j53 B R y8 (some ⟨r31, 0, none⟩) (some ⟨r46, 0, none⟩) true h52) ∧
(false = false →
 isP (some ⟨r46, 0, none⟩) fun b545 o546 =>
 isP (some ⟨b545, o546 + 1, none⟩) fun b547 o548 => ∃ x549 x549n x549c, cell? h52 ⟨b547, o548, none⟩ = some (.slice x549 x549n x549c) ∧
((decide (((x549n : Nat) : Int) = (1 : Int))) = true →
 isP (some ⟨r46, 0, none⟩) fun b550 o551 =>
 isP (some ⟨b550, o551 + 1, none⟩) fun b552 o553 => ∃ x554 x554n x554c, cell? h52 ⟨b552, o553, none⟩ = some (.slice x554 x554n x554c) ∧
 ixW x554 x554n (0 : Int) 1 fun b555 o556 =>
 isP (some ⟨b555, o556, none⟩) fun b557 o558 => ∃ x559, cell? h52 ⟨b557, o558, none⟩ = some (.int .i64 x559) ∧
 F7_j53 B R y8 (some ⟨r31, 0, none⟩) (some ⟨r46, 0, none⟩) (decide ((67108864 : Int) ≤ x559)) h52) ∧
((decide (((x549n : Nat) : Int) = (1 : Int))) = false →
 F7_j53 B R y8 (some ⟨r31, 0, none⟩) (some ⟨r46, 0, none⟩) false h52))))) ∧
((decide ((1 : Int) < ((x499n : Nat) : Int))) = false →
 isP (some ⟨r46, 0, none⟩) fun b560 o561 =>
 isP (some ⟨b560, o561 + 1, none⟩) fun b562 o563 => ∃ x564 x564n x564c, cell? h52 ⟨b562, o563, none⟩ = some (.slice x564 x564n x564c) ∧
((decide ((1 : Int) < ((x564n : Nat) : Int))) = true →
 (true = true →
 F7_j53 B R y8 (some ⟨r31, 0, none⟩) (some ⟨r46, 0, none⟩) true h52) ∧
(true = false →
 isP (some ⟨r46, 0, none⟩) fun b565 o566 =>
 isP (some ⟨b565, o566 + 1, none⟩) fun b567 o568 => ∃ x569 x569n x569c, cell? h52 ⟨b567, o568, none⟩ = some (.slice x569 x569n x569c) ∧
((decide (((x569n : Nat) : Int) = (1 : Int))) = true →
 isP (some ⟨r46, 0, none⟩) fun b570 o571 =>
 isP (some ⟨b570, o571 + 1, none⟩) fun b572 o573 => ∃ x574 x574n x574c, cell? h52 ⟨b572, o573, none⟩ = some (.slice x574 x574n x574c) ∧
 ixW x574 x574n (0 : Int) 1 fun b575 o576 =>
 isP (some ⟨b575, o576, none⟩) fun b577 o578 => ∃ x579, cell? h52 ⟨b577, o578, none⟩ = some (.int .i64 x579) ∧
 F7_j53 B R y8 (some ⟨r31, 0, none⟩) (some ⟨r46, 0, none⟩) (decide ((67108864 : Int) ≤ x579)) h52) ∧
((decide (((x569n : Nat) : Int) = (1 : Int))) = false →
 F7_j53 B R y8 (some ⟨r31, 0, none⟩) (some ⟨r46, 0, none⟩) false h52))) ∧
((decide ((1 : Int) < ((x564n : Nat) : Int))) = false →
 isP (some ⟨r31, 0, none⟩) fun b580 o581 =>
 isP (some ⟨b580, o581 + 1, none⟩) fun b582 o583 => ∃ x584 x584n x584c, cell? h52 ⟨b582, o583, none⟩ = some (.slice x584 x584n x584c) ∧
((decide (((x584n : Nat) : Int) = (1 : Int))) = true →
 isP (some ⟨r31, 0, none⟩) fun b585 o586 =>
 isP (some ⟨b585, o586 + 1, none⟩) fun b587 o588 => ∃ x589 x589n x589c, cell? h52 ⟨b587, o588, none⟩ = some (.slice x589 x589n x589c) ∧
 ixW x589 x589n (0 : Int) 1 fun b590 o591 =>
 isP (some ⟨b590, o591, none⟩) fun b592 o593 => ∃ x594, cell? h52 ⟨b592, o593, none⟩ = some (.int .i64 x594) ∧
((decide ((67108864 : Int) ≤ x594)) = true →
 F7_j53 B R y8 (some ⟨r31, 0, none⟩) (some ⟨r46, 0, none⟩) true h52) ∧
((decide ((67108864 : Int) ≤ x594)) = false →
 isP (some ⟨r46, 0, none⟩) fun b595 o596 =>
 isP (some ⟨b595, o596 + 1, none⟩) fun b597 o598 => ∃ x599 x599n x599c, cell? h52 ⟨b597, o598, none⟩ = some (.slice x599 x599n x599c) ∧
((decide (((x599n : Nat) : Int) = (1 : Int))) = true →
 isP (some ⟨r46, 0, none⟩) fun b600 o601 =>
 isP (some ⟨b600, o601 + 1, none⟩) fun b602 o603 => ∃ x604 x604n x604c, cell? h52 ⟨b602, o603, none⟩ = some (.slice x604 x604n x604c) ∧
 ixW x604 x604n (0 : Int) 1 fun b605 o606 =>
 isP (some ⟨b605, o606, none⟩) fun b607 o608 => ∃ x609, cell? h52 ⟨b607, o608, none⟩ = some (.int .i64 x609) ∧
 F7_j53 B R y8 (some ⟨r31, 0, none⟩) (some ⟨r46, 0, none⟩) (decide ((67108864 : Int) ≤ x609)) h52) ∧
((decide (((x599n : Nat) : Int) = (1 : Int))) = false →
 F7_j53 B R y8 (some ⟨r31, 0, none⟩) (some ⟨r46, 0, none⟩) false h52))) ∧
((decide (((x584n : Nat) : Int) = (1 : Int))) = false →
 (false = true →
 F7_j53 B R y8 (some ⟨r31, 0, none⟩) (some ⟨r46, 0, none⟩) true h52) ∧
(false = false →
 isP (some ⟨r46, 0, none⟩) fun b610 o611 =>
 isP (some ⟨b610, o611 + 1, none⟩) fun b612 o613 => ∃ x614 x614n x614c, cell? h52 ⟨b612, o613, none⟩ = some (.slice x614 x614n x614c) ∧
((decide (((x614n : Nat) : Int) = (1 : Int))) = true →
 isP (some ⟨r46, 0, none⟩) fun b615 o616 =>
 isP (some ⟨b615, o616 + 1, none⟩) fun b617 o618 => ∃ x619 x619n x619c, cell? h52 ⟨b617, o618, none⟩ = some (.slice x619 x619n x619c) ∧
 ixW x619 x619n (0 : Int) 1 fun b620 o621 =>
 isP (some ⟨b620, o621, none⟩) fun b622 o623 => ∃ x624, cell? h52 ⟨b622, o623, none⟩ = some (.int .i64 x624) ∧
 F7_j53 B R y8 (some ⟨r31, 0, none⟩) (some ⟨r46, 0, none⟩) (decide ((67108864 : Int) ≤ x624)) h52) ∧
((decide (((x614n : Nat) : Int) = (1 : Int))) = false →
 F7_j53 B R y8 (some ⟨r31, 0, none⟩) (some ⟨r46, 0, none⟩) false h52))))))))
 (fun ch40 h41 => R (.panicked ch40) h41)) h37)
 (fun ch25 h26 => R (.panicked ch25) h26)) h17)
 (fun ch18 h19 => R (.panicked ch18) h19)) h10)
def F7 (B : World) (R : Ending → Heap → Prop) (a1 : Int) (h : Heap) : Prop :=
  Ent Tryz.prog B 15 #[] (retE (fun v2 h3 => ∃ x6, v2 = .bool x6 ∧
((!x6) = true →
 F7_j7 B R a1 true h3) ∧
((!x6) = false →
 Ent Tryz.prog B 26 #[.int .i64 a1, .int .i64 (996 : Int)] (retE (fun v625 h626 => ∃ x629, v625 = .bool x629 ∧
 F7_j7 B R a1 (!x629) h626)
 (fun ch627 h628 => R (.panicked ch627) h628)) h3))
 (fun ch4 h5 => R (.panicked ch4) h5)) h
def F7_L : Nat → List (Nat × TypeDesc) := fun _ => []
theorem F7_W (B : World) (R : Ending → Heap → Prop) (a1 : Int) (h : Heap) : W Tryz.prog B Tryz.f7.ntmps F7_L (prune [] (codeOf Tryz.f7)) (endQ Tryz.prog Tryz.f7 R) (env0 #[.int .i64 a1]) h = F7 B R a1 h := by kernel_rfl
theorem F7_ok {B : World} {R : Ending → Heap → Prop} (a1 : Int) {h : Heap} (H : F7 B R a1 h) : Ent Tryz.prog B 7 #[.int .i64 a1] R h :=
  Ent_of_W mixed Tryz.func7 (by kernel_rfl) (by kernel_rfl) (by kernel_rfl) F7_L [] (by rw [F7_W]; exact H)

/-- plumb/plumblaw6.size -/
def F26_j24 (B : World) (R : Ending → Heap → Prop) (y25 : Bool) (h26 : Heap) : Prop :=
  R (.returned (.bool y25)) h26
def F26 (B : World) (R : Ending → Heap → Prop) (a1 : Int) (a2 : Int) (h : Heap) : Prop :=
  Ent Tryz.prog B 73 #[.bool false, .int .i64 (1 : Int), .int .i64 a2] (retE (fun v3 h4 => ∃ x7 x8, v3 = .tuple #[.int .i64 x7, .bool x8] ∧
(x8 = true →
 Ent Tryz.prog B 17 #[.int .i64 a1] (retE (fun v9 h10 => ∃ x13, v9 = .int .i64 x13 ∧
((decide (x13 < (3 : Int))) = true →
 Ent Tryz.prog B 33 #[.int .i64 a1] (retE (fun v14 h15 => ∃ x18, v14 = .int .i64 x18 ∧
 Ent Tryz.prog B 32 #[.int .i64 x18, .int .i64 x7] (retE (fun v19 h20 => ∃ x23, v19 = .bool x23 ∧
 F26_j24 B R x23 h20)
 (fun ch21 h22 => R (.panicked ch21) h22)) h15)
 (fun ch16 h17 => R (.panicked ch16) h17)) h10) ∧
((decide (x13 < (3 : Int))) = false →
 F26_j24 B R false h10))
 (fun ch11 h12 => R (.panicked ch11) h12)) h4) ∧
(x8 = false →
 (false = true →
 Ent Tryz.prog B 33 #[.int .i64 a1] (retE (fun v27 h28 => ∃ x31, v27 = .int .i64 x31 ∧
 Ent Tryz.prog B 32 #[.int .i64 x31, .int .i64 x7] (retE (fun v32 h33 => ∃ x36, v32 = .bool x36 ∧
 F26_j24 B R x36 h33)
 (fun ch34 h35 => R (.panicked ch34) h35)) h28)
 (fun ch29 h30 => R (.panicked ch29) h30)) h4) ∧
(false = false →
 F26_j24 B R false h4)))
 (fun ch5 h6 => R (.panicked ch5) h6)) h
def F26_L : Nat → List (Nat × TypeDesc) := fun _ => []
theorem F26_W (B : World) (R : Ending → Heap → Prop) (a1 : Int) (a2 : Int) (h : Heap) : W Tryz.prog B Tryz.f26.ntmps F26_L (prune [] (codeOf Tryz.f26)) (endQ Tryz.prog Tryz.f26 R) (env0 #[.int .i64 a1, .int .i64 a2]) h = F26 B R a1 a2 h := by kernel_rfl
theorem F26_ok {B : World} {R : Ending → Heap → Prop} (a1 : Int) (a2 : Int) {h : Heap} (H : F26 B R a1 a2 h) : Ent Tryz.prog B 26 #[.int .i64 a1, .int .i64 a2] R h :=
  Ent_of_W mixed Tryz.func26 (by kernel_rfl) (by kernel_rfl) (by kernel_rfl) F26_L [] (by rw [F26_W]; exact H)

/-- plumb/bits.Less -/
def F32 (B : World) (R : Ending → Heap → Prop) (a1 : Int) (a2 : Int) (h : Heap) : Prop :=
  Ent Tryz.prog B 54 #[.int .i64 a1] (retE (fun v3 h4 => ∃ x7, v3 = .float .f64 x7 ∧
 Ent Tryz.prog B 54 #[.int .i64 a2] (retE (fun v8 h9 => ∃ x12, v8 = .float .f64 x12 ∧
 R (.returned (.bool (FloatKind.f64.format.order x7 x12 == some .lt))) h9)
 (fun ch10 h11 => R (.panicked ch10) h11)) h4)
 (fun ch5 h6 => R (.panicked ch5) h6)) h
def F32_L : Nat → List (Nat × TypeDesc) := fun _ => []
theorem F32_W (B : World) (R : Ending → Heap → Prop) (a1 : Int) (a2 : Int) (h : Heap) : W Tryz.prog B Tryz.f32.ntmps F32_L (prune [] (codeOf Tryz.f32)) (endQ Tryz.prog Tryz.f32 R) (env0 #[.int .i64 a1, .int .i64 a2]) h = F32 B R a1 a2 h := by kernel_rfl
theorem F32_ok {B : World} {R : Ending → Heap → Prop} (a1 : Int) (a2 : Int) {h : Heap} (H : F32 B R a1 a2 h) : Ent Tryz.prog B 32 #[.int .i64 a1, .int .i64 a2] R h :=
  Ent_of_W mixed Tryz.func32 (by kernel_rfl) (by kernel_rfl) (by kernel_rfl) F32_L [] (by rw [F32_W]; exact H)

/-- plumb/bits.Abs -/
def F33 (B : World) (R : Ending → Heap → Prop) (a1 : Int) (h : Heap) : Prop :=
  Ent Tryz.prog B 17 #[.int .i64 a1] (retE (fun v2 h3 => ∃ x6, v2 = .int .i64 x6 ∧
((decide (x6 = (4 : Int))) = true →
 R (.returned (.int .i64 (9221120237041090561 : Int))) h3) ∧
((decide (x6 = (4 : Int))) = false →
 R (.returned (.int .i64 (bitsI .andNot .i64 a1 (-9223372036854775808 : Int)))) h3))
 (fun ch4 h5 => R (.panicked ch4) h5)) h
def F33_L : Nat → List (Nat × TypeDesc) := fun _ => []
theorem F33_W (B : World) (R : Ending → Heap → Prop) (a1 : Int) (h : Heap) : W Tryz.prog B Tryz.f33.ntmps F33_L (prune [] (codeOf Tryz.f33)) (endQ Tryz.prog Tryz.f33 R) (env0 #[.int .i64 a1]) h = F33 B R a1 h := by kernel_rfl
theorem F33_ok {B : World} {R : Ending → Heap → Prop} (a1 : Int) {h : Heap} (H : F33 B R a1 h) : Ent Tryz.prog B 33 #[.int .i64 a1] R h :=
  Ent_of_W mixed Tryz.func33 (by kernel_rfl) (by kernel_rfl) (by kernel_rfl) F33_L [] (by rw [F33_W]; exact H)

/-- plumb/bits.Join -/
def F73_j24 (B : World) (R : Ending → Heap → Prop) (y25 : Nat) (h26 : Heap) : Prop :=
  Ent Tryz.prog B 56 #[.float .f64 y25] (retE (fun v27 h28 => ∃ x31, v27 = .int .i64 x31 ∧
 R (.returned (.tuple #[.int .i64 x31, .bool true])) h28)
 (fun ch29 h30 => R (.panicked ch29) h30)) h26
def F73 (B : World) (R : Ending → Heap → Prop) (a1 : Bool) (a2 : Int) (a3 : Int) (h : Heap) : Prop :=
  ((decide (a2 < (0 : Int))) = true →
 R (.returned (.tuple #[.int .i64 (0 : Int), .bool false])) h) ∧
((decide (a2 < (0 : Int))) = false →
 Ent Tryz.prog B 135 #[.int .i64 a3] (retE (fun v4 h5 => ∃ x8, v4 = .int .i64 x8 ∧
 Ent Tryz.prog B 93 #[.float .f64 (FloatKind.f64.nearest a2), .int .i64 x8] (retE (fun v9 h10 => ∃ x13, v9 = .float .f64 x13 ∧
 Ent Tryz.prog B 136 #[.float .f64 x13, .int .i64 a2, .int .i64 a3] (retE (fun v14 h15 => ∃ x18, v14 = .bool x18 ∧
((!x18) = true →
 R (.returned (.tuple #[.int .i64 (0 : Int), .bool false])) h15) ∧
((!x18) = false →
 (a1 = true →
 Ent Tryz.prog B 137 #[.float .f64 x13, .float .f64 13830554455654793216] (retE (fun v19 h20 => ∃ x23, v19 = .float .f64 x23 ∧
 F73_j24 B R x23 h20)
 (fun ch21 h22 => R (.panicked ch21) h22)) h15) ∧
(a1 = false →
 F73_j24 B R x13 h15)))
 (fun ch16 h17 => R (.panicked ch16) h17)) h10)
 (fun ch11 h12 => R (.panicked ch11) h12)) h5)
 (fun ch6 h7 => R (.panicked ch6) h7)) h)
def F73_L : Nat → List (Nat × TypeDesc) := fun _ => []
theorem F73_W (B : World) (R : Ending → Heap → Prop) (a1 : Bool) (a2 : Int) (a3 : Int) (h : Heap) : W Tryz.prog B Tryz.f73.ntmps F73_L (prune [] (codeOf Tryz.f73)) (endQ Tryz.prog Tryz.f73 R) (env0 #[.bool a1, .int .i64 a2, .int .i64 a3]) h = F73 B R a1 a2 a3 h := by kernel_rfl
theorem F73_ok {B : World} {R : Ending → Heap → Prop} (a1 : Bool) (a2 : Int) (a3 : Int) {h : Heap} (H : F73 B R a1 a2 a3 h) : Ent Tryz.prog B 73 #[.bool a1, .int .i64 a2, .int .i64 a3] R h :=
  Ent_of_W mixed Tryz.func73 (by kernel_rfl) (by kernel_rfl) (by kernel_rfl) F73_L [] (by rw [F73_W]; exact H)

/-- plumb/bits.clamp -/
def F135 (B : World) (R : Ending → Heap → Prop) (a1 : Int) (h : Heap) : Prop :=
  R (.returned (.int .i64 (if (3000 : Int) < (if (-3000 : Int) > a1 then (-3000 : Int) else a1) then (3000 : Int) else (if (-3000 : Int) > a1 then (-3000 : Int) else a1)))) h
def F135_L : Nat → List (Nat × TypeDesc) := fun _ => []
theorem F135_W (B : World) (R : Ending → Heap → Prop) (a1 : Int) (h : Heap) : W Tryz.prog B Tryz.f135.ntmps F135_L (prune [] (codeOf Tryz.f135)) (endQ Tryz.prog Tryz.f135 R) (env0 #[.int .i64 a1]) h = F135 B R a1 h := by kernel_rfl
theorem F135_ok {B : World} {R : Ending → Heap → Prop} (a1 : Int) {h : Heap} (H : F135 B R a1 h) : Ent Tryz.prog B 135 #[.int .i64 a1] R h :=
  Ent_of_W mixed Tryz.func135 (by kernel_rfl) (by kernel_rfl) (by kernel_rfl) F135_L [] (by rw [F135_W]; exact H)

/-- plumb/bits.same -/
def F136_j45 (B : World) (R : Ending → Heap → Prop) (y46 : Bool) (h47 : Heap) : Prop :=
  R (.returned (.bool y46)) h47
def F136_j9 (B : World) (R : Ending → Heap → Prop) (y10 : Nat) (y11 : Int) (y12 : Int) (y13 : Bool) (h14 : Heap) : Prop :=
  (y13 = true →
 R (.returned (.bool false)) h14) ∧
(y13 = false →
 ((decide (y11 = (0 : Int))) = true →
 R (.returned (.bool true)) h14) ∧
((decide (y11 = (0 : Int))) = false →
 Ent Tryz.prog B 135 #[.int .i64 y12] (retE (fun v15 h16 => ∃ x19, v15 = .int .i64 x19 ∧
 Ent Tryz.prog B 181 #[.int .i64 y11, .int .i64 x19] (retE (fun v20 h21 => ∃ x24 x25, v20 = .tuple #[.int .i64 x24, .int .i64 x25] ∧
 Ent Tryz.prog B 56 #[.float .f64 y10] (retE (fun v26 h27 => ∃ x30, v26 = .int .i64 x30 ∧
 Ent Tryz.prog B 63 #[.int .i64 x30] (retE (fun v31 h32 => ∃ x35 x36 x37 x38, v31 = .tuple #[.bool x35, .int .i64 x36, .int .i64 x37, .bool x38] ∧
 Ent Tryz.prog B 181 #[.int .i64 x36, .int .i64 x37] (retE (fun v39 h40 => ∃ x43 x44, v39 = .tuple #[.int .i64 x43, .int .i64 x44] ∧
((decide (x24 = x43)) = true →
 F136_j45 B R (decide (x25 = x44)) h40) ∧
((decide (x24 = x43)) = false →
 F136_j45 B R false h40))
 (fun ch41 h42 => R (.panicked ch41) h42)) h32)
 (fun ch33 h34 => R (.panicked ch33) h34)) h27)
 (fun ch28 h29 => R (.panicked ch28) h29)) h21)
 (fun ch22 h23 => R (.panicked ch22) h23)) h16)
 (fun ch17 h18 => R (.panicked ch17) h18)) h14))
def F136 (B : World) (R : Ending → Heap → Prop) (a1 : Nat) (a2 : Int) (a3 : Int) (h : Heap) : Prop :=
  Ent Tryz.prog B 118 #[.float .f64 a1, .int .i64 (0 : Int)] (retE (fun v4 h5 => ∃ x8, v4 = .bool x8 ∧
(x8 = true →
 F136_j9 B R a1 a2 a3 true h5) ∧
(x8 = false →
 F136_j9 B R a1 a2 a3 (!((FloatKind.f64.format.order a1 0 == some .eq) == (decide (a2 = (0 : Int))))) h5))
 (fun ch6 h7 => R (.panicked ch6) h7)) h
def F136_L : Nat → List (Nat × TypeDesc) := fun _ => []
theorem F136_W (B : World) (R : Ending → Heap → Prop) (a1 : Nat) (a2 : Int) (a3 : Int) (h : Heap) : W Tryz.prog B Tryz.f136.ntmps F136_L (prune [] (codeOf Tryz.f136)) (endQ Tryz.prog Tryz.f136 R) (env0 #[.float .f64 a1, .int .i64 a2, .int .i64 a3]) h = F136 B R a1 a2 a3 h := by kernel_rfl
theorem F136_ok {B : World} {R : Ending → Heap → Prop} (a1 : Nat) (a2 : Int) (a3 : Int) {h : Heap} (H : F136 B R a1 a2 a3 h) : Ent Tryz.prog B 136 #[.float .f64 a1, .int .i64 a2, .int .i64 a3] R h :=
  Ent_of_W mixed Tryz.func136 (by kernel_rfl) (by kernel_rfl) (by kernel_rfl) F136_L [] (by rw [F136_W]; exact H)

/-- math.Copysign -/
def F137 (B : World) (R : Ending → Heap → Prop) (a1 : Nat) (a2 : Nat) (h : Heap) : Prop :=
  Ent Tryz.prog B 117 #[.float .f64 a1] (retE (fun v3 h4 => ∃ x7, v3 = .int .u64 x7 ∧
 Ent Tryz.prog B 117 #[.float .f64 a2] (retE (fun v8 h9 => ∃ x12, v8 = .int .u64 x12 ∧
 Ent Tryz.prog B 116 #[.int .u64 (bitsI .or .u64 (bitsI .andNot .u64 x7 (9223372036854775808 : Int)) (bitsI .and .u64 x12 (9223372036854775808 : Int)))] (retE (fun v13 h14 => ∃ x17, v13 = .float .f64 x17 ∧
 R (.returned (.float .f64 x17)) h14)
 (fun ch15 h16 => R (.panicked ch15) h16)) h9)
 (fun ch10 h11 => R (.panicked ch10) h11)) h4)
 (fun ch5 h6 => R (.panicked ch5) h6)) h
def F137_L : Nat → List (Nat × TypeDesc) := fun _ => []
theorem F137_W (B : World) (R : Ending → Heap → Prop) (a1 : Nat) (a2 : Nat) (h : Heap) : W Tryz.prog B Tryz.f137.ntmps F137_L (prune [] (codeOf Tryz.f137)) (endQ Tryz.prog Tryz.f137 R) (env0 #[.float .f64 a1, .float .f64 a2]) h = F137 B R a1 a2 h := by kernel_rfl
theorem F137_ok {B : World} {R : Ending → Heap → Prop} (a1 : Nat) (a2 : Nat) {h : Heap} (H : F137 B R a1 a2 h) : Ent Tryz.prog B 137 #[.float .f64 a1, .float .f64 a2] R h :=
  Ent_of_W mixed Tryz.func137 (by kernel_rfl) (by kernel_rfl) (by kernel_rfl) F137_L [] (by rw [F137_W]; exact H)

/-- plumb/bits.reduced -/
def F181 (B : World) (R : Ending → Heap → Prop) (a1 : Int) (a2 : Int) (h : Heap) : Prop :=
  ∃ I3 : Nat → List Value → Heap → Prop, ∃ n4, I3 n4 [.int .i64 a1, .int .i64 a2] h ∧
∀ (n5 : Nat) (h8 : Heap) (z6 : Int) (z7 : Int), I3 n5 [.int .i64 z6, .int .i64 z7] h8 → ∀ _r : Nat → Value,
 ((decide ((bitsI .and .i64 z6 (1 : Int)) = (0 : Int))) = true →
 0 ≤ (1 : Int) ∧
∃ m9, m9 < n5 ∧ I3 m9 [.int .i64 (Int.fdiv z6 (2 ^ min (Int.toNat (1 : Int)) IntKind.i64.bits)), .int .i64 (IntKind.i64.wrap (z7 + (1 : Int)))] h8) ∧
((decide ((bitsI .and .i64 z6 (1 : Int)) = (0 : Int))) = false →
 R (.returned (.tuple #[.int .i64 z6, .int .i64 z7])) h8)
def F181_L : Nat → List (Nat × TypeDesc) := fun i => match i with
  | 1 => [(0, .int .i64), (1, .int .i64)]
  | _ => []
theorem F181_W (B : World) (R : Ending → Heap → Prop) (a1 : Int) (a2 : Int) (h : Heap) : W Tryz.prog B Tryz.f181.ntmps F181_L (prune [] (codeOf Tryz.f181)) (endQ Tryz.prog Tryz.f181 R) (env0 #[.int .i64 a1, .int .i64 a2]) h = F181 B R a1 a2 h := by kernel_rfl
theorem F181_ok {B : World} {R : Ending → Heap → Prop} (a1 : Int) (a2 : Int) {h : Heap} (H : F181 B R a1 a2 h) : Ent Tryz.prog B 181 #[.int .i64 a1, .int .i64 a2] R h :=
  Ent_of_W mixed Tryz.func181 (by kernel_rfl) (by kernel_rfl) (by kernel_rfl) F181_L [] (by rw [F181_W]; exact H)

/-- math.Ldexp -/
def F93 (B : World) (R : Ending → Heap → Prop) (a1 : Nat) (a2 : Int) (h : Heap) : Prop :=
  (false = true →
 Ent Tryz.prog B 151 #[.float .f64 a1, .int .i64 a2] (retE (fun v3 h4 => ∃ x7, v3 = .float .f64 x7 ∧
 R (.returned (.float .f64 x7)) h4)
 (fun ch5 h6 => R (.panicked ch5) h6)) h) ∧
(false = false →
 Ent Tryz.prog B 152 #[.float .f64 a1, .int .i64 a2] (retE (fun v8 h9 => ∃ x12, v8 = .float .f64 x12 ∧
 R (.returned (.float .f64 x12)) h9)
 (fun ch10 h11 => R (.panicked ch10) h11)) h)
def F93_L : Nat → List (Nat × TypeDesc) := fun _ => []
theorem F93_W (B : World) (R : Ending → Heap → Prop) (a1 : Nat) (a2 : Int) (h : Heap) : W Tryz.prog B Tryz.f93.ntmps F93_L (prune [] (codeOf Tryz.f93)) (endQ Tryz.prog Tryz.f93 R) (env0 #[.float .f64 a1, .int .i64 a2]) h = F93 B R a1 a2 h := by kernel_rfl
theorem F93_ok {B : World} {R : Ending → Heap → Prop} (a1 : Nat) (a2 : Int) {h : Heap} (H : F93 B R a1 a2 h) : Ent Tryz.prog B 93 #[.float .f64 a1, .int .i64 a2] R h :=
  Ent_of_W mixed Tryz.func93 (by kernel_rfl) (by kernel_rfl) (by kernel_rfl) F93_L [] (by rw [F93_W]; exact H)
end Go.Proofs
namespace Go.Proofs
open Go Go.Eng
/-- math.ldexp -/
def F152_j39 (B : World) (R : Ending → Heap → Prop) (y40 : Int) (y41 : Int) (y42 : Nat) (h43 : Heap) : Prop :=
  0 ≤ (52 : Int) ∧
 Ent Tryz.prog B 116 #[.int .u64 (bitsI .or .u64 (bitsI .andNot .u64 y41 (9218868437227405312 : Int)) (IntKind.u64.wrap ((IntKind.u64.wrap (IntKind.i64.wrap (y40 + (1023 : Int)))) * 2 ^ min (Int.toNat (52 : Int)) IntKind.u64.bits)))] (retE (fun v44 h45 => ∃ x48, v44 = .float .f64 x48 ∧
 flW .f64 (FloatKind.f64.format.mul y42 x48) y42 x48 fun f49 =>
 R (.returned (.float .f64 f49)) h45)
 (fun ch46 h47 => R (.panicked ch46) h47)) h43
def F152_j8 (B : World) (R : Ending → Heap → Prop) (y9 : Nat) (y10 : Int) (y11 : Bool) (h12 : Heap) : Prop :=
  (y11 = true →
 R (.returned (.float .f64 y9)) h12) ∧
(y11 = false →
 Ent Tryz.prog B 184 #[.float .f64 y9] (retE (fun v13 h14 => ∃ x17 x18, v13 = .tuple #[.float .f64 x17, .int .i64 x18] ∧
 Ent Tryz.prog B 117 #[.float .f64 x17] (retE (fun v19 h20 => ∃ x23, v19 = .int .u64 x23 ∧
0 ≤ (52 : Int) ∧
((decide ((IntKind.i64.wrap ((IntKind.i64.wrap (y10 + x18)) + (IntKind.i64.wrap ((bitsI .and .i64 (IntKind.i64.wrap (Int.fdiv x23 (2 ^ min (Int.toNat (52 : Int)) IntKind.u64.bits))) (2047 : Int)) - (1023 : Int))))) < (-1075 : Int))) = true →
 Ent Tryz.prog B 137 #[.float .f64 0, .float .f64 x17] (retE (fun v24 h25 => ∃ x28, v24 = .float .f64 x28 ∧
 R (.returned (.float .f64 x28)) h25)
 (fun ch26 h27 => R (.panicked ch26) h27)) h20) ∧
((decide ((IntKind.i64.wrap ((IntKind.i64.wrap (y10 + x18)) + (IntKind.i64.wrap ((bitsI .and .i64 (IntKind.i64.wrap (Int.fdiv x23 (2 ^ min (Int.toNat (52 : Int)) IntKind.u64.bits))) (2047 : Int)) - (1023 : Int))))) < (-1075 : Int))) = false →
 ((decide ((1023 : Int) < (IntKind.i64.wrap ((IntKind.i64.wrap (y10 + x18)) + (IntKind.i64.wrap ((bitsI .and .i64 (IntKind.i64.wrap (Int.fdiv x23 (2 ^ min (Int.toNat (52 : Int)) IntKind.u64.bits))) (2047 : Int)) - (1023 : Int))))))) = true →
 ((FloatKind.f64.format.order x17 0 == some .lt) = true →
 Ent Tryz.prog B 185 #[.int .i64 (-1 : Int)] (retE (fun v29 h30 => ∃ x33, v29 = .float .f64 x33 ∧
 R (.returned (.float .f64 x33)) h30)
 (fun ch31 h32 => R (.panicked ch31) h32)) h20) ∧
((FloatKind.f64.format.order x17 0 == some .lt) = false →
 Ent Tryz.prog B 185 #[.int .i64 (1 : Int)] (retE (fun v34 h35 => ∃ x38, v34 = .float .f64 x38 ∧
 R (.returned (.float .f64 x38)) h35)
 (fun ch36 h37 => R (.panicked ch36) h37)) h20)) ∧
((decide ((1023 : Int) < (IntKind.i64.wrap ((IntKind.i64.wrap (y10 + x18)) + (IntKind.i64.wrap ((bitsI .and .i64 (IntKind.i64.wrap (Int.fdiv x23 (2 ^ min (Int.toNat (52 : Int)) IntKind.u64.bits))) (2047 : Int)) - (1023 : Int))))))) = false →
 ((decide ((IntKind.i64.wrap ((IntKind.i64.wrap (y10 + x18)) + (IntKind.i64.wrap ((bitsI .and .i64 (IntKind.i64.wrap (Int.fdiv x23 (2 ^ min (Int.toNat (52 : Int)) IntKind.u64.bits))) (2047 : Int)) - (1023 : Int))))) < (-1022 : Int))) = true →
 F152_j39 B R (IntKind.i64.wrap ((IntKind.i64.wrap ((IntKind.i64.wrap (y10 + x18)) + (IntKind.i64.wrap ((bitsI .and .i64 (IntKind.i64.wrap (Int.fdiv x23 (2 ^ min (Int.toNat (52 : Int)) IntKind.u64.bits))) (2047 : Int)) - (1023 : Int))))) + (53 : Int))) x23 4368491638549381120 h20) ∧
((decide ((IntKind.i64.wrap ((IntKind.i64.wrap (y10 + x18)) + (IntKind.i64.wrap ((bitsI .and .i64 (IntKind.i64.wrap (Int.fdiv x23 (2 ^ min (Int.toNat (52 : Int)) IntKind.u64.bits))) (2047 : Int)) - (1023 : Int))))) < (-1022 : Int))) = false →
 F152_j39 B R (IntKind.i64.wrap ((IntKind.i64.wrap (y10 + x18)) + (IntKind.i64.wrap ((bitsI .and .i64 (IntKind.i64.wrap (Int.fdiv x23 (2 ^ min (Int.toNat (52 : Int)) IntKind.u64.bits))) (2047 : Int)) - (1023 : Int))))) x23 4607182418800017408 h20))))
 (fun ch21 h22 => R (.panicked ch21) h22)) h14)
 (fun ch15 h16 => R (.panicked ch15) h16)) h12)
def F152 (B : World) (R : Ending → Heap → Prop) (a1 : Nat) (a2 : Int) (h : Heap) : Prop :=
  ((FloatKind.f64.format.order a1 0 == some .eq) = true →
 R (.returned (.float .f64 a1)) h) ∧
((FloatKind.f64.format.order a1 0 == some .eq) = false →
 Ent Tryz.prog B 118 #[.float .f64 a1, .int .i64 (0 : Int)] (retE (fun v3 h4 => ∃ x7, v3 = .bool x7 ∧
(x7 = true →
 F152_j8 B R a1 a2 true h4) ∧
(x7 = false →
 Ent Tryz.prog B 183 #[.float .f64 a1] (retE (fun v50 h51 => ∃ x54, v50 = .bool x54 ∧
 F152_j8 B R a1 a2 x54 h51)
 (fun ch52 h53 => R (.panicked ch52) h53)) h4))
 (fun ch5 h6 => R (.panicked ch5) h6)) h)
def F152_L : Nat → List (Nat × TypeDesc) := fun _ => []
theorem F152_W (B : World) (R : Ending → Heap → Prop) (a1 : Nat) (a2 : Int) (h : Heap) : W Tryz.prog B Tryz.f152.ntmps F152_L (prune [] (codeOf Tryz.f152)) (endQ Tryz.prog Tryz.f152 R) (env0 #[.float .f64 a1, .int .i64 a2]) h = F152 B R a1 a2 h := by kernel_rfl
theorem F152_ok {B : World} {R : Ending → Heap → Prop} (a1 : Nat) (a2 : Int) {h : Heap} (H : F152 B R a1 a2 h) : Ent Tryz.prog B 152 #[.float .f64 a1, .int .i64 a2] R h :=
  Ent_of_W mixed Tryz.func152 (by kernel_rfl) (by kernel_rfl) (by kernel_rfl) F152_L [] (by rw [F152_W]; exact H)

/-- math.IsNaN -/
def F183 (B : World) (R : Ending → Heap → Prop) (a1 : Nat) (h : Heap) : Prop :=
  R (.returned (.bool (FloatKind.f64.format.order a1 a1 != some .eq))) h
def F183_L : Nat → List (Nat × TypeDesc) := fun _ => []
theorem F183_W (B : World) (R : Ending → Heap → Prop) (a1 : Nat) (h : Heap) : W Tryz.prog B Tryz.f183.ntmps F183_L (prune [] (codeOf Tryz.f183)) (endQ Tryz.prog Tryz.f183 R) (env0 #[.float .f64 a1]) h = F183 B R a1 h := by kernel_rfl
theorem F183_ok {B : World} {R : Ending → Heap → Prop} (a1 : Nat) {h : Heap} (H : F183 B R a1 h) : Ent Tryz.prog B 183 #[.float .f64 a1] R h :=
  Ent_of_W mixed Tryz.func183 (by kernel_rfl) (by kernel_rfl) (by kernel_rfl) F183_L [] (by rw [F183_W]; exact H)

/-- math.normalize -/
def F184 (B : World) (R : Ending → Heap → Prop) (a1 : Nat) (h : Heap) : Prop :=
  Ent Tryz.prog B 94 #[.float .f64 a1] (retE (fun v2 h3 => ∃ x6, v2 = .float .f64 x6 ∧
((FloatKind.f64.format.order x6 4503599627370496 == some .lt) = true →
 flW .f64 (FloatKind.f64.format.mul a1 4841369599423283200) a1 4841369599423283200 fun f7 =>
 R (.returned (.tuple #[.float .f64 f7, .int .i64 (-52 : Int)])) h3) ∧
((FloatKind.f64.format.order x6 4503599627370496 == some .lt) = false →
 R (.returned (.tuple #[.float .f64 a1, .int .i64 (0 : Int)])) h3))
 (fun ch4 h5 => R (.panicked ch4) h5)) h
def F184_L : Nat → List (Nat × TypeDesc) := fun _ => []
theorem F184_W (B : World) (R : Ending → Heap → Prop) (a1 : Nat) (h : Heap) : W Tryz.prog B Tryz.f184.ntmps F184_L (prune [] (codeOf Tryz.f184)) (endQ Tryz.prog Tryz.f184 R) (env0 #[.float .f64 a1]) h = F184 B R a1 h := by kernel_rfl
theorem F184_ok {B : World} {R : Ending → Heap → Prop} (a1 : Nat) {h : Heap} (H : F184 B R a1 h) : Ent Tryz.prog B 184 #[.float .f64 a1] R h :=
  Ent_of_W mixed Tryz.func184 (by kernel_rfl) (by kernel_rfl) (by kernel_rfl) F184_L [] (by rw [F184_W]; exact H)

/-- math.Inf -/
def F185_j2 (B : World) (R : Ending → Heap → Prop) (y3 : Int) (h4 : Heap) : Prop :=
  Ent Tryz.prog B 116 #[.int .u64 y3] (retE (fun v5 h6 => ∃ x9, v5 = .float .f64 x9 ∧
 R (.returned (.float .f64 x9)) h6)
 (fun ch7 h8 => R (.panicked ch7) h8)) h4
def F185 (B : World) (R : Ending → Heap → Prop) (a1 : Int) (h : Heap) : Prop :=
  ((decide ((0 : Int) ≤ a1)) = true →
 F185_j2 B R (9218868437227405312 : Int) h) ∧
((decide ((0 : Int) ≤ a1)) = false →
 F185_j2 B R (18442240474082181120 : Int) h)
def F185_L : Nat → List (Nat × TypeDesc) := fun _ => []
theorem F185_W (B : World) (R : Ending → Heap → Prop) (a1 : Int) (h : Heap) : W Tryz.prog B Tryz.f185.ntmps F185_L (prune [] (codeOf Tryz.f185)) (endQ Tryz.prog Tryz.f185 R) (env0 #[.int .i64 a1]) h = F185 B R a1 h := by kernel_rfl
theorem F185_ok {B : World} {R : Ending → Heap → Prop} (a1 : Int) {h : Heap} (H : F185 B R a1 h) : Ent Tryz.prog B 185 #[.int .i64 a1] R h :=
  Ent_of_W mixed Tryz.func185 (by kernel_rfl) (by kernel_rfl) (by kernel_rfl) F185_L [] (by rw [F185_W]; exact H)
end Go.Proofs
