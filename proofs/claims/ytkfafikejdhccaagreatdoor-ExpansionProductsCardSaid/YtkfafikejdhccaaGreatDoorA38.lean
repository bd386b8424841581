import Derived.Test.YtkfafikejdhccaaGreatDoorA20
/- Here stand lemmas: what made, value and the sums come to (written by program). -/
set_option linter.unusedVariables false
namespace Go.Proofs
open Go Go.Eng
/-- plumb/plumblaw7.made -/
def F38_j28 (B : World) (R : Po) (a0 : Lp) (b0 : Nat) (c0 : OA) (d0 e0 : Nat) (f0 : Int) (g0 : OA) (i0 j0 : Nat) (k0 l0 : Int) (m0 : Heap) : Prop :=
 Ec B 34 #[.slice g0 i0 j0, .int .i64 l0] (retE (fun n0 o0 => ∃ p0 q0 r0 s0, n0 = .tuple #[.slice p0 q0 r0, .int .i64 s0] ∧
((!decide (s0 = (0 : Int))) = true →
 R (.returned (.tuple #[.slice none 0 0, .bool false])) o0) ∧
((!decide (s0 = (0 : Int))) = false →
 ∃ t0, t0 < b0 ∧ a0 t0 [.slice c0 d0 e0, .int .i64 f0, .slice p0 q0 r0, .int .i64 (IntKind.i64.wrap (k0 + (1 : Int)))] o0))
(pk R)) m0
def F38_j11 (B : World) (R : Po) (a0 : Lp) (b0 : Nat) (u0 : OA) (v0 w0 : Nat) (x0 : Int) (y0 : OA) (z0 a1 : Nat) (b1 : Int) (c1 : Bool) (d1 : Heap) : Prop :=
(c1 = true →
 ixW u0 v0 b1 1 fun e1 f1 =>
 iP e1 f1 fun g1 i1 => ∃ j1, cI d1 g1 i1 .i64 j1 ∧
 ixW u0 v0 b1 1 fun k1 l1 =>
 iP k1 l1 fun m1 n1 => ∃ o1, cI d1 m1 n1 .i64 o1 ∧
0 ≤ (52 : Int) ∧
0 ≤ (52 : Int) ∧
 F38_j28 B R a0 b0 u0 v0 w0 x0 y0 z0 a1 b1 (bitsI .or .i64 (bitsI .andNot .i64 j1 (9218868437227405312 : Int)) (IntKind.i64.wrap ((IntKind.i64.wrap ((823 : Int) + (bitsI .and .i64 (Int.fdiv o1 (2 ^ min (Int.toNat (52 : Int)) IntKind.i64.bits)) (255 : Int)))) * 2 ^ min (Int.toNat (52 : Int)) IntKind.i64.bits))) d1) ∧
(c1 = false →
 R (.returned (.tuple #[.slice y0 z0 a1, .bool true])) d1)
def F38 (B : World) (R : Po) (p1 : OA) (q1 r1 : Nat) (s1 : Int) (h : Heap) : Prop :=
 ∃ a0 : Lp, ∃ t1, a0 t1 [.slice p1 q1 r1, .int .i64 s1, .slice none 0 0, .int .i64 (0 : Int)] h ∧
∀ (b0 : Nat) (u1 : Heap) (v1 : OA) (w1 x1 : Nat) (y1 : Int) (z1 : OA) (a2 b2 : Nat) (c2 : Int), a0 b0 [.slice v1 w1 x1, .int .i64 y1, .slice z1 a2 b2, .int .i64 c2] u1 → ∀ _r : Nat → Value,
((decide (c2 < (w1 : Int))) = true →
 F38_j11 B R a0 b0 v1 w1 x1 y1 z1 a2 b2 c2 (decide (c2 < y1)) u1) ∧
((decide (c2 < (w1 : Int))) = false →
 F38_j11 B R a0 b0 v1 w1 x1 y1 z1 a2 b2 c2 false u1)
def F38_L : Nat → List (Nat × TypeDesc) := fun i => match i with
  | 3 => [(0, .slice 0), (1, .int .i64), (6, .slice 0), (7, .int .i64)]
  | _ => []
theorem F38_ok {B : World} {R : Ending → Heap → Prop} (p1 : OA) (q1 r1 : Nat) (s1 : Int) {h : Heap} (H : F38 B R p1 q1 r1 s1 h) : Ec B 38 #[.slice p1 q1 r1, .int .i64 s1] R h :=
 Ek Tryz.func38 (by kernel_rfl) (by kernel_rfl) (by kernel_rfl) F38_L [] (by kernel_rfl) H

/-- plumb/plumblaw7.value -/
def F39_j42 (B : World) (R : Po) (a0 : OA) (b0 : Bool) (c0 : Heap) : Prop :=
 isP a0 fun d0 e0 =>
∃ f0, cell? c0 ⟨d0, e0, none⟩ = some (.bool f0) ∧
∃ g0 i0 j0, cell? c0 ⟨d0, e0 + 1, none⟩ = some (.slice g0 i0 j0) ∧
∃ k0, cell? c0 ⟨d0, e0 + 1 + 1, none⟩ = some (.int .i64 k0) ∧
 R (.returned (.tuple #[.agg #[.bool f0, .slice g0 i0 j0, .int .i64 k0], .bool b0])) c0
def F39_j29 (B : World) (R : Po) (l0 : OA) (m0 n0 : Bool) (o0 : OA) (p0 q0 : Nat) (r0 : Int) (s0 : Bool) (t0 : Heap) : Prop :=
 isP l0 fun u0 v0 => stC t0 u0 v0 (.bool n0) fun w0 =>
 stC w0 u0 (v0 + 1) (.slice o0 p0 q0) fun x0 =>
 stC x0 u0 (v0 + 1 + 1) (.int .i64 r0) fun y0 =>
 F39_j42 B R l0 s0 y0
def F39 (B : World) (R : Po) (z0 : OA) (a1 b1 : Nat) (h : Heap) : Prop :=
 alW h (.cells #[.bool false, .slice none 0 0, .int .i64 0] 29) fun c1 d1 =>
 Ec B 95 #[.slice z0 a1 b1] (retE (fun e1 f1 => ∃ g1 i1 j1 k1 l1 m1, e1 = .tuple #[.agg #[.bool g1, .slice i1 j1 k1, .int .i64 l1], .int .i64 m1] ∧
 alW f1 (.cells #[.bool false, .slice none 0 0, .int .i64 0] 29) fun n1 o1 =>
 iP n1 0 fun p1 q1 => stC o1 p1 q1 (.bool g1) fun r1 =>
 stC r1 p1 (q1 + 1) (.slice i1 j1 k1) fun s1 =>
 stC s1 p1 (q1 + 1 + 1) (.int .i64 l1) fun t1 =>
 iP n1 0 fun u1 v1 =>
∃ w1, cell? t1 ⟨u1, v1, none⟩ = some (.bool w1) ∧
∃ x1 y1 z1, cell? t1 ⟨u1, v1 + 1, none⟩ = some (.slice x1 y1 z1) ∧
∃ a2, cell? t1 ⟨u1, v1 + 1 + 1, none⟩ = some (.int .i64 a2) ∧
((decide (m1 = (0 : Int))) = true →
 Ec B 37 #[.slice z0 a1 b1] (retE (fun b2 c2 => ∃ d2, b2 = .bool d2 ∧
 sameCells t1 c2 u1 v1 3 ∧ F39_j29 B R (some ⟨c1, 0, none⟩) false w1 x1 y1 z1 a2 d2 c2)
(fun _ _ => False)) t1) ∧
((decide (m1 = (0 : Int))) = false →
 F39_j29 B R (some ⟨c1, 0, none⟩) false w1 x1 y1 z1 a2 false t1))
(pk R)) d1
def F39_L : Nat → List (Nat × TypeDesc) := fun _ => []
theorem F39_ok {B : World} {R : Ending → Heap → Prop} (z0 : OA) (a1 b1 : Nat) {h : Heap} (H : F39 B R z0 a1 b1 h) : Ec B 39 #[.slice z0 a1 b1] R h :=
 Ek Tryz.func39 (by kernel_rfl) (by kernel_rfl) (by kernel_rfl) F39_L [] (by kernel_rfl) H

/-- plumb/plumblaw7.same -/
def F41 (B : World) (R : Po) (a0 : Bool) (b0 : OA) (c0 d0 : Nat) (e0 : Int) (f0 : Bool) (g0 : OA) (i0 j0 : Nat) (k0 : Int) (h : Heap) : Prop :=
 alW h (.cells #[.bool a0, .slice b0 c0 d0, .int .i64 e0] 29) fun l0 m0 =>
 alW m0 (.cells #[.bool f0, .slice g0 i0 j0, .int .i64 k0] 29) fun n0 o0 =>
 iP l0 0 fun p0 q0 =>
∃ r0, cell? o0 ⟨p0, q0, none⟩ = some (.bool r0) ∧
∃ s0 t0 u0, cell? o0 ⟨p0, q0 + 1, none⟩ = some (.slice s0 t0 u0) ∧
∃ v0, cell? o0 ⟨p0, q0 + 1 + 1, none⟩ = some (.int .i64 v0) ∧
 iP n0 0 fun w0 x0 =>
∃ y0, cell? o0 ⟨w0, x0, none⟩ = some (.bool y0) ∧
∃ z0 a1 b1, cell? o0 ⟨w0, x0 + 1, none⟩ = some (.slice z0 a1 b1) ∧
∃ c1, cell? o0 ⟨w0, x0 + 1 + 1, none⟩ = some (.int .i64 c1) ∧
 Ec B 28 #[.agg #[.bool r0, .slice s0 t0 u0, .int .i64 v0], .agg #[.bool y0, .slice z0 a1 b1, .int .i64 c1]] (retE (fun d1 e1 => ∃ f1 g1, d1 = .tuple #[.int .i64 f1, .int .i64 g1] ∧
 R (.returned (.bool (decide (f1 = (0 : Int))))) e1)
(pk R)) o0
def F41_L : Nat → List (Nat × TypeDesc) := fun _ => []
theorem F41_ok {B : World} {R : Ending → Heap → Prop} (a0 : Bool) (b0 : OA) (c0 d0 : Nat) (e0 : Int) (f0 : Bool) (g0 : OA) (i0 j0 : Nat) (k0 : Int) {h : Heap} (H : F41 B R a0 b0 c0 d0 e0 f0 g0 i0 j0 k0 h) : Ec B 41 #[.agg #[.bool a0, .slice b0 c0 d0, .int .i64 e0], .agg #[.bool f0, .slice g0 i0 j0, .int .i64 k0]] R h :=
 Ek Tryz.func41 (by kernel_rfl) (by kernel_rfl) (by kernel_rfl) F41_L [] (by kernel_rfl) H

end Go.Proofs
