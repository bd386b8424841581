import Derived.Test.YtobkdplpkgikhaaGreatFmtA09
/- Here stand lemmas and contracts, in the order in which they are used. -/
set_option linter.unusedVariables false
namespace Go.Proofs
open Go Go.Eng
/-- plumb/plumbref1.Class -/
def F84 (B : World) (R : Po) (a0 : Int) (h : Heap) : Prop :=
 Ec B 60 #[.int .i64 a0] (retE (fun b0 c0 => ∃ d0 e0 f0, b0 = .tuple #[.bool d0, .int .i64 e0, .int .i64 f0] ∧
 Ec B 61 #[.int .i64 e0, .int .i64 f0, .int .i64 (2047 : Int)] (retE (fun g0 i0 => ∃ j0, g0 = .int .i64 j0 ∧
 R (.returned (.int .i64 j0)) i0)
(pk R)) c0)
(pk R)) h
def F84_L : Nat → List (Nat × TypeDesc) := fun _ => []
theorem F84_ok {B : World} {R : Ending → Heap → Prop} (a0 : Int) {h : Heap} (H : F84 B R a0 h) : Ec B 35 #[.int .i64 a0] R h :=
 Ek Tryz.func35 (by kernel_rfl) (by kernel_rfl) (by kernel_rfl) F84_L [] (by kernel_rfl) H

/-- plumb/plumbref3.Of -/
def F114 (B : World) (R : Po) (a0 : Int) (h : Heap) : Prop :=
 alW h (.cells #[.bool false, .slice none 0 0, .int .i64 0] 24) fun b0 c0 =>
 Ec B 64 #[.int .i64 a0] (retE (fun d0 e0 => ∃ f0 g0 i0 j0, d0 = .tuple #[.bool f0, .int .i64 g0, .int .i64 i0, .bool j0] ∧
 Ec B 66 #[.int .i64 g0] (retE (fun k0 l0 => ∃ m0 n0 o0, k0 = .slice m0 n0 o0 ∧
 Ec B 65 #[.bool f0, .slice m0 n0 o0, .int .i64 i0] (retE (fun p0 q0 => ∃ r0 s0 t0 u0 v0, p0 = .agg #[.bool r0, .slice s0 t0 u0, .int .i64 v0] ∧
 iP b0 0 fun w0 x0 => stC q0 w0 x0 (.bool r0) fun y0 =>
 stC y0 w0 (x0 + 1) (.slice s0 t0 u0) fun z0 =>
 stC z0 w0 (x0 + 1 + 1) (.int .i64 v0) fun a1 =>
 iP b0 0 fun b1 c1 =>
∃ d1, cell? a1 ⟨b1, c1, none⟩ = some (.bool d1) ∧
∃ e1 f1 g1, cell? a1 ⟨b1, c1 + 1, none⟩ = some (.slice e1 f1 g1) ∧
∃ i1, cell? a1 ⟨b1, c1 + 1 + 1, none⟩ = some (.int .i64 i1) ∧
 R (.returned (.agg #[.bool d1, .slice e1 f1 g1, .int .i64 i1])) a1)
(pk R)) l0)
(pk R)) e0)
(pk R)) c0
def F114_L : Nat → List (Nat × TypeDesc) := fun _ => []
theorem F114_ok {B : World} {R : Ending → Heap → Prop} (a0 : Int) {h : Heap} (H : F114 B R a0 h) : Ec B 37 #[.int .i64 a0] R h :=
 Ek Tryz.func37 (by kernel_rfl) (by kernel_rfl) (by kernel_rfl) F114_L [] (by kernel_rfl) H

/-- plumb/plumbref1.Join -/
def F115_j22 (B : World) (R : Po) (a0 b0 c0 : Int) (d0 : Bool) (e0 : Heap) : Prop :=
(d0 = true →
 R (.returned (.tuple #[.int .i64 (0 : Int), .bool false])) e0) ∧
(d0 = false →
((decide (b0 < (4503599627370496 : Int))) = true →
 R (.returned (.tuple #[.int .i64 (IntKind.i64.wrap (a0 + b0)), .bool true])) e0) ∧
((decide (b0 < (4503599627370496 : Int))) = false →
 R (.returned (.tuple #[.int .i64 (IntKind.i64.wrap ((IntKind.i64.wrap ((IntKind.i64.wrap (a0 + (IntKind.i64.wrap ((IntKind.i64.wrap (c0 + (1075 : Int))) * (4503599627370496 : Int))))) + b0)) - (4503599627370496 : Int))), .bool true])) e0))
def F115_j9 (B : World) (R : Po) (f0 g0 i0 : Int) (j0 : Bool) (k0 : Heap) : Prop :=
(j0 = true →
 R (.returned (.tuple #[.int .i64 (0 : Int), .bool false])) k0) ∧
(j0 = false →
((decide (f0 = (0 : Int))) = true →
 R (.returned (.tuple #[.int .i64 i0, .bool true])) k0) ∧
((decide (f0 = (0 : Int))) = false →
 Ec B 186 #[.int .i64 f0, .int .i64 g0, .int .i64 (-1074 : Int), .int .i64 (53 : Int)] (retE (fun l0 m0 => ∃ n0 o0 p0, l0 = .tuple #[.int .i64 n0, .int .i64 o0, .bool p0] ∧
((!p0) = true →
 F115_j22 B R i0 n0 o0 true m0) ∧
((!p0) = false →
 F115_j22 B R i0 n0 o0 (decide ((971 : Int) < o0)) m0))
(pk R)) k0))
def F115_j4 (B : World) (R : Po) (q0 r0 s0 : Int) (t0 : Heap) : Prop :=
((decide (q0 < (0 : Int))) = true →
(true = true →
 F115_j9 B R q0 r0 s0 true t0) ∧
(true = false →
((decide (r0 < (-2000 : Int))) = true →
 F115_j9 B R q0 r0 s0 (decide ((0 : Int) < q0)) t0) ∧
((decide (r0 < (-2000 : Int))) = false →
 F115_j9 B R q0 r0 s0 false t0))) ∧
((decide (q0 < (0 : Int))) = false →
((decide ((2000 : Int) < r0)) = true →
((decide ((0 : Int) < q0)) = true →
 F115_j9 B R q0 r0 s0 true t0) ∧
((decide ((0 : Int) < q0)) = false →
((decide (r0 < (-2000 : Int))) = true →
 F115_j9 B R q0 r0 s0 (decide ((0 : Int) < q0)) t0) ∧
((decide (r0 < (-2000 : Int))) = false →
 F115_j9 B R q0 r0 s0 false t0))) ∧
((decide ((2000 : Int) < r0)) = false →
(false = true →
 F115_j9 B R q0 r0 s0 true t0) ∧
(false = false →
((decide (r0 < (-2000 : Int))) = true →
 F115_j9 B R q0 r0 s0 (decide ((0 : Int) < q0)) t0) ∧
((decide (r0 < (-2000 : Int))) = false →
 F115_j9 B R q0 r0 s0 false t0))))
def F115 (B : World) (R : Po) (u0 : Bool) (v0 w0 : Int) (h : Heap) : Prop :=
(u0 = true →
 F115_j4 B R v0 w0 (-9223372036854775808 : Int) h) ∧
(u0 = false →
 F115_j4 B R v0 w0 (0 : Int) h)
def F115_L : Nat → List (Nat × TypeDesc) := fun _ => []
theorem F115_ok {B : World} {R : Ending → Heap → Prop} (u0 : Bool) (v0 w0 : Int) {h : Heap} (H : F115 B R u0 v0 w0 h) : Ec B 171 #[.bool u0, .int .i64 v0, .int .i64 w0] R h :=
 Ek Tryz.func171 (by kernel_rfl) (by kernel_rfl) (by kernel_rfl) F115_L [] (by kernel_rfl) H

/-- plumb/plumbref1.cut -/
def F149_j2 (B : World) (R : Po) (a0 : Int) (b0 : Bool) (c0 : Heap) : Prop :=
(4503599627370496 : Int) ≠ 0 ∧
(4503599627370496 : Int) ≠ 0 ∧
 R (.returned (.tuple #[.bool b0, .int .i64 (IntKind.i64.wrap (Int.tdiv a0 (4503599627370496 : Int))), .int .i64 (Int.tmod a0 (4503599627370496 : Int))])) c0
def F149 (B : World) (R : Po) (d0 : Int) (h : Heap) : Prop :=
((decide (d0 < (0 : Int))) = true →
 F149_j2 B R (IntKind.i64.wrap (d0 - (-9223372036854775808 : Int))) (decide (d0 < (0 : Int))) h) ∧
((decide (d0 < (0 : Int))) = false →
 F149_j2 B R d0 (decide (d0 < (0 : Int))) h)
def F149_L : Nat → List (Nat × TypeDesc) := fun _ => []
theorem F149_ok {B : World} {R : Ending → Heap → Prop} (d0 : Int) {h : Heap} (H : F149 B R d0 h) : Ec B 60 #[.int .i64 d0] R h :=
 Ek Tryz.func60 (by kernel_rfl) (by kernel_rfl) (by kernel_rfl) F149_L [] (by kernel_rfl) H

/-- plumb/plumbref1.class -/
def F150_j4 (B : World) (R : Po) (a0 b0 c0 : Int) (d0 : Bool) (e0 : Heap) : Prop :=
(d0 = true →
 R (.returned (.int .i64 (3 : Int))) e0) ∧
(d0 = false →
((decide (a0 = c0)) = true →
 R (.returned (.int .i64 (4 : Int))) e0) ∧
((decide (a0 = c0)) = false →
((decide ((0 : Int) < a0)) = true →
 R (.returned (.int .i64 (2 : Int))) e0) ∧
((decide ((0 : Int) < a0)) = false →
((decide ((0 : Int) < b0)) = true →
 R (.returned (.int .i64 (1 : Int))) e0) ∧
((decide ((0 : Int) < b0)) = false →
 R (.returned (.int .i64 (0 : Int))) e0))))
def F150 (B : World) (R : Po) (f0 g0 i0 : Int) (h : Heap) : Prop :=
((decide (f0 = i0)) = true →
 F150_j4 B R f0 g0 i0 (decide (g0 = (0 : Int))) h) ∧
((decide (f0 = i0)) = false →
 F150_j4 B R f0 g0 i0 false h)
def F150_L : Nat → List (Nat × TypeDesc) := fun _ => []
theorem F150_ok {B : World} {R : Ending → Heap → Prop} (f0 g0 i0 : Int) {h : Heap} (H : F150 B R f0 g0 i0 h) : Ec B 61 #[.int .i64 f0, .int .i64 g0, .int .i64 i0] R h :=
 Ek Tryz.func61 (by kernel_rfl) (by kernel_rfl) (by kernel_rfl) F150_L [] (by kernel_rfl) H

/-- plumb/plumbref3.Norm -/
def F158 (B : World) (R : Po) (a0 : Bool) (b0 : OA) (c0 d0 : Nat) (e0 : Int) (h : Heap) : Prop :=
 alW h (.cells #[.bool false, .slice none 0 0, .int .i64 0] 24) fun f0 g0 =>
 Ec B 113 #[.slice b0 c0 d0] (retE (fun i0 j0 => ∃ k0, i0 = .int .i64 k0 ∧
((decide (k0 < (0 : Int))) = true →
 iP f0 0 fun l0 m0 => stC j0 l0 m0 (.bool false) fun n0 =>
 stC n0 l0 (m0 + 1) (.slice none 0 0) fun o0 =>
 stC o0 l0 (m0 + 1 + 1) (.int .i64 0) fun p0 =>
 iP f0 0 fun q0 r0 =>
∃ s0, cell? p0 ⟨q0, r0, none⟩ = some (.bool s0) ∧
∃ t0 u0 v0, cell? p0 ⟨q0, r0 + 1, none⟩ = some (.slice t0 u0 v0) ∧
∃ w0, cell? p0 ⟨q0, r0 + 1 + 1, none⟩ = some (.int .i64 w0) ∧
 R (.returned (.agg #[.bool s0, .slice t0 u0 v0, .int .i64 w0])) p0) ∧
((decide (k0 < (0 : Int))) = false →
 Ec B 114 #[.slice b0 c0 d0, .int .i64 k0] (retE (fun x0 y0 => ∃ z0 a1 b1, x0 = .slice z0 a1 b1 ∧
 iP f0 0 fun c1 d1 => stC y0 c1 d1 (.bool a0) fun e1 =>
 stC e1 c1 (d1 + 1) (.slice z0 a1 b1) fun f1 =>
 stC f1 c1 (d1 + 1 + 1) (.int .i64 (IntKind.i64.wrap (e0 + k0))) fun g1 =>
 iP f0 0 fun i1 j1 =>
∃ k1, cell? g1 ⟨i1, j1, none⟩ = some (.bool k1) ∧
∃ l1 m1 n1, cell? g1 ⟨i1, j1 + 1, none⟩ = some (.slice l1 m1 n1) ∧
∃ o1, cell? g1 ⟨i1, j1 + 1 + 1, none⟩ = some (.int .i64 o1) ∧
 R (.returned (.agg #[.bool k1, .slice l1 m1 n1, .int .i64 o1])) g1)
(pk R)) j0))
(pk R)) g0
def F158_L : Nat → List (Nat × TypeDesc) := fun _ => []
theorem F158_ok {B : World} {R : Ending → Heap → Prop} (a0 : Bool) (b0 : OA) (c0 d0 : Nat) (e0 : Int) {h : Heap} (H : F158 B R a0 b0 c0 d0 e0 h) : Ec B 65 #[.bool a0, .slice b0 c0 d0, .int .i64 e0] R h :=
 Ek Tryz.func65 (by kernel_rfl) (by kernel_rfl) (by kernel_rfl) F158_L [] (by kernel_rfl) H

/-- plumb/plumbref1.Parts -/
def F160_j14 (B : World) (R : Po) (a0 : Bool) (b0 c0 d0 : Int) (e0 : Bool) (f0 : Heap) : Prop :=
(e0 = true →
 R (.returned (.tuple #[.bool a0, .int .i64 c0, .int .i64 (-1074 : Int), .bool true])) f0) ∧
(e0 = false →
((decide (d0 = (2 : Int))) = true →
 R (.returned (.tuple #[.bool a0, .int .i64 (IntKind.i64.wrap ((4503599627370496 : Int) + c0)), .int .i64 (IntKind.i64.wrap (b0 - (1075 : Int))), .bool true])) f0) ∧
((decide (d0 = (2 : Int))) = false →
 R (.returned (.tuple #[.bool false, .int .i64 (0 : Int), .int .i64 (0 : Int), .bool false])) f0))
def F160 (B : World) (R : Po) (g0 : Int) (h : Heap) : Prop :=
 Ec B 60 #[.int .i64 g0] (retE (fun i0 j0 => ∃ k0 l0 m0, i0 = .tuple #[.bool k0, .int .i64 l0, .int .i64 m0] ∧
 Ec B 35 #[.int .i64 g0] (retE (fun n0 o0 => ∃ p0, n0 = .int .i64 p0 ∧
((decide (p0 = (0 : Int))) = true →
 F160_j14 B R k0 l0 m0 p0 (decide (p0 = (0 : Int))) o0) ∧
((decide (p0 = (0 : Int))) = false →
 F160_j14 B R k0 l0 m0 p0 (decide (p0 = (1 : Int))) o0))
(pk R)) j0)
(pk R)) h
def F160_L : Nat → List (Nat × TypeDesc) := fun _ => []
theorem F160_ok {B : World} {R : Ending → Heap → Prop} (g0 : Int) {h : Heap} (H : F160 B R g0 h) : Ec B 64 #[.int .i64 g0] R h :=
 Ek Tryz.func64 (by kernel_rfl) (by kernel_rfl) (by kernel_rfl) F160_L [] (by kernel_rfl) H

/-- plumb/plumbref2.From -/
def F161 (B : World) (R : Po) (a0 : Int) (h : Heap) : Prop :=
 ∃ b0 : Lp, ∃ c0, b0 c0 [.int .i64 a0, .slice none 0 0] h ∧
∀ (d0 : Nat) (e0 : Heap) (f0 : Int) (g0 : OA) (i0 j0 : Nat), b0 d0 [.int .i64 f0, .slice g0 i0 j0] e0 → ∀ _r : Nat → Value,
((decide ((0 : Int) < f0)) = true →
(1073741824 : Int) ≠ 0 ∧
 alW e0 (.cells #[.int .i64 (Int.tmod f0 (1073741824 : Int))] 3) fun k0 l0 =>
 apW l0 g0 i0 j0 (some ⟨k0, 0, none⟩) 1 1 8 3 #[.int .i64 0] fun m0 n0 o0 p0 =>
(1073741824 : Int) ≠ 0 ∧
∃ q0, q0 < d0 ∧ b0 q0 [.int .i64 (IntKind.i64.wrap (Int.tdiv f0 (1073741824 : Int))), .slice m0 n0 o0] p0) ∧
((decide ((0 : Int) < f0)) = false →
 R (.returned (.slice g0 i0 j0)) e0)
def F161_L : Nat → List (Nat × TypeDesc) := fun i => match i with
  | 2 => [(0, .int .i64), (3, .slice 0)]
  | _ => []
theorem F161_ok {B : World} {R : Ending → Heap → Prop} (a0 : Int) {h : Heap} (H : F161 B R a0 h) : Ec B 66 #[.int .i64 a0] R h :=
 Ek Tryz.func66 (by kernel_rfl) (by kernel_rfl) (by kernel_rfl) F161_L [] (by kernel_rfl) H

/-- plumb/plumbref1.shifted -/
def F162_j36 (B : World) (R : Po) (a0 : Lp) (b0 : Nat) (c0 : Lp) (d0 : Nat) (e0 f0 g0 i0 : Int) (j0 : Bool) (k0 : Heap) : Prop :=
(j0 = true →
 ∃ l0, l0 < d0 ∧ c0 l0 [.int .i64 (IntKind.i64.wrap (e0 + e0)), .int .i64 (IntKind.i64.wrap (f0 - (1 : Int))), .int .i64 g0, .int .i64 i0] k0) ∧
(j0 = false →
 R (.returned (.tuple #[.int .i64 e0, .int .i64 f0, .bool true])) k0)
def F162_j21 (B : World) (R : Po) (a0 : Lp) (b0 : Nat) (m0 n0 o0 p0 : Int) (q0 : Bool) (r0 : Heap) : Prop :=
(q0 = true →
 R (.returned (.tuple #[.int .i64 (0 : Int), .int .i64 (0 : Int), .bool false])) r0) ∧
(q0 = false →
 ∃ c0 : Lp, ∃ s0, c0 s0 [.int .i64 m0, .int .i64 n0, .int .i64 o0, .int .i64 p0] r0 ∧
∀ (d0 : Nat) (t0 : Heap) (u0 v0 w0 x0 : Int), c0 d0 [.int .i64 u0, .int .i64 v0, .int .i64 w0, .int .i64 x0] t0 → ∀ _r : Nat → Value,
((decide (w0 < v0)) = true →
 0 ≤ (IntKind.i64.wrap (x0 - (1 : Int))) ∧
 F162_j36 B R a0 b0 c0 d0 u0 v0 w0 x0 (decide (u0 < (IntKind.i64.wrap ((1 : Int) * 2 ^ min (Int.toNat (IntKind.i64.wrap (x0 - (1 : Int)))) IntKind.i64.bits)))) t0) ∧
((decide (w0 < v0)) = false →
 F162_j36 B R a0 b0 c0 d0 u0 v0 w0 x0 false t0))
def F162_j13 (B : World) (R : Po) (a0 : Lp) (b0 : Nat) (y0 z0 a1 b1 : Int) (c1 : Bool) (d1 : Heap) : Prop :=
(c1 = true →
(2 : Int) ≠ 0 ∧
∃ e1, e1 < b0 ∧ a0 e1 [.int .i64 (IntKind.i64.wrap (Int.tdiv y0 (2 : Int))), .int .i64 (IntKind.i64.wrap (z0 + (1 : Int))), .int .i64 a1, .int .i64 b1] d1) ∧
(c1 = false →
 0 ≤ b1 ∧
((decide ((IntKind.i64.wrap ((1 : Int) * 2 ^ min (Int.toNat b1) IntKind.i64.bits)) ≤ y0)) = true →
 F162_j21 B R a0 b0 y0 z0 a1 b1 true d1) ∧
((decide ((IntKind.i64.wrap ((1 : Int) * 2 ^ min (Int.toNat b1) IntKind.i64.bits)) ≤ y0)) = false →
 F162_j21 B R a0 b0 y0 z0 a1 b1 (decide (z0 < a1)) d1))
def F162 (B : World) (R : Po) (f1 g1 i1 j1 : Int) (h : Heap) : Prop :=
 ∃ a0 : Lp, ∃ k1, a0 k1 [.int .i64 f1, .int .i64 g1, .int .i64 i1, .int .i64 j1] h ∧
∀ (b0 : Nat) (l1 : Heap) (m1 n1 o1 p1 : Int), a0 b0 [.int .i64 m1, .int .i64 n1, .int .i64 o1, .int .i64 p1] l1 → ∀ _r : Nat → Value,
((decide ((0 : Int) < m1)) = true →
(2 : Int) ≠ 0 ∧
 F162_j13 B R a0 b0 m1 n1 o1 p1 (decide ((Int.tmod m1 (2 : Int)) = (0 : Int))) l1) ∧
((decide ((0 : Int) < m1)) = false →
 F162_j13 B R a0 b0 m1 n1 o1 p1 false l1)
def F162_L : Nat → List (Nat × TypeDesc) := fun i => match i with
  | 1 => [(0, .int .i64), (1, .int .i64), (2, .int .i64), (3, .int .i64)]
  | 6 => [(0, .int .i64), (1, .int .i64), (2, .int .i64), (3, .int .i64)]
  | _ => []
theorem F162_ok {B : World} {R : Ending → Heap → Prop} (f1 g1 i1 j1 : Int) {h : Heap} (H : F162 B R f1 g1 i1 j1 h) : Ec B 186 #[.int .i64 f1, .int .i64 g1, .int .i64 i1, .int .i64 j1] R h :=
 Ek Tryz.func186 (by kernel_rfl) (by kernel_rfl) (by kernel_rfl) F162_L [] (by kernel_rfl) H

/-- plumb/plumbref2.Shl -/
def F177 (B : World) (R : Po) (a0 : OA) (b0 c0 : Nat) (d0 : Int) (h : Heap) : Prop :=
((decide ((b0 : Int) = (0 : Int))) = true →
 R (.returned (.slice none 0 0)) h) ∧
((decide ((b0 : Int) = (0 : Int))) = false →
(30 : Int) ≠ 0 ∧
0 ≤ (IntKind.i64.wrap (Int.tdiv d0 (30 : Int))) ∧ (IntKind.i64.wrap (Int.tdiv d0 (30 : Int))) ≤ (IntKind.i64.wrap (Int.tdiv d0 (30 : Int))) ∧ 8 * (IntKind.i64.wrap (Int.tdiv d0 (30 : Int))) ≤ 281474976710656 ∧ (IntKind.i64.wrap (Int.tdiv d0 (30 : Int))) < 9223372036854775808 ∧
 alW h (.cells (mkCells #[.int .i64 0] (Int.toNat (IntKind.i64.wrap (Int.tdiv d0 (30 : Int))) * 1)) 3) fun e0 f0 =>
(30 : Int) ≠ 0 ∧
0 ≤ (Int.tmod d0 (30 : Int)) ∧
∃ g0 : Lp, ∃ i0, g0 i0 [.slice a0 b0 c0, .slice (some ⟨e0, 0, none⟩) (Int.toNat (IntKind.i64.wrap (Int.tdiv d0 (30 : Int)))) (Int.toNat (IntKind.i64.wrap (Int.tdiv d0 (30 : Int)))), .int .i64 (IntKind.i64.wrap ((1 : Int) * 2 ^ min (Int.toNat (Int.tmod d0 (30 : Int))) IntKind.i64.bits)), .int .i64 (0 : Int), .int .i64 (0 : Int)] f0 ∧
∀ (j0 : Nat) (k0 : Heap) (l0 : OA) (m0 n0 : Nat) (o0 : OA) (p0 q0 : Nat) (r0 s0 t0 : Int), g0 j0 [.slice l0 m0 n0, .slice o0 p0 q0, .int .i64 r0, .int .i64 s0, .int .i64 t0] k0 → ∀ _r : Nat → Value,
((decide (t0 < (m0 : Int))) = true →
 ixW l0 m0 t0 1 fun u0 v0 =>
 iP u0 v0 fun w0 x0 => ∃ y0, cI k0 w0 x0 .i64 y0 ∧
(1073741824 : Int) ≠ 0 ∧
 alW k0 (.cells #[.int .i64 (Int.tmod (IntKind.i64.wrap ((IntKind.i64.wrap (y0 * r0)) + s0)) (1073741824 : Int))] 3) fun z0 a1 =>
 apW a1 o0 p0 q0 (some ⟨z0, 0, none⟩) 1 1 8 3 #[.int .i64 0] fun b1 c1 d1 e1 =>
(1073741824 : Int) ≠ 0 ∧
∃ f1, f1 < j0 ∧ g0 f1 [.slice l0 m0 n0, .slice b1 c1 d1, .int .i64 r0, .int .i64 (IntKind.i64.wrap (Int.tdiv (IntKind.i64.wrap ((IntKind.i64.wrap (y0 * r0)) + s0)) (1073741824 : Int))), .int .i64 (IntKind.i64.wrap (t0 + (1 : Int)))] e1) ∧
((decide (t0 < (m0 : Int))) = false →
 alW k0 (.cells #[.int .i64 s0] 3) fun g1 i1 =>
 apW i1 o0 p0 q0 (some ⟨g1, 0, none⟩) 1 1 8 3 #[.int .i64 0] fun j1 k1 l1 m1 =>
 Ec B 146 #[.slice j1 k1 l1] (retE (fun n1 o1 => ∃ p1 q1 r1, n1 = .slice p1 q1 r1 ∧
 R (.returned (.slice p1 q1 r1)) o1)
(pk R)) m1))
def F177_L : Nat → List (Nat × TypeDesc) := fun i => match i with
  | 7 => [(0, .slice 0), (5, .slice 0), (6, .int .i64), (7, .int .i64), (8, .int .i64)]
  | _ => []
theorem F177_ok {B : World} {R : Ending → Heap → Prop} (a0 : OA) (b0 c0 : Nat) (d0 : Int) {h : Heap} (H : F177 B R a0 b0 c0 d0 h) : Ec B 109 #[.slice a0 b0 c0, .int .i64 d0] R h :=
 Ek Tryz.func109 (by kernel_rfl) (by kernel_rfl) (by kernel_rfl) F177_L [] (by kernel_rfl) H

/-- plumb/plumbref2.Add -/
def F178_j37 (B : World) (R : Po) (a0 : Lp) (b0 : Nat) (c0 : OA) (d0 e0 : Nat) (f0 : OA) (g0 i0 : Nat) (j0 : OA) (k0 l0 : Nat) (m0 n0 : Int) (o0 : Heap) : Prop :=
(1073741824 : Int) ≠ 0 ∧
 alW o0 (.cells #[.int .i64 (Int.tmod n0 (1073741824 : Int))] 3) fun p0 q0 =>
 apW q0 j0 k0 l0 (some ⟨p0, 0, none⟩) 1 1 8 3 #[.int .i64 0] fun r0 s0 t0 u0 =>
(1073741824 : Int) ≠ 0 ∧
∃ v0, v0 < b0 ∧ a0 v0 [.slice c0 d0 e0, .slice f0 g0 i0, .slice r0 s0 t0, .int .i64 (IntKind.i64.wrap (Int.tdiv n0 (1073741824 : Int))), .int .i64 (IntKind.i64.wrap (m0 + (1 : Int)))] u0
def F178_j25 (B : World) (R : Po) (a0 : Lp) (b0 : Nat) (w0 : OA) (x0 y0 : Nat) (z0 : OA) (a1 b1 : Nat) (c1 : OA) (d1 e1 : Nat) (f1 g1 : Int) (i1 : Heap) : Prop :=
((decide (f1 < (a1 : Int))) = true →
 ixW z0 a1 f1 1 fun j1 k1 =>
 iP j1 k1 fun l1 m1 => ∃ n1, cI i1 l1 m1 .i64 n1 ∧
 F178_j37 B R a0 b0 w0 x0 y0 z0 a1 b1 c1 d1 e1 f1 (IntKind.i64.wrap (g1 + n1)) i1) ∧
((decide (f1 < (a1 : Int))) = false →
 F178_j37 B R a0 b0 w0 x0 y0 z0 a1 b1 c1 d1 e1 f1 g1 i1)
def F178_j12 (B : World) (R : Po) (a0 : Lp) (b0 : Nat) (o1 : OA) (p1 q1 : Nat) (r1 : OA) (s1 t1 : Nat) (u1 : OA) (v1 w1 : Nat) (x1 y1 : Int) (z1 : Bool) (a2 : Heap) : Prop :=
(z1 = true →
((decide (y1 < (p1 : Int))) = true →
 ixW o1 p1 y1 1 fun b2 c2 =>
 iP b2 c2 fun d2 e2 => ∃ f2, cI a2 d2 e2 .i64 f2 ∧
 F178_j25 B R a0 b0 o1 p1 q1 r1 s1 t1 u1 v1 w1 y1 (IntKind.i64.wrap (x1 + f2)) a2) ∧
((decide (y1 < (p1 : Int))) = false →
 F178_j25 B R a0 b0 o1 p1 q1 r1 s1 t1 u1 v1 w1 y1 x1 a2)) ∧
(z1 = false →
 R (.returned (.slice u1 v1 w1)) a2)
def F178 (B : World) (R : Po) (g2 : OA) (i2 j2 : Nat) (k2 : OA) (l2 m2 : Nat) (h : Heap) : Prop :=
 ∃ a0 : Lp, ∃ n2, a0 n2 [.slice g2 i2 j2, .slice k2 l2 m2, .slice none 0 0, .int .i64 (0 : Int), .int .i64 (0 : Int)] h ∧
∀ (b0 : Nat) (o2 : Heap) (p2 : OA) (q2 r2 : Nat) (s2 : OA) (t2 u2 : Nat) (v2 : OA) (w2 x2 : Nat) (y2 z2 : Int), a0 b0 [.slice p2 q2 r2, .slice s2 t2 u2, .slice v2 w2 x2, .int .i64 y2, .int .i64 z2] o2 → ∀ _r : Nat → Value,
((decide (z2 < (q2 : Int))) = true →
(true = true →
 F178_j12 B R a0 b0 p2 q2 r2 s2 t2 u2 v2 w2 x2 y2 z2 true o2) ∧
(true = false →
 F178_j12 B R a0 b0 p2 q2 r2 s2 t2 u2 v2 w2 x2 y2 z2 (decide ((0 : Int) < y2)) o2)) ∧
((decide (z2 < (q2 : Int))) = false →
((decide (z2 < (t2 : Int))) = true →
 F178_j12 B R a0 b0 p2 q2 r2 s2 t2 u2 v2 w2 x2 y2 z2 true o2) ∧
((decide (z2 < (t2 : Int))) = false →
 F178_j12 B R a0 b0 p2 q2 r2 s2 t2 u2 v2 w2 x2 y2 z2 (decide ((0 : Int) < y2)) o2))
def F178_L : Nat → List (Nat × TypeDesc) := fun i => match i with
  | 4 => [(0, .slice 0), (1, .slice 0), (5, .slice 0), (6, .int .i64), (7, .int .i64)]
  | _ => []
theorem F178_ok {B : World} {R : Ending → Heap → Prop} (g2 : OA) (i2 j2 : Nat) (k2 : OA) (l2 m2 : Nat) {h : Heap} (H : F178 B R g2 i2 j2 k2 l2 m2 h) : Ec B 110 #[.slice g2 i2 j2, .slice k2 l2 m2] R h :=
 Ek Tryz.func110 (by kernel_rfl) (by kernel_rfl) (by kernel_rfl) F178_L [] (by kernel_rfl) H

/-- plumb/plumbref2.Cmp -/
def F179_j36 (B : World) (R : Po) (a0 : Lp) (b0 : Nat) (c0 : OA) (d0 e0 : Nat) (f0 : OA) (g0 i0 : Nat) (j0 : Int) (k0 : Bool) (l0 : Heap) : Prop :=
(k0 = true →
 R (.returned (.int .i64 (1 : Int))) l0) ∧
(k0 = false →
 ∃ m0, m0 < b0 ∧ a0 m0 [.slice c0 d0 e0, .slice f0 g0 i0, .int .i64 (IntKind.i64.wrap (j0 - (1 : Int)))] l0)
def F179_j20 (B : World) (R : Po) (a0 : Lp) (b0 : Nat) (n0 : OA) (o0 p0 : Nat) (q0 : OA) (r0 s0 : Nat) (t0 : Int) (u0 : Bool) (v0 : Heap) : Prop :=
(u0 = true →
 R (.returned (.int .i64 (-1 : Int))) v0) ∧
(u0 = false →
 ixW n0 o0 t0 1 fun w0 x0 =>
 iP w0 x0 fun y0 z0 => ∃ a1, cI v0 y0 z0 .i64 a1 ∧
 ixW q0 r0 t0 1 fun b1 c1 =>
 iP b1 c1 fun d1 e1 => ∃ f1, cI v0 d1 e1 .i64 f1 ∧
 F179_j36 B R a0 b0 n0 o0 p0 q0 r0 s0 t0 (decide (f1 < a1)) v0)
def F179 (B : World) (R : Po) (g1 : OA) (i1 j1 : Nat) (k1 : OA) (l1 m1 : Nat) (h : Heap) : Prop :=
((!decide ((i1 : Int) = (l1 : Int))) = true →
((decide ((i1 : Int) < (l1 : Int))) = true →
 R (.returned (.int .i64 (-1 : Int))) h) ∧
((decide ((i1 : Int) < (l1 : Int))) = false →
 R (.returned (.int .i64 (1 : Int))) h)) ∧
((!decide ((i1 : Int) = (l1 : Int))) = false →
 ∃ a0 : Lp, ∃ n1, a0 n1 [.slice g1 i1 j1, .slice k1 l1 m1, .int .i64 (IntKind.i64.wrap ((i1 : Int) - (1 : Int)))] h ∧
∀ (b0 : Nat) (o1 : Heap) (p1 : OA) (q1 r1 : Nat) (s1 : OA) (t1 u1 : Nat) (v1 : Int), a0 b0 [.slice p1 q1 r1, .slice s1 t1 u1, .int .i64 v1] o1 → ∀ _r : Nat → Value,
((decide ((0 : Int) ≤ v1)) = true →
 ixW p1 q1 v1 1 fun w1 x1 =>
 iP w1 x1 fun y1 z1 => ∃ a2, cI o1 y1 z1 .i64 a2 ∧
 ixW s1 t1 v1 1 fun b2 c2 =>
 iP b2 c2 fun d2 e2 => ∃ f2, cI o1 d2 e2 .i64 f2 ∧
 F179_j20 B R a0 b0 p1 q1 r1 s1 t1 u1 v1 (decide (a2 < f2)) o1) ∧
((decide ((0 : Int) ≤ v1)) = false →
 R (.returned (.int .i64 (0 : Int))) o1))
def F179_L : Nat → List (Nat × TypeDesc) := fun i => match i with
  | 6 => [(0, .slice 0), (1, .slice 0), (5, .int .i64)]
  | _ => []
theorem F179_ok {B : World} {R : Ending → Heap → Prop} (g1 : OA) (i1 j1 : Nat) (k1 : OA) (l1 m1 : Nat) {h : Heap} (H : F179 B R g1 i1 j1 k1 l1 m1 h) : Ec B 111 #[.slice g1 i1 j1, .slice k1 l1 m1] R h :=
 Ek Tryz.func111 (by kernel_rfl) (by kernel_rfl) (by kernel_rfl) F179_L [] (by kernel_rfl) H

/-- plumb/plumbref2.Sub -/
def F180_j29 (B : World) (R : Po) (a0 : Lp) (b0 : Nat) (c0 : OA) (d0 e0 : Nat) (f0 : OA) (g0 i0 : Nat) (j0 : OA) (k0 l0 : Nat) (m0 n0 o0 : Int) (p0 : Heap) : Prop :=
 alW p0 (.cells #[.int .i64 o0] 3) fun q0 r0 =>
 apW r0 j0 k0 l0 (some ⟨q0, 0, none⟩) 1 1 8 3 #[.int .i64 0] fun s0 t0 u0 v0 =>
∃ w0, w0 < b0 ∧ a0 w0 [.slice c0 d0 e0, .slice f0 g0 i0, .slice s0 t0 u0, .int .i64 m0, .int .i64 (IntKind.i64.wrap (n0 + (1 : Int)))] v0
def F180_j22 (B : World) (R : Po) (a0 : Lp) (b0 : Nat) (x0 : OA) (y0 z0 : Nat) (a1 : OA) (b1 c1 : Nat) (d1 : OA) (e1 f1 : Nat) (g1 i1 : Int) (j1 : Heap) : Prop :=
((decide (i1 < (0 : Int))) = true →
 F180_j29 B R a0 b0 x0 y0 z0 a1 b1 c1 d1 e1 f1 (1 : Int) g1 (IntKind.i64.wrap (i1 + (1073741824 : Int))) j1) ∧
((decide (i1 < (0 : Int))) = false →
 F180_j29 B R a0 b0 x0 y0 z0 a1 b1 c1 d1 e1 f1 (0 : Int) g1 i1 j1)
def F180 (B : World) (R : Po) (k1 : OA) (l1 m1 : Nat) (n1 : OA) (o1 p1 : Nat) (h : Heap) : Prop :=
 ∃ a0 : Lp, ∃ q1, a0 q1 [.slice k1 l1 m1, .slice n1 o1 p1, .slice none 0 0, .int .i64 (0 : Int), .int .i64 (0 : Int)] h ∧
∀ (b0 : Nat) (r1 : Heap) (s1 : OA) (t1 u1 : Nat) (v1 : OA) (w1 x1 : Nat) (y1 : OA) (z1 a2 : Nat) (b2 c2 : Int), a0 b0 [.slice s1 t1 u1, .slice v1 w1 x1, .slice y1 z1 a2, .int .i64 b2, .int .i64 c2] r1 → ∀ _r : Nat → Value,
((decide (c2 < (t1 : Int))) = true →
 ixW s1 t1 c2 1 fun d2 e2 =>
 iP d2 e2 fun f2 g2 => ∃ i2, cI r1 f2 g2 .i64 i2 ∧
((decide (c2 < (w1 : Int))) = true →
 ixW v1 w1 c2 1 fun j2 k2 =>
 iP j2 k2 fun l2 m2 => ∃ n2, cI r1 l2 m2 .i64 n2 ∧
 F180_j22 B R a0 b0 s1 t1 u1 v1 w1 x1 y1 z1 a2 c2 (IntKind.i64.wrap ((IntKind.i64.wrap (i2 - b2)) - n2)) r1) ∧
((decide (c2 < (w1 : Int))) = false →
 F180_j22 B R a0 b0 s1 t1 u1 v1 w1 x1 y1 z1 a2 c2 (IntKind.i64.wrap (i2 - b2)) r1)) ∧
((decide (c2 < (t1 : Int))) = false →
 Ec B 146 #[.slice y1 z1 a2] (retE (fun o2 p2 => ∃ q2 r2 s2, o2 = .slice q2 r2 s2 ∧
 R (.returned (.slice q2 r2 s2)) p2)
(pk R)) r1)
def F180_L : Nat → List (Nat × TypeDesc) := fun i => match i with
  | 4 => [(0, .slice 0), (1, .slice 0), (5, .slice 0), (6, .int .i64), (7, .int .i64)]
  | _ => []
theorem F180_ok {B : World} {R : Ending → Heap → Prop} (k1 : OA) (l1 m1 : Nat) (n1 : OA) (o1 p1 : Nat) {h : Heap} (H : F180 B R k1 l1 m1 n1 o1 p1 h) : Ec B 112 #[.slice k1 l1 m1, .slice n1 o1 p1] R h :=
 Ek Tryz.func112 (by kernel_rfl) (by kernel_rfl) (by kernel_rfl) F180_L [] (by kernel_rfl) H

/-- plumb/plumbref4.K64 -/
def F186 (B : World) (R : Po) (h : Heap) : Prop :=
 alW h (.cells #[.int .i64 0, .int .i64 0, .int .i64 0, .int .i64 0, .int .i64 0] 95) fun a0 b0 =>
 iP a0 0 fun c0 d0 => stC b0 c0 d0 (.int .i64 (53 : Int)) fun e0 =>
 stC e0 c0 (d0 + 1) (.int .i64 (-1074 : Int)) fun f0 =>
 stC f0 c0 (d0 + 1 + 1) (.int .i64 (1024 : Int)) fun g0 =>
 stC g0 c0 (d0 + 1 + 1 + 1) (.int .i64 (9218868437227405312 : Int)) fun i0 =>
 stC i0 c0 (d0 + 1 + 1 + 1 + 1) (.int .i64 (-9223372036854775808 : Int)) fun j0 =>
 iP a0 0 fun k0 l0 =>
∃ m0, cI j0 k0 l0 .i64 m0 ∧
∃ n0, cell? j0 ⟨k0, l0 + 1, none⟩ = some (.int .i64 n0) ∧
∃ o0, cell? j0 ⟨k0, l0 + 1 + 1, none⟩ = some (.int .i64 o0) ∧
∃ p0, cell? j0 ⟨k0, l0 + 1 + 1 + 1, none⟩ = some (.int .i64 p0) ∧
∃ q0, cell? j0 ⟨k0, l0 + 1 + 1 + 1 + 1, none⟩ = some (.int .i64 q0) ∧
 R (.returned (.agg #[.int .i64 m0, .int .i64 n0, .int .i64 o0, .int .i64 p0, .int .i64 q0])) j0
def F186_L : Nat → List (Nat × TypeDesc) := fun _ => []
theorem F186_ok {B : World} {R : Ending → Heap → Prop} {h : Heap} (H : F186 B R h) : Ec B 58 #[] R h :=
 Ek Tryz.func58 (by kernel_rfl) (by kernel_rfl) (by kernel_rfl) F186_L [] (by kernel_rfl) H

/-- plumb/plumbref2.Low -/
def F190 (B : World) (R : Po) (a0 : OA) (b0 c0 : Nat) (h : Heap) : Prop :=
 ∃ d0 : Lp, ∃ e0, d0 e0 [.slice a0 b0 c0, .int .i64 (0 : Int)] h ∧
∀ (f0 : Nat) (g0 : Heap) (i0 : OA) (j0 k0 : Nat) (l0 : Int), d0 f0 [.slice i0 j0 k0, .int .i64 l0] g0 → ∀ _r : Nat → Value,
((decide (l0 < (j0 : Int))) = true →
 ixW i0 j0 l0 1 fun m0 n0 =>
 iP m0 n0 fun o0 p0 => ∃ q0, cI g0 o0 p0 .i64 q0 ∧
((!decide (q0 = (0 : Int))) = true →
 ixW i0 j0 l0 1 fun r0 s0 =>
 iP r0 s0 fun t0 u0 => ∃ v0, cI g0 t0 u0 .i64 v0 ∧
∃ w0 : Lp, ∃ x0, w0 x0 [.int .i64 (IntKind.i64.wrap ((30 : Int) * l0)), .int .i64 v0] g0 ∧
∀ (y0 : Nat) (z0 : Heap) (a1 b1 : Int), w0 y0 [.int .i64 a1, .int .i64 b1] z0 → ∀ _r : Nat → Value,
(2 : Int) ≠ 0 ∧
((decide ((Int.tmod b1 (2 : Int)) = (0 : Int))) = true →
(2 : Int) ≠ 0 ∧
∃ c1, c1 < y0 ∧ w0 c1 [.int .i64 (IntKind.i64.wrap (a1 + (1 : Int))), .int .i64 (IntKind.i64.wrap (Int.tdiv b1 (2 : Int)))] z0) ∧
((decide ((Int.tmod b1 (2 : Int)) = (0 : Int))) = false →
 R (.returned (.int .i64 a1)) z0)) ∧
((!decide (q0 = (0 : Int))) = false →
 ∃ d1, d1 < f0 ∧ d0 d1 [.slice i0 j0 k0, .int .i64 (IntKind.i64.wrap (l0 + (1 : Int)))] g0)) ∧
((decide (l0 < (j0 : Int))) = false →
 R (.returned (.int .i64 (-1 : Int))) g0)
def F190_L : Nat → List (Nat × TypeDesc) := fun i => match i with
  | 2 => [(0, .slice 0), (3, .int .i64)]
  | 7 => [(4, .int .i64), (5, .int .i64)]
  | _ => []
theorem F190_ok {B : World} {R : Ending → Heap → Prop} (a0 : OA) (b0 c0 : Nat) {h : Heap} (H : F190 B R a0 b0 c0 h) : Ec B 113 #[.slice a0 b0 c0] R h :=
 Ek Tryz.func113 (by kernel_rfl) (by kernel_rfl) (by kernel_rfl) F190_L [] (by kernel_rfl) H

/-- plumb/plumbref2.Shr -/
def F191_j28 (B : World) (R : Po) (a0 : Lp) (b0 : Nat) (c0 : OA) (d0 e0 : Nat) (f0 : OA) (g0 i0 : Nat) (j0 k0 l0 : Int) (m0 : Heap) : Prop :=
 alW m0 (.cells #[.int .i64 l0] 3) fun n0 o0 =>
 apW o0 f0 g0 i0 (some ⟨n0, 0, none⟩) 1 1 8 3 #[.int .i64 0] fun p0 q0 r0 s0 =>
∃ t0, t0 < b0 ∧ a0 t0 [.slice c0 d0 e0, .slice p0 q0 r0, .int .i64 j0, .int .i64 (IntKind.i64.wrap (k0 + (1 : Int)))] s0
def F191_j21 (B : World) (R : Po) (a0 : Lp) (b0 : Nat) (u0 : OA) (v0 w0 : Nat) (x0 : OA) (y0 z0 : Nat) (a1 b1 c1 : Int) (d1 : Heap) : Prop :=
 F191_j28 B R a0 b0 u0 v0 w0 x0 y0 z0 a1 b1 c1 d1
def F191 (B : World) (R : Po) (e1 : OA) (f1 g1 : Nat) (i1 : Int) (h : Heap) : Prop :=
(30 : Int) ≠ 0 ∧
((decide ((f1 : Int) ≤ (IntKind.i64.wrap (Int.tdiv i1 (30 : Int))))) = true →
 R (.returned (.slice none 0 0)) h) ∧
((decide ((f1 : Int) ≤ (IntKind.i64.wrap (Int.tdiv i1 (30 : Int))))) = false →
(30 : Int) ≠ 0 ∧
0 ≤ (Int.tmod i1 (30 : Int)) ∧
(30 : Int) ≠ 0 ∧
∃ a0 : Lp, ∃ j1, a0 j1 [.slice e1 f1 g1, .slice none 0 0, .int .i64 (IntKind.i64.wrap ((1 : Int) * 2 ^ min (Int.toNat (Int.tmod i1 (30 : Int))) IntKind.i64.bits)), .int .i64 (IntKind.i64.wrap (Int.tdiv i1 (30 : Int)))] h ∧
∀ (b0 : Nat) (k1 : Heap) (l1 : OA) (m1 n1 : Nat) (o1 : OA) (p1 q1 : Nat) (r1 s1 : Int), a0 b0 [.slice l1 m1 n1, .slice o1 p1 q1, .int .i64 r1, .int .i64 s1] k1 → ∀ _r : Nat → Value,
((decide (s1 < (m1 : Int))) = true →
 ixW l1 m1 s1 1 fun t1 u1 =>
 iP t1 u1 fun v1 w1 => ∃ x1, cI k1 v1 w1 .i64 x1 ∧
 r1 ≠ 0 ∧
((decide ((IntKind.i64.wrap (s1 + (1 : Int))) < (m1 : Int))) = true →
 ixW l1 m1 (IntKind.i64.wrap (s1 + (1 : Int))) 1 fun y1 z1 =>
 iP y1 z1 fun a2 b2 => ∃ c2, cI k1 a2 b2 .i64 c2 ∧
 r1 ≠ 0 ∧
 r1 ≠ 0 ∧
 F191_j21 B R a0 b0 l1 m1 n1 o1 p1 q1 r1 s1 (IntKind.i64.wrap ((IntKind.i64.wrap (Int.tdiv x1 r1)) + (IntKind.i64.wrap ((Int.tmod c2 r1) * (IntKind.i64.wrap (Int.tdiv (1073741824 : Int) r1)))))) k1) ∧
((decide ((IntKind.i64.wrap (s1 + (1 : Int))) < (m1 : Int))) = false →
 F191_j28 B R a0 b0 l1 m1 n1 o1 p1 q1 r1 s1 (IntKind.i64.wrap (Int.tdiv x1 r1)) k1)) ∧
((decide (s1 < (m1 : Int))) = false →
 Ec B 146 #[.slice o1 p1 q1] (retE (fun d2 e2 => ∃ f2 g2 i2, d2 = .slice f2 g2 i2 ∧
 R (.returned (.slice f2 g2 i2)) e2)
(pk R)) k1))
def F191_L : Nat → List (Nat × TypeDesc) := fun i => match i with
  | 6 => [(0, .slice 0), (5, .slice 0), (6, .int .i64), (7, .int .i64)]
  | _ => []
theorem F191_ok {B : World} {R : Ending → Heap → Prop} (e1 : OA) (f1 g1 : Nat) (i1 : Int) {h : Heap} (H : F191 B R e1 f1 g1 i1 h) : Ec B 114 #[.slice e1 f1 g1, .int .i64 i1] R h :=
 Ek Tryz.func114 (by kernel_rfl) (by kernel_rfl) (by kernel_rfl) F191_L [] (by kernel_rfl) H

/-- plumb/plumbref2.trim -/
def F192_j13 (B : World) (R : Po) (a0 : Lp) (b0 : Nat) (c0 : OA) (d0 e0 : Nat) (f0 : Int) (g0 : Bool) (i0 : Heap) : Prop :=
(g0 = true →
 ∃ j0, j0 < b0 ∧ a0 j0 [.slice c0 d0 e0, .int .i64 (IntKind.i64.wrap (f0 - (1 : Int)))] i0) ∧
(g0 = false →
 slW d0 e0 none (some (.int .i64 f0)) none fun k0 l0 m0 =>
 R (.returned (.slice (slP c0 k0 m0 1) (l0 - k0) (m0 - k0))) i0)
def F192 (B : World) (R : Po) (n0 : OA) (o0 p0 : Nat) (h : Heap) : Prop :=
 ∃ a0 : Lp, ∃ q0, a0 q0 [.slice n0 o0 p0, .int .i64 (o0 : Int)] h ∧
∀ (b0 : Nat) (r0 : Heap) (s0 : OA) (t0 u0 : Nat) (v0 : Int), a0 b0 [.slice s0 t0 u0, .int .i64 v0] r0 → ∀ _r : Nat → Value,
((decide ((0 : Int) < v0)) = true →
 ixW s0 t0 (IntKind.i64.wrap (v0 - (1 : Int))) 1 fun w0 x0 =>
 iP w0 x0 fun y0 z0 => ∃ a1, cI r0 y0 z0 .i64 a1 ∧
 F192_j13 B R a0 b0 s0 t0 u0 v0 (decide (a1 = (0 : Int))) r0) ∧
((decide ((0 : Int) < v0)) = false →
 F192_j13 B R a0 b0 s0 t0 u0 v0 false r0)
def F192_L : Nat → List (Nat × TypeDesc) := fun i => match i with
  | 2 => [(0, .slice 0), (3, .int .i64)]
  | _ => []
theorem F192_ok {B : World} {R : Ending → Heap → Prop} (n0 : OA) (o0 p0 : Nat) {h : Heap} (H : F192 B R n0 o0 p0 h) : Ec B 146 #[.slice n0 o0 p0] R h :=
 Ek Tryz.func146 (by kernel_rfl) (by kernel_rfl) (by kernel_rfl) F192_L [] (by kernel_rfl) H

/-- plumb/plumbref3.Neg -/
def F213_j23 (B : World) (R : Po) (a0 b0 : OA) (c0 : Heap) : Prop :=
 isP a0 fun d0 e0 =>
∃ f0, cell? c0 ⟨d0, e0, none⟩ = some (.bool f0) ∧
∃ g0 i0 j0, cell? c0 ⟨d0, e0 + 1, none⟩ = some (.slice g0 i0 j0) ∧
∃ k0, cell? c0 ⟨d0, e0 + 1 + 1, none⟩ = some (.int .i64 k0) ∧
 isP b0 fun l0 m0 => stC c0 l0 m0 (.bool f0) fun n0 =>
 stC n0 l0 (m0 + 1) (.slice g0 i0 j0) fun o0 =>
 stC o0 l0 (m0 + 1 + 1) (.int .i64 k0) fun p0 =>
 isP b0 fun q0 r0 =>
∃ s0, cell? p0 ⟨q0, r0, none⟩ = some (.bool s0) ∧
∃ t0 u0 v0, cell? p0 ⟨q0, r0 + 1, none⟩ = some (.slice t0 u0 v0) ∧
∃ w0, cell? p0 ⟨q0, r0 + 1 + 1, none⟩ = some (.int .i64 w0) ∧
 R (.returned (.agg #[.bool s0, .slice t0 u0 v0, .int .i64 w0])) p0
def F213 (B : World) (R : Po) (x0 : Bool) (y0 : OA) (z0 a1 : Nat) (b1 : Int) (h : Heap) : Prop :=
 alW h (.cells #[.bool x0, .slice y0 z0 a1, .int .i64 b1] 24) fun c1 d1 =>
 alW d1 (.cells #[.bool false, .slice none 0 0, .int .i64 0] 24) fun e1 f1 =>
 iP c1 0 fun g1 i1 =>
 isP (some ⟨g1, i1 + 1, none⟩) fun j1 k1 => ∃ l1 m1 n1, cS f1 j1 k1 l1 m1 n1 ∧
((decide ((0 : Int) < (m1 : Int))) = true →
 iP c1 0 fun o1 p1 =>
 iP o1 p1 fun q1 r1 => ∃ s1, cell? f1 ⟨q1, r1, none⟩ = some (.bool s1) ∧
 iP c1 0 fun t1 u1 =>
 iP t1 u1 fun v1 w1 => stC f1 v1 w1 (.bool (!s1)) fun x1 =>
 F213_j23 B R (some ⟨c1, 0, none⟩) (some ⟨e1, 0, none⟩) x1) ∧
((decide ((0 : Int) < (m1 : Int))) = false →
 F213_j23 B R (some ⟨c1, 0, none⟩) (some ⟨e1, 0, none⟩) f1)
def F213_L : Nat → List (Nat × TypeDesc) := fun _ => []
theorem F213_ok {B : World} {R : Ending → Heap → Prop} (x0 : Bool) (y0 : OA) (z0 a1 : Nat) (b1 : Int) {h : Heap} (H : F213 B R x0 y0 z0 a1 b1 h) : Ec B 63 #[.agg #[.bool x0, .slice y0 z0 a1, .int .i64 b1]] R h :=
 Ek Tryz.func63 (by kernel_rfl) (by kernel_rfl) (by kernel_rfl) F213_L [] (by kernel_rfl) H

/-- plumb/plumbref2.Bits -/
def F253 (B : World) (R : Po) (a0 : OA) (b0 c0 : Nat) (h : Heap) : Prop :=
((decide ((b0 : Int) = (0 : Int))) = true →
 R (.returned (.int .i64 (0 : Int))) h) ∧
((decide ((b0 : Int) = (0 : Int))) = false →
 ixW a0 b0 (IntKind.i64.wrap ((b0 : Int) - (1 : Int))) 1 fun d0 e0 =>
 iP d0 e0 fun f0 g0 => ∃ i0, cI h f0 g0 .i64 i0 ∧
∃ j0 : Lp, ∃ k0, j0 k0 [.int .i64 (IntKind.i64.wrap ((30 : Int) * (IntKind.i64.wrap ((b0 : Int) - (1 : Int))))), .int .i64 i0] h ∧
∀ (l0 : Nat) (m0 : Heap) (n0 o0 : Int), j0 l0 [.int .i64 n0, .int .i64 o0] m0 → ∀ _r : Nat → Value,
((decide ((0 : Int) < o0)) = true →
(2 : Int) ≠ 0 ∧
∃ p0, p0 < l0 ∧ j0 p0 [.int .i64 (IntKind.i64.wrap (n0 + (1 : Int))), .int .i64 (IntKind.i64.wrap (Int.tdiv o0 (2 : Int)))] m0) ∧
((decide ((0 : Int) < o0)) = false →
 R (.returned (.int .i64 n0)) m0))
def F253_L : Nat → List (Nat × TypeDesc) := fun i => match i with
  | 5 => [(3, .int .i64), (4, .int .i64)]
  | _ => []
theorem F253_ok {B : World} {R : Ending → Heap → Prop} (a0 : OA) (b0 c0 : Nat) {h : Heap} (H : F253 B R a0 b0 c0 h) : Ec B 142 #[.slice a0 b0 c0] R h :=
 Ek Tryz.func142 (by kernel_rfl) (by kernel_rfl) (by kernel_rfl) F253_L [] (by kernel_rfl) H

/-- plumb/plumbref2.Bit -/
def F254_j3 (B : World) (R : Po) (a0 : OA) (b0 c0 : Nat) (d0 : Int) (e0 : Bool) (f0 : Heap) : Prop :=
(e0 = true →
 R (.returned (.bool false)) f0) ∧
(e0 = false →
(30 : Int) ≠ 0 ∧
 ixW a0 b0 (IntKind.i64.wrap (Int.tdiv d0 (30 : Int))) 1 fun g0 i0 =>
 iP g0 i0 fun j0 k0 => ∃ l0, cI f0 j0 k0 .i64 l0 ∧
(30 : Int) ≠ 0 ∧
0 ≤ (Int.tmod d0 (30 : Int)) ∧
(2 : Int) ≠ 0 ∧
 R (.returned (.bool (decide ((Int.tmod (Int.fdiv l0 (2 ^ min (Int.toNat (Int.tmod d0 (30 : Int))) IntKind.i64.bits)) (2 : Int)) = (1 : Int))))) f0)
def F254 (B : World) (R : Po) (m0 : OA) (n0 o0 : Nat) (p0 : Int) (h : Heap) : Prop :=
((decide (p0 < (0 : Int))) = true →
 F254_j3 B R m0 n0 o0 p0 true h) ∧
((decide (p0 < (0 : Int))) = false →
(30 : Int) ≠ 0 ∧
 F254_j3 B R m0 n0 o0 p0 (decide ((n0 : Int) ≤ (IntKind.i64.wrap (Int.tdiv p0 (30 : Int))))) h)
def F254_L : Nat → List (Nat × TypeDesc) := fun _ => []
theorem F254_ok {B : World} {R : Ending → Heap → Prop} (m0 : OA) (n0 o0 : Nat) (p0 : Int) {h : Heap} (H : F254 B R m0 n0 o0 p0 h) : Ec B 143 #[.slice m0 n0 o0, .int .i64 p0] R h :=
 Ek Tryz.func143 (by kernel_rfl) (by kernel_rfl) (by kernel_rfl) F254_L [] (by kernel_rfl) H

/-- plumb/plumbref4.bitsOf -/
def F255 (B : World) (R : Po) (a0 : Int) (h : Heap) : Prop :=
 ∃ b0 : Lp, ∃ c0, b0 c0 [.int .i64 a0, .int .i64 (0 : Int)] h ∧
∀ (d0 : Nat) (e0 : Heap) (f0 g0 : Int), b0 d0 [.int .i64 f0, .int .i64 g0] e0 → ∀ _r : Nat → Value,
((decide ((0 : Int) < f0)) = true →
(2 : Int) ≠ 0 ∧
∃ i0, i0 < d0 ∧ b0 i0 [.int .i64 (IntKind.i64.wrap (Int.tdiv f0 (2 : Int))), .int .i64 (IntKind.i64.wrap (g0 + (1 : Int)))] e0) ∧
((decide ((0 : Int) < f0)) = false →
 R (.returned (.int .i64 g0)) e0)
def F255_L : Nat → List (Nat × TypeDesc) := fun i => match i with
  | 2 => [(0, .int .i64), (3, .int .i64)]
  | _ => []
theorem F255_ok {B : World} {R : Ending → Heap → Prop} (a0 : Int) {h : Heap} (H : F255 B R a0 h) : Ec B 144 #[.int .i64 a0] R h :=
 Ek Tryz.func144 (by kernel_rfl) (by kernel_rfl) (by kernel_rfl) F255_L [] (by kernel_rfl) H

/-- (plumb/plumbref4.Kind).joined -/
def F256 (B : World) (R : Po) (a0 b0 c0 d0 e0 f0 g0 : Int) (h : Heap) : Prop :=
 alW h (.cells #[.int .i64 a0, .int .i64 b0, .int .i64 c0, .int .i64 d0, .int .i64 e0] 95) fun i0 j0 =>
 iP i0 0 fun k0 l0 =>
 iP k0 l0 fun m0 n0 => ∃ o0, cI j0 m0 n0 .i64 o0 ∧
((decide (o0 = (53 : Int))) = true →
 Ec B 171 #[.bool false, .int .i64 f0, .int .i64 g0] (retE (fun p0 q0 => ∃ r0 s0, p0 = .tuple #[.int .i64 r0, .bool s0] ∧
 R (.returned (.int .i64 r0)) q0)
(pk R)) j0) ∧
((decide (o0 = (53 : Int))) = false →
 Ec B 172 #[.bool false, .int .i64 f0, .int .i64 g0] (retE (fun t0 u0 => ∃ v0 w0, t0 = .tuple #[.int .i64 v0, .bool w0] ∧
 R (.returned (.int .i64 v0)) u0)
(pk R)) j0)
def F256_L : Nat → List (Nat × TypeDesc) := fun _ => []
theorem F256_ok {B : World} {R : Ending → Heap → Prop} (a0 b0 c0 d0 e0 f0 g0 : Int) {h : Heap} (H : F256 B R a0 b0 c0 d0 e0 f0 g0 h) : Ec B 145 #[.agg #[.int .i64 a0, .int .i64 b0, .int .i64 c0, .int .i64 d0, .int .i64 e0], .int .i64 f0, .int .i64 g0] R h :=
 Ek Tryz.func145 (by kernel_rfl) (by kernel_rfl) (by kernel_rfl) F256_L [] (by kernel_rfl) H

/-- plumb/plumbref3.Add -/
def F133_j125 (B : World) (R : Po) (a0 : OA) (b0 : Heap) : Prop :=
 isP a0 fun c0 d0 =>
∃ e0, cell? b0 ⟨c0, d0, none⟩ = some (.bool e0) ∧
∃ f0 g0 i0, cell? b0 ⟨c0, d0 + 1, none⟩ = some (.slice f0 g0 i0) ∧
∃ j0, cell? b0 ⟨c0, d0 + 1 + 1, none⟩ = some (.int .i64 j0) ∧
 R (.returned (.agg #[.bool e0, .slice f0 g0 i0, .int .i64 j0])) b0
def F133_j160 (B : World) (R : Po) (k0 : OA) (l0 : Heap) : Prop :=
 isP k0 fun m0 n0 =>
∃ o0, cell? l0 ⟨m0, n0, none⟩ = some (.bool o0) ∧
∃ p0 q0 r0, cell? l0 ⟨m0, n0 + 1, none⟩ = some (.slice p0 q0 r0) ∧
∃ s0, cell? l0 ⟨m0, n0 + 1 + 1, none⟩ = some (.int .i64 s0) ∧
 R (.returned (.agg #[.bool o0, .slice p0 q0 r0, .int .i64 s0])) l0
def F133_j190 (B : World) (R : Po) (t0 : OA) (u0 : Heap) : Prop :=
 isP t0 fun v0 w0 =>
∃ x0, cell? u0 ⟨v0, w0, none⟩ = some (.bool x0) ∧
∃ y0 z0 a1, cell? u0 ⟨v0, w0 + 1, none⟩ = some (.slice y0 z0 a1) ∧
∃ b1, cell? u0 ⟨v0, w0 + 1 + 1, none⟩ = some (.int .i64 b1) ∧
 R (.returned (.agg #[.bool x0, .slice y0 z0 a1, .int .i64 b1])) u0
def F133 (B : World) (R : Po) (c1 : Bool) (d1 : OA) (e1 f1 : Nat) (g1 : Int) (i1 : Bool) (j1 : OA) (k1 l1 : Nat) (m1 : Int) (h : Heap) : Prop :=
 alW h (.cells #[.bool c1, .slice d1 e1 f1, .int .i64 g1] 24) fun n1 o1 =>
 alW o1 (.cells #[.bool i1, .slice j1 k1 l1, .int .i64 m1] 24) fun p1 q1 =>
 alW q1 (.cells #[.bool false, .slice none 0 0, .int .i64 0] 24) fun r1 s1 =>
 iP n1 0 fun t1 u1 =>
 isP (some ⟨t1, u1 + 1, none⟩) fun v1 w1 => ∃ x1 y1 z1, cS s1 v1 w1 x1 y1 z1 ∧
((decide ((y1 : Int) = (0 : Int))) = true →
 iP p1 0 fun a2 b2 =>
∃ c2, cell? s1 ⟨a2, b2, none⟩ = some (.bool c2) ∧
∃ d2 e2 f2, cell? s1 ⟨a2, b2 + 1, none⟩ = some (.slice d2 e2 f2) ∧
∃ g2, cell? s1 ⟨a2, b2 + 1 + 1, none⟩ = some (.int .i64 g2) ∧
 iP r1 0 fun i2 j2 => stC s1 i2 j2 (.bool c2) fun k2 =>
 stC k2 i2 (j2 + 1) (.slice d2 e2 f2) fun l2 =>
 stC l2 i2 (j2 + 1 + 1) (.int .i64 g2) fun m2 =>
 iP r1 0 fun n2 o2 =>
∃ p2, cell? m2 ⟨n2, o2, none⟩ = some (.bool p2) ∧
∃ q2 r2 s2, cell? m2 ⟨n2, o2 + 1, none⟩ = some (.slice q2 r2 s2) ∧
∃ t2, cell? m2 ⟨n2, o2 + 1 + 1, none⟩ = some (.int .i64 t2) ∧
 R (.returned (.agg #[.bool p2, .slice q2 r2 s2, .int .i64 t2])) m2) ∧
((decide ((y1 : Int) = (0 : Int))) = false →
 iP p1 0 fun u2 v2 =>
 isP (some ⟨u2, v2 + 1, none⟩) fun w2 x2 => ∃ y2 z2 a3, cS s1 w2 x2 y2 z2 a3 ∧
((decide ((z2 : Int) = (0 : Int))) = true →
 iP n1 0 fun b3 c3 =>
∃ d3, cell? s1 ⟨b3, c3, none⟩ = some (.bool d3) ∧
∃ e3 f3 g3, cell? s1 ⟨b3, c3 + 1, none⟩ = some (.slice e3 f3 g3) ∧
∃ i3, cell? s1 ⟨b3, c3 + 1 + 1, none⟩ = some (.int .i64 i3) ∧
 iP r1 0 fun j3 k3 => stC s1 j3 k3 (.bool d3) fun l3 =>
 stC l3 j3 (k3 + 1) (.slice e3 f3 g3) fun m3 =>
 stC m3 j3 (k3 + 1 + 1) (.int .i64 i3) fun n3 =>
 iP r1 0 fun o3 p3 =>
∃ q3, cell? n3 ⟨o3, p3, none⟩ = some (.bool q3) ∧
∃ r3 s3 t3, cell? n3 ⟨o3, p3 + 1, none⟩ = some (.slice r3 s3 t3) ∧
∃ u3, cell? n3 ⟨o3, p3 + 1 + 1, none⟩ = some (.int .i64 u3) ∧
 R (.returned (.agg #[.bool q3, .slice r3 s3 t3, .int .i64 u3])) n3) ∧
((decide ((z2 : Int) = (0 : Int))) = false →
 iP n1 0 fun v3 w3 =>
 isP (some ⟨v3, w3 + 2, none⟩) fun x3 y3 => ∃ z3, cI s1 x3 y3 .i64 z3 ∧
 iP p1 0 fun a4 b4 =>
 isP (some ⟨a4, b4 + 2, none⟩) fun c4 d4 => ∃ e4, cI s1 c4 d4 .i64 e4 ∧
 iP n1 0 fun f4 g4 =>
 isP (some ⟨f4, g4 + 1, none⟩) fun i4 j4 => ∃ k4 l4 m4, cS s1 i4 j4 k4 l4 m4 ∧
 iP n1 0 fun n4 o4 =>
 isP (some ⟨n4, o4 + 2, none⟩) fun p4 q4 => ∃ r4, cI s1 p4 q4 .i64 r4 ∧
 Ec B 109 #[.slice k4 l4 m4, .int .i64 (IntKind.i64.wrap (r4 - (if e4 < z3 then e4 else z3)))] (retE (fun s4 t4 => ∃ u4 v4 w4, s4 = .slice u4 v4 w4 ∧
 iP p1 0 fun x4 y4 =>
 isP (some ⟨x4, y4 + 1, none⟩) fun z4 a5 => ∃ b5 c5 d5, cS t4 z4 a5 b5 c5 d5 ∧
 iP p1 0 fun e5 f5 =>
 isP (some ⟨e5, f5 + 2, none⟩) fun g5 i5 => ∃ j5, cI t4 g5 i5 .i64 j5 ∧
 Ec B 109 #[.slice b5 c5 d5, .int .i64 (IntKind.i64.wrap (j5 - (if e4 < z3 then e4 else z3)))] (retE (fun k5 l5 => ∃ m5 n5 o5, k5 = .slice m5 n5 o5 ∧
 iP n1 0 fun p5 q5 =>
 iP p5 q5 fun r5 s5 => ∃ t5, cell? l5 ⟨r5, s5, none⟩ = some (.bool t5) ∧
 iP p1 0 fun u5 v5 =>
 iP u5 v5 fun w5 x5 => ∃ y5, cell? l5 ⟨w5, x5, none⟩ = some (.bool y5) ∧
((t5 == y5) = true →
 iP n1 0 fun z5 a6 =>
 iP z5 a6 fun b6 c6 => ∃ d6, cell? l5 ⟨b6, c6, none⟩ = some (.bool d6) ∧
 Ec B 110 #[.slice u4 v4 w4, .slice m5 n5 o5] (retE (fun e6 f6 => ∃ g6 i6 j6, e6 = .slice g6 i6 j6 ∧
 sameCells l5 f6 b6 c6 1 ∧ Ec B 65 #[.bool d6, .slice g6 i6 j6, .int .i64 (if e4 < z3 then e4 else z3)] (retE (fun k6 l6 => ∃ m6 n6 o6 p6 q6, k6 = .agg #[.bool m6, .slice n6 o6 p6, .int .i64 q6] ∧
 iP r1 0 fun r6 s6 => stC l6 r6 s6 (.bool m6) fun t6 =>
 stC t6 r6 (s6 + 1) (.slice n6 o6 p6) fun u6 =>
 stC u6 r6 (s6 + 1 + 1) (.int .i64 q6) fun v6 =>
 F133_j125 B R (some ⟨r1, 0, none⟩) v6)
(fun _ _ => False)) f6)
(fun _ _ => False)) l5) ∧
((t5 == y5) = false →
 Ec B 111 #[.slice u4 v4 w4, .slice m5 n5 o5] (retE (fun w6 x6 => ∃ y6, w6 = .int .i64 y6 ∧
((decide ((0 : Int) ≤ y6)) = true →
 iP n1 0 fun z6 a7 =>
 iP z6 a7 fun b7 c7 => ∃ d7, cell? x6 ⟨b7, c7, none⟩ = some (.bool d7) ∧
 Ec B 112 #[.slice u4 v4 w4, .slice m5 n5 o5] (retE (fun e7 f7 => ∃ g7 i7 j7, e7 = .slice g7 i7 j7 ∧
 sameCells x6 f7 b7 c7 1 ∧ Ec B 65 #[.bool d7, .slice g7 i7 j7, .int .i64 (if e4 < z3 then e4 else z3)] (retE (fun k7 l7 => ∃ m7 n7 o7 p7 q7, k7 = .agg #[.bool m7, .slice n7 o7 p7, .int .i64 q7] ∧
 iP r1 0 fun r7 s7 => stC l7 r7 s7 (.bool m7) fun t7 =>
 stC t7 r7 (s7 + 1) (.slice n7 o7 p7) fun u7 =>
 stC u7 r7 (s7 + 1 + 1) (.int .i64 q7) fun v7 =>
 F133_j160 B R (some ⟨r1, 0, none⟩) v7)
(fun _ _ => False)) f7)
(fun _ _ => False)) x6) ∧
((decide ((0 : Int) ≤ y6)) = false →
 iP p1 0 fun w7 x7 =>
 iP w7 x7 fun y7 z7 => ∃ a8, cell? x6 ⟨y7, z7, none⟩ = some (.bool a8) ∧
 Ec B 112 #[.slice m5 n5 o5, .slice u4 v4 w4] (retE (fun b8 c8 => ∃ d8 e8 f8, b8 = .slice d8 e8 f8 ∧
 sameCells x6 c8 y7 z7 1 ∧ Ec B 65 #[.bool a8, .slice d8 e8 f8, .int .i64 (if e4 < z3 then e4 else z3)] (retE (fun g8 i8 => ∃ j8 k8 l8 m8 n8, g8 = .agg #[.bool j8, .slice k8 l8 m8, .int .i64 n8] ∧
 iP r1 0 fun o8 p8 => stC i8 o8 p8 (.bool j8) fun q8 =>
 stC q8 o8 (p8 + 1) (.slice k8 l8 m8) fun r8 =>
 stC r8 o8 (p8 + 1 + 1) (.int .i64 n8) fun s8 =>
 F133_j190 B R (some ⟨r1, 0, none⟩) s8)
(fun _ _ => False)) c8)
(fun _ _ => False)) x6))
(pk R)) l5))
(pk R)) t4)
(pk R)) s1))
def F133_L : Nat → List (Nat × TypeDesc) := fun _ => []
theorem F133_ok {B : World} {R : Ending → Heap → Prop} (c1 : Bool) (d1 : OA) (e1 f1 : Nat) (g1 : Int) (i1 : Bool) (j1 : OA) (k1 l1 : Nat) (m1 : Int) {h : Heap} (H : F133 B R c1 d1 e1 f1 g1 i1 j1 k1 l1 m1 h) : Ec B 62 #[.agg #[.bool c1, .slice d1 e1 f1, .int .i64 g1], .agg #[.bool i1, .slice j1 k1 l1, .int .i64 m1]] R h :=
 Ek Tryz.func62 (by kernel_rfl) (by kernel_rfl) (by kernel_rfl) F133_L [] (by kernel_rfl) H
end Go.Proofs
