import Derived.Test.YtcbcgggnmncbjaaGreatFmtA09
import Derived.Test.YtcbcgggnmncbjaaGreatFmtA41
import Derived.Test.YtcbcgggnmncbjaaGreatFmtA30
/- Here stand lemmas and contracts, in the order in which they are used. -/
set_option linter.unusedVariables false
namespace Go.Proofs
open Go Go.Eng
/-- plumb/plumblaw5.SumsOnce -/
def F1358_j72 (B : World) (R : Po) (a0 : Bool) (b0 : Heap) : Prop :=
 R (.returned (.bool a0)) b0
def F1358_j67 (B : World) (R : Po) (c0 d0 : Int) (e0 : Bool) (f0 : Heap) : Prop :=
(e0 = true →
 F1358_j72 B R (decide (d0 = c0)) f0) ∧
(e0 = false →
 F1358_j72 B R false f0)
def F1358_j61 (B : World) (R : Po) (g0 i0 j0 : Int) (k0 : Bool) (l0 : Heap) : Prop :=
(k0 = true →
 F1358_j67 B R i0 j0 (decide (g0 = i0)) l0) ∧
(k0 = false →
 F1358_j67 B R i0 j0 false l0)
def F1358_j54 (B : World) (R : Po) (m0 n0 o0 p0 : Int) (q0 : Bool) (r0 : Heap) : Prop :=
(q0 = true →
 F1358_j61 B R m0 n0 o0 (decide (p0 = (0 : Int))) r0) ∧
(q0 = false →
 F1358_j61 B R m0 n0 o0 false r0)
def F1358 (B : World) (R : Po) (s0 : OA) (t0 u0 : Nat) (v0 : Int) (h : Heap) : Prop :=
 Ec B 5 #[.slice s0 t0 u0, .int .i64 (300 : Int)] (retE (fun w0 x0 => ∃ y0 z0 a1, w0 = .slice y0 z0 a1 ∧
∃ b1 : Lp, ∃ c1, b1 c1 [.int .i64 (bitsI .and .i64 v0 (3 : Int)), .slice y0 z0 a1, .slice none 0 0, .int .i64 (0 : Int)] x0 ∧
∀ (d1 : Nat) (e1 : Heap) (f1 : Int) (g1 : OA) (i1 j1 : Nat) (k1 : OA) (l1 m1 : Nat) (n1 : Int), b1 d1 [.int .i64 f1, .slice g1 i1 j1, .slice k1 l1 m1, .int .i64 n1] e1 → ∀ _r : Nat → Value,
((decide (n1 < (i1 : Int))) = true →
 alW e1 (.cells #[.int .i64 (4607182418800017408 : Int)] 3) fun o1 p1 =>
 apW p1 k1 l1 m1 (some ⟨o1, 0, none⟩) 1 1 8 3 #[.int .i64 0] fun q1 r1 s1 t1 =>
∃ u1, u1 < d1 ∧ b1 u1 [.int .i64 f1, .slice g1 i1 j1, .slice q1 r1 s1, .int .i64 (IntKind.i64.wrap (n1 + (1 : Int)))] t1) ∧
((decide (n1 < (i1 : Int))) = false →
 Ec B 6 #[.slice g1 i1 j1, .int .i64 f1] (retE (fun v1 w1 => ∃ x1 y1, v1 = .tuple #[.int .i64 x1, .int .i64 y1] ∧
 Ec B 11 #[.slice g1 i1 j1] (retE (fun z1 a2 => ∃ b2 c2 d2 e2 f2, z1 = .agg #[.bool b2, .slice c2 d2 e2, .int .i64 f2] ∧
 Ec B 10 #[.agg #[.bool b2, .slice c2 d2 e2, .int .i64 f2], .int .i64 f1] (retE (fun g2 i2 => ∃ j2 k2 l2, g2 = .tuple #[.int .i64 j2, .bool k2, .int .i64 l2] ∧
 Ec B 12 #[.slice g1 i1 j1, .slice k1 l1 m1, .int .i64 f1] (retE (fun m2 n2 => ∃ o2 p2, m2 = .tuple #[.int .i64 o2, .int .i64 p2] ∧
 Ec B 9 #[] (retE (fun q2 r2 => ∃ s2, q2 = .bool s2 ∧
(s2 = true →
 F1358_j54 B R x1 j2 o2 p2 (decide (y1 = (0 : Int))) r2) ∧
(s2 = false →
 F1358_j54 B R x1 j2 o2 p2 false r2))
(pk R)) n2)
(pk R)) i2)
(pk R)) a2)
(pk R)) w1)
(pk R)) e1))
(pk R)) h
def F1358_L : Nat → List (Nat × TypeDesc) := fun i => match i with
  | 5 => [(1, .int .i64), (5, .slice 0), (6, .slice 0), (7, .int .i64)]
  | _ => []
theorem F1358_ok {B : World} {R : Ending → Heap → Prop} (s0 : OA) (t0 u0 : Nat) (v0 : Int) {h : Heap} (H : F1358 B R s0 t0 u0 v0 h) : Ec B 4 #[.slice s0 t0 u0, .int .i64 v0] R h :=
 Ek Tryz.func4 (by kernel_rfl) (by kernel_rfl) (by kernel_rfl) F1358_L [] (by kernel_rfl) H

/-- plumb/plumblaw5.finite -/
def F1359_j4 (B : World) (R : Po) (a0 : Lp) (b0 : Nat) (c0 : OA) (d0 e0 : Nat) (f0 : Int) (g0 : OA) (i0 j0 : Nat) (k0 : Int) (l0 : Heap) : Prop :=
 ∃ m0, m0 < b0 ∧ a0 m0 [.slice c0 d0 e0, .int .i64 f0, .slice g0 i0 j0, .int .i64 (IntKind.i64.wrap (k0 + (1 : Int)))] l0
def F1359_j5 (B : World) (R : Po) (a0 : Lp) (b0 : Nat) (n0 : OA) (o0 p0 : Nat) (q0 : Int) (r0 : OA) (s0 t0 : Nat) (u0 : Int) (v0 : Heap) : Prop :=
 ixW n0 o0 u0 1 fun w0 x0 =>
 iP w0 x0 fun y0 z0 => ∃ a1, cI v0 y0 z0 .i64 a1 ∧
 Ec B 7 #[.int .i64 a1] (retE (fun b1 c1 => ∃ d1, b1 = .int .i64 d1 ∧
((decide (d1 < (3 : Int))) = true →
 ixW n0 o0 u0 1 fun e1 f1 =>
 iP e1 f1 fun g1 i1 => ∃ j1, cI c1 g1 i1 .i64 j1 ∧
 Ec B 13 #[.int .i64 j1] (retE (fun k1 l1 => ∃ m1, k1 = .int .i64 m1 ∧
 alW l1 (.cells #[.int .i64 m1] 3) fun n1 o1 =>
 apW o1 r0 s0 t0 (some ⟨n1, 0, none⟩) 1 1 8 3 #[.int .i64 0] fun p1 q1 r1 s1 =>
 F1359_j4 B R a0 b0 n0 o0 p0 q0 p1 q1 r1 u0 s1)
(pk R)) c1) ∧
((decide (d1 < (3 : Int))) = false →
 F1359_j4 B R a0 b0 n0 o0 p0 q0 r0 s0 t0 u0 c1))
(pk R)) v0
def F1359 (B : World) (R : Po) (t1 : OA) (u1 v1 : Nat) (w1 : Int) (h : Heap) : Prop :=
 ∃ a0 : Lp, ∃ x1, a0 x1 [.slice t1 u1 v1, .int .i64 w1, .slice none 0 0, .int .i64 (0 : Int)] h ∧
∀ (b0 : Nat) (y1 : Heap) (z1 : OA) (a2 b2 : Nat) (c2 : Int) (d2 : OA) (e2 f2 : Nat) (g2 : Int), a0 b0 [.slice z1 a2 b2, .int .i64 c2, .slice d2 e2 f2, .int .i64 g2] y1 → ∀ _r : Nat → Value,
((decide (g2 < (a2 : Int))) = true →
((decide ((e2 : Int) < c2)) = true →
 F1359_j5 B R a0 b0 z1 a2 b2 c2 d2 e2 f2 g2 y1) ∧
((decide ((e2 : Int) < c2)) = false →
 R (.returned (.slice d2 e2 f2)) y1)) ∧
((decide (g2 < (a2 : Int))) = false →
(false = true →
 F1359_j5 B R a0 b0 z1 a2 b2 c2 d2 e2 f2 g2 y1) ∧
(false = false →
 R (.returned (.slice d2 e2 f2)) y1))
def F1359_L : Nat → List (Nat × TypeDesc) := fun i => match i with
  | 3 => [(0, .slice 0), (1, .int .i64), (5, .slice 0), (6, .int .i64)]
  | _ => []
def F1359_J (B : World) (R : Po) : Nat → Option JT := fun i => match i with
  | 4 => some ⟨[(0, .slice 0), (1, .int .i64), (5, .slice 0), (6, .int .i64)], fun s v h => match s, v with
    | [(a0, b0)], [.slice c0 d0 e0, .int _ f0, .slice g0 i0 j0, .int _ k0] => F1359_j4 B R a0 b0 c0 d0 e0 f0 g0 i0 j0 k0 h
    | _, _ => False⟩
  | 5 => some ⟨[(0, .slice 0), (1, .int .i64), (5, .slice 0), (6, .int .i64)], fun s v h => match s, v with
    | [(a0, b0)], [.slice n0 o0 p0, .int _ q0, .slice r0 s0 t0, .int _ u0] => F1359_j5 B R a0 b0 n0 o0 p0 q0 r0 s0 t0 u0 h
    | _, _ => False⟩
  | _ => none
theorem F1359_ok {B : World} {R : Ending → Heap → Prop} (t1 : OA) (u1 v1 : Nat) (w1 : Int) {h : Heap} (H : F1359 B R t1 u1 v1 w1 h) : Ec B 5 #[.slice t1 u1 v1, .int .i64 w1] R h :=
 Ej Tryz.func5 (by kernel_rfl) (by kernel_rfl) (by kernel_rfl) F1359_L (F1359_J B R) [] (by kernel_rfl) (by kernel_rfl) H

/-- plumb/plumblaw5.alive -/
def F1361_j69 (B : World) (R : Po) (a0 : Bool) (b0 : Heap) : Prop :=
 R (.returned (.bool a0)) b0
def F1361_j57 (B : World) (R : Po) (c0 d0 : Int) (e0 : Bool) (f0 : Heap) : Prop :=
(e0 = true →
 alW f0 (.cells #[.int .i64 c0, .int .i64 c0] 3) fun g0 i0 =>
 Ec B 21 #[.slice (some ⟨g0, 0, none⟩) 2 2] (retE (fun j0 k0 => ∃ l0, j0 = .int .i64 l0 ∧
 F1361_j69 B R (decide (l0 = d0)) k0)
(pk R)) i0) ∧
(e0 = false →
 F1361_j69 B R false f0)
def F1361_j51 (B : World) (R : Po) (m0 n0 o0 : Int) (p0 : Bool) (q0 : Heap) : Prop :=
(p0 = true →
 F1361_j57 B R m0 o0 (decide (n0 = (0 : Int))) q0) ∧
(p0 = false →
 F1361_j57 B R m0 o0 false q0)
def F1361_j44 (B : World) (R : Po) (r0 s0 t0 u0 : Int) (v0 : Bool) (w0 : Heap) : Prop :=
(v0 = true →
 F1361_j51 B R r0 t0 u0 (decide (s0 = (1073741824 : Int))) w0) ∧
(v0 = false →
 F1361_j51 B R r0 t0 u0 false w0)
def F1361_j36 (B : World) (R : Po) (x0 y0 z0 a1 b1 : Int) (c1 : Bool) (d1 : Heap) : Prop :=
(c1 = true →
 F1361_j44 B R x0 z0 a1 b1 (decide (y0 = (0 : Int))) d1) ∧
(c1 = false →
 F1361_j44 B R x0 z0 a1 b1 false d1)
def F1361_j27 (B : World) (R : Po) (e1 f1 g1 i1 j1 k1 : Int) (l1 : Bool) (m1 : Heap) : Prop :=
(l1 = true →
 F1361_j36 B R e1 g1 i1 j1 k1 (decide (f1 = k1)) m1) ∧
(l1 = false →
 F1361_j36 B R e1 g1 i1 j1 k1 false m1)
def F1361 (B : World) (R : Po) (h : Heap) : Prop :=
 alW h (.cells #[.int .i64 (4607182418800017408 : Int), .int .i64 (4607182418800017408 : Int)] 3) fun n1 o1 =>
 Ec B 6 #[.slice (some ⟨n1, 0, none⟩) 2 2, .int .i64 (0 : Int)] (retE (fun p1 q1 => ∃ r1 s1, p1 = .tuple #[.int .i64 r1, .int .i64 s1] ∧
 alW q1 (.cells #[.int .i64 (4607182418800017408 : Int), .int .i64 (4607182418800017408 : Int)] 3) fun t1 u1 =>
 alW u1 (.cells #[.int .i64 (4607182418800017408 : Int), .int .i64 (4607182418800017408 : Int)] 3) fun v1 w1 =>
 Ec B 12 #[.slice (some ⟨t1, 0, none⟩) 2 2, .slice (some ⟨v1, 0, none⟩) 2 2, .int .i64 (0 : Int)] (retE (fun x1 y1 => ∃ z1 a2, x1 = .tuple #[.int .i64 z1, .int .i64 a2] ∧
 alW y1 (.cells #[.int .i64 (1065353216 : Int), .int .i64 (1065353216 : Int)] 3) fun b2 c2 =>
 Ec B 20 #[.slice (some ⟨b2, 0, none⟩) 2 2, .int .i64 (0 : Int)] (retE (fun d2 e2 => ∃ f2 g2, d2 = .tuple #[.int .i64 f2, .int .i64 g2] ∧
((decide (r1 = (4611686018427387904 : Int))) = true →
 F1361_j27 B R (4607182418800017408 : Int) z1 a2 f2 g2 (4611686018427387904 : Int) (decide (s1 = (0 : Int))) e2) ∧
((decide (r1 = (4611686018427387904 : Int))) = false →
 F1361_j27 B R (4607182418800017408 : Int) z1 a2 f2 g2 (4611686018427387904 : Int) false e2))
(pk R)) c2)
(pk R)) w1)
(pk R)) o1
def F1361_L : Nat → List (Nat × TypeDesc) := fun _ => []
theorem F1361_ok {B : World} {R : Ending → Heap → Prop} {h : Heap} (H : F1361 B R h) : Ec B 9 #[] R h :=
 Ek Tryz.func9 (by kernel_rfl) (by kernel_rfl) (by kernel_rfl) F1361_L [] (by kernel_rfl) H

/-- plumb/plumblaw5.total -/
def F1362 (B : World) (R : Po) (a0 : OA) (b0 c0 : Nat) (h : Heap) : Prop :=
 alW h (.cells #[.bool false, .slice none 0 0, .int .i64 0] 33) fun d0 e0 =>
∃ f0 : Lp, ∃ g0, f0 g0 [.slice a0 b0 c0, .pointer (some ⟨d0, 0, none⟩), .slice none 0 0, .int .i64 (0 : Int)] e0 ∧
∀ (i0 : Nat) (j0 : Heap) (k0 : OA) (l0 m0 : Nat) (n0 o0 : OA) (p0 q0 : Nat) (r0 : Int), f0 i0 [.slice k0 l0 m0, .pointer n0, .slice o0 p0 q0, .int .i64 r0] j0 → ∀ _r : Nat → Value,
((decide (r0 < (l0 : Int))) = true →
 ixW k0 l0 r0 1 fun s0 t0 =>
 iP s0 t0 fun u0 v0 => ∃ w0, cI j0 u0 v0 .i64 w0 ∧
 Ec B 25 #[.int .i64 w0] (retE (fun x0 y0 => ∃ z0 a1 b1 c1 d1 e1, x0 = .tuple #[.agg #[.bool z0, .slice a1 b1 c1, .int .i64 d1], .int .i64 e1] ∧
 alW y0 (.cells #[.bool false, .slice none 0 0, .int .i64 0] 33) fun f1 g1 =>
 iP f1 0 fun i1 j1 => stC g1 i1 j1 (.bool z0) fun k1 =>
 stC k1 i1 (j1 + 1) (.slice a1 b1 c1) fun l1 =>
 stC l1 i1 (j1 + 1 + 1) (.int .i64 d1) fun m1 =>
 iP f1 0 fun n1 o1 =>
∃ p1, cell? m1 ⟨n1, o1, none⟩ = some (.bool p1) ∧
∃ q1 r1 s1, cell? m1 ⟨n1, o1 + 1, none⟩ = some (.slice q1 r1 s1) ∧
∃ t1, cell? m1 ⟨n1, o1 + 1 + 1, none⟩ = some (.int .i64 t1) ∧
 alW m1 (.cells #[.bool p1, .slice q1 r1 s1, .int .i64 t1] 33) fun u1 v1 =>
 apW v1 o0 p0 q0 (some ⟨u1, 0, none⟩) 1 3 40 33 #[.bool false, .slice none 0 0, .int .i64 0] fun w1 x1 y1 z1 =>
∃ a2, a2 < i0 ∧ f0 a2 [.slice k0 l0 m0, .pointer n0, .slice w1 x1 y1, .int .i64 (IntKind.i64.wrap (r0 + (1 : Int)))] z1)
(pk R)) j0) ∧
((decide (r0 < (l0 : Int))) = false →
 Ec B 26 #[.slice o0 p0 q0] (retE (fun b2 c2 => ∃ d2 e2 f2 g2 i2 j2, b2 = .tuple #[.agg #[.bool d2, .slice e2 f2 g2, .int .i64 i2], .int .i64 j2] ∧
 alW c2 (.cells #[.bool false, .slice none 0 0, .int .i64 0] 33) fun k2 l2 =>
 iP k2 0 fun m2 n2 => stC l2 m2 n2 (.bool d2) fun o2 =>
 stC o2 m2 (n2 + 1) (.slice e2 f2 g2) fun p2 =>
 stC p2 m2 (n2 + 1 + 1) (.int .i64 i2) fun q2 =>
 iP k2 0 fun r2 s2 =>
∃ t2, cell? q2 ⟨r2, s2, none⟩ = some (.bool t2) ∧
∃ u2 v2 w2, cell? q2 ⟨r2, s2 + 1, none⟩ = some (.slice u2 v2 w2) ∧
∃ x2, cell? q2 ⟨r2, s2 + 1 + 1, none⟩ = some (.int .i64 x2) ∧
 isP n0 fun y2 z2 => stC q2 y2 z2 (.bool t2) fun a3 =>
 stC a3 y2 (z2 + 1) (.slice u2 v2 w2) fun b3 =>
 stC b3 y2 (z2 + 1 + 1) (.int .i64 x2) fun c3 =>
 isP n0 fun d3 e3 =>
∃ f3, cell? c3 ⟨d3, e3, none⟩ = some (.bool f3) ∧
∃ g3 i3 j3, cell? c3 ⟨d3, e3 + 1, none⟩ = some (.slice g3 i3 j3) ∧
∃ k3, cell? c3 ⟨d3, e3 + 1 + 1, none⟩ = some (.int .i64 k3) ∧
 R (.returned (.agg #[.bool f3, .slice g3 i3 j3, .int .i64 k3])) c3)
(pk R)) j0)
def F1362_L : Nat → List (Nat × TypeDesc) := fun i => match i with
  | 3 => [(0, .slice 0), (2, .pointer 0), (3, .slice 0), (4, .int .i64)]
  | _ => []
theorem F1362_ok {B : World} {R : Ending → Heap → Prop} (a0 : OA) (b0 c0 : Nat) {h : Heap} (H : F1362 B R a0 b0 c0 h) : Ec B 11 #[.slice a0 b0 c0] R h :=
 Ek Tryz.func11 (by kernel_rfl) (by kernel_rfl) (by kernel_rfl) F1362_L [] (by kernel_rfl) H
end Go.Proofs
set_option linter.unusedVariables false
/-! plumblaw5.finite. -/
namespace Go.Proofs
open Go Go.Eng
variable {B : World} {R : Ending → Heap → Prop} {h : Heap}
theorem cn_fin {a : Int} (ia : I64 a) (fa : isFin a = true) : I64 (cnP a) ∧ isFin (cnP a) = true ∧ fV (cnP a) = fV a := by
  obtain ⟨c1, c2, c3⟩ := cn_rk ia (fin_not fa).1
  obtain ⟨r1, r2⟩ := fin_rk ia fa
  have fc : isFin (cnP a) = true := by
    cases hf : isFin (cnP a)
    · rcases rk_inf c3 c2 hf with k | k <;> omega
    · rfl
  exact ⟨c3, fc, (fV_rk c3 ia fc fa).2.2 c1⟩
/-- plumblaw5.finite, at most N. -/
theorem K1359 {p : Option Addr} {n c N : Nat} {l : List Int} (hN : N ≤ 100000) (I : IntsH h p l) (hn : l.length = n) (hb : n < 9223372036854775808)
    (H : ∀ p' n' c' ws h', Ext h h' → Lj h h' p' n' c' ws → n' ≤ N → (∀ x ∈ ws, isFin x = true) → R (.returned (.slice p' n' c')) h') :
    Ent Tryz.prog B 5 #[.slice p n c, .int .i64 (N : Int)] R h := by
  refine F1359_ok _ _ _ _ ⟨fun m vs h' => match vs with
    | [.slice p1 n1 c1, .int _ k, .slice p2 n2 c2, .int _ i] => p = p1 ∧ n = n1 ∧ k = (N : Int) ∧ Ext h h' ∧ ∃ (j : Nat) (ws : List Int), i = (j : Int) ∧ j ≤ n ∧ m = n - j ∧ Lj h h' p2 n2 c2 ws ∧ n2 ≤ N ∧ ∀ x ∈ ws, isFin x = true
    | _ => False, n, ⟨rfl, rfl, rfl, Fr.rfl', 0, [], rfl, by omega, rfl, Lj.nil, by omega, fun x hx => (by cases hx)⟩, ?_⟩
  rintro m h' _ _ _ _ p2 n2 c2 _ ⟨rfl, rfl, rfl, E, j, ws, rfl, hj, rfl, L, hl, hf⟩ _
  have stop : R (.returned (.slice p2 n2 c2)) h' := H p2 n2 c2 ws h' E L hl hf
  refine ⟨fun e2 => ⟨fun e3 => ?_, fun _ => stop⟩, fun _ => ⟨fun e => (by cases e), fun _ => stop⟩⟩
  have hjl : j < l.length := by have := of_decide_eq_true e2; omega
  have h2 : n2 < N := by have := of_decide_eq_true e3; omega
  rcases I.2 with e0 | ⟨r, q, rfl, hr, hg⟩
  · subst e0; simp at hjl
  have hx : cell? h' ⟨r, q + (j : Int).toNat * 1, none⟩ = some (.int .i64 l[j]) := by
    rw [Int.toNat_natCast, Nat.mul_one]; exact (cell_ext E hr).trans (hg j hjl)
  have ix := I.1 l[j] (List.getElem_mem _)
  have nx : IntKind.i64.wrap ((j : Int) + (1 : Int)) = ((j + 1 : Nat) : Int) := by rw [i64_in (by omega) (by omega)]; omega
  refine ⟨r, q, rfl, by omega, by omega, r, _, rfl, l[j], hx, K17 ⟨_, rfl, fun e4 => ?_, fun e4 => ?_⟩⟩
  · rw [cls_fin] at e4
    obtain ⟨c1, c2', c3⟩ := cn_fin ix e4
    refine ⟨r, q, rfl, by omega, by omega, r, _, rfl, l[j], hx, K1059 ix ⟨_, rfl, alK fun r1 k1 e1 f1 o1 z1 => apJ2 (L.ext f1) (Ext.trans E f1) (by omega) o1 c1 fun p3 c3' k2 L3 E3 => ?_⟩⟩
    refine ⟨n - (j + 1), by omega, rfl, rfl, rfl, E3, j + 1, ws ++ [cnP l[j]], nx, by omega, rfl, L3, by omega, fun x hx => ?_⟩
    rcases List.mem_append.1 hx with hx | hx
    · exact hf x hx
    · rw [List.mem_singleton.1 hx]; exact c2'
  · exact ⟨n - (j + 1), by omega, rfl, rfl, rfl, E, j + 1, ws, nx, by omega, rfl, L, hl, hf⟩
end Go.Proofs
set_option linter.unusedVariables false
/-! sums.Dot with ones, sums.Left of ones. -/
namespace Go.Proofs
open Go Go.Eng
variable {B : World} {R : Ending → Heap → Prop} {h : Heap}
/-- sums.look, of two lists as long as each other. -/
theorem K1364t {e n c c' : Nat} {p p' : Option Addr} {w : Int} (O : Own h e #[.slice p n c, .slice p' n c']) (h0 : 0 ≤ w) (h4 : w < 4) (hn : n ≤ 4096) (H : R (.returned (.int .i64 (0 : Int))) h) : Ent Tryz.prog B 14 #[.int .i64 w, .slice (some ⟨e, 0, none⟩) 2 2] R h := by
  have lt : decide (w < (0 : Int)) = false := decide_eq_false (by omega)
  have gt : decide ((3 : Int) < w) = false := decide_eq_false (by omega)
  refine F1364_ok _ _ _ _ ?_
  unfold F1364
  rw [lt, gt]
  refine ⟨fun e => (by cases e), fun _ => ⟨fun e => (by cases e), fun _ => ⟨fun m vs h' => match vs with
    | [.slice p1 n1 c1, .slice p2 n2 c2, .int _ nn, .int _ i] => p1 = some (⟨e, 0, none⟩ : Addr) ∧ n1 = 2 ∧ p2 = some (⟨e, 0, none⟩ : Addr) ∧ n2 = 2 ∧ nn = 2 ∧ h = h' ∧ ((i = 0 ∧ m = 2) ∨ (i = 1 ∧ m = 1) ∨ (i = 2 ∧ m = 0))
    | _ => False, 2, ⟨rfl, rfl, rfl, rfl, rfl, rfl, .inl ⟨rfl, rfl⟩⟩, ?_⟩⟩⟩
  rintro m h' _ _ _ _ _ _ _ _ ⟨rfl, rfl, rfl, rfl, rfl, rfl, hi⟩ _
  have c0 : ∀ x, x = e → cell? h ⟨x, 0, none⟩ = some (.slice p n c) := fun x hx => by subst hx; exact (O.cell _).trans rfl
  have c1 : ∀ x, x = e → cell? h ⟨x, 1, none⟩ = some (.slice p' n c') := fun x hx => by subst hx; exact (O.cell _).trans rfl
  rcases hi with ⟨rfl, rfl⟩ | ⟨rfl, rfl⟩ | ⟨rfl, rfl⟩
  · refine ⟨fun _ => ⟨e, 0, rfl, by decide, by decide, e, _, rfl, p, n, c, c0 _ rfl, e, 0, rfl, by decide, by decide, e, _, rfl, p, n, c, c0 _ rfl, fun e1 => ?_, fun _ => ⟨1, by decide, rfl, rfl, rfl, rfl, rfl, rfl, .inr (.inl ⟨rfl, rfl⟩)⟩⟩, fun e => absurd e (by decide)⟩
    simp at e1
  · refine ⟨fun _ => ⟨e, 0, rfl, by decide, by decide, e, _, rfl, p', n, c', c1 _ rfl, e, 0, rfl, by decide, by decide, e, _, rfl, p, n, c, c0 _ rfl, fun e1 => ?_, fun _ => ⟨0, by decide, rfl, rfl, rfl, rfl, rfl, rfl, .inr (.inr ⟨rfl, rfl⟩)⟩⟩, fun e => absurd e (by decide)⟩
    simp at e1
  · refine ⟨fun e => absurd e (by decide), fun _ => ⟨e, 0, rfl, by decide, by decide, e, _, rfl, p, n, c, c0 _ rfl, fun e1 => absurd (of_decide_eq_true e1) (by omega), fun _ => H⟩⟩
/-- sums.dotted, of finite floats and ones. -/
theorem K1369 {f1 f2 e eo n c c2 : Nat} {l : List Int} {w v : Int} (ht : TabH h) (A : FlsA h e l) (A2 : FlsA h eo (List.replicate n P1)) (hn : l.length = n) (hl : n ≤ 4096) (hf : ∀ x ∈ l, I64 x ∧ isFin x = true)
    (Hto : ∀ {R' : Ending → Heap → Prop} {h' : Heap} {ng : Bool} {p : Option Addr} {n c : Nat} {e : Int}, Ext h h' → NumS 2148 h' ng p n e (sV l * (UW : Int)) → (∀ h'' b, Ext h' h'' → R' (.returned (.tuple #[.int .i64 v, .bool b, .int .i64 (0 : Int)])) h'') →
      EntV Tryz.prog B (.func (.func f1) #[] #[]) #[.agg #[.bool ng, .slice p n c, .int .i64 e], .int .i64 w] R' h')
    (H : ∀ h', Ext h h' → R (.returned (.tuple #[.int .i64 v, .int .i64 (0 : Int)])) h') :
    Ent Tryz.prog B 27 #[.slice (some ⟨e, 0, none⟩) n c, .slice (some ⟨eo, 0, none⟩) n c2, .func (.func f1) #[] #[], .func (.func f2) #[] #[], .int .i64 w] R h := by
  obtain ⟨cs, oc, hs, hc⟩ := A
  obtain ⟨cs2, oc2, hs2, hc2⟩ := A2
  have hcell : ∀ {k : Heap} (j : Nat) (hj : j < l.length), Ext h k → cell? k ⟨e, 0 + (j : Int).toNat * 1, none⟩ = some (.float .f64 (wd l[j])) := fun j hj E => by
    rw [Int.toNat_natCast, Nat.mul_one, Nat.zero_add]
    exact ((oc.ext E).cell _).trans (hc j hj)
  have hcell2 : ∀ {k : Heap} (j : Nat) (hj : j < l.length), Ext h k → cell? k ⟨eo, 0 + (j : Int).toNat * 1, none⟩ = some (.float .f64 (wd P1)) := fun j hj E => by
    rw [Int.toNat_natCast, Nat.mul_one, Nat.zero_add]
    have := hc2 j (by rw [List.length_replicate]; omega)
    rw [List.getElem_replicate] at this
    exact ((oc2.ext E).cell _).trans this
  have i1 : I64 P1 := by unfold I64 P1; omega
  have g1 : isFin P1 = true := by decide
  refine F1369_ok _ _ _ _ _ _ _ _ _ (alK fun a h1 e1 f1 o1 z1 => alK fun b h2 e2 f2 o2 z2 => ⟨fun m vs h' => match vs with
    | [.slice p1 n1 c1, .slice p2 n2 c2, g1, g2, .int _ ww, .pointer pa, .pointer pb, .int _ nn, .int _ i] => p1 = some (⟨e, 0, none⟩ : Addr) ∧ n = n1 ∧ p2 = some (⟨eo, 0, none⟩ : Addr) ∧ n = n2 ∧ g1 = .func (.func _) #[] #[] ∧ g2 = .func (.func _) #[] #[] ∧ ww = w ∧ pa = some (⟨a, 0, none⟩ : Addr) ∧ pb = some (⟨b, 0, none⟩ : Addr) ∧ nn = (n : Int) ∧
        ∃ j q : Nat, i = (j : Int) ∧ j ≤ n ∧ m = n - j ∧ Ext h h' ∧ Own h' a MET ∧ IntAt h' b q (sV (l.take j) * (UW : Int)) ∧ h.size ≤ q ∧ q ≠ a
    | _ => False, n, ⟨rfl, rfl, rfl, rfl, rfl, rfl, rfl, rfl, rfl, rfl, 0, b, rfl, by omega, rfl, Ext.trans f1 f2, o1.ext f2, ?_, by have := f1.size; omega, by have := o1.lt; omega⟩, ?_⟩)
  · have : sV (l.take 0) * (UW : Int) = 0 := by show (0 : Int) * _ = 0; rw [Int.zero_mul]
    rw [this]
    exact ZeroAt.int o2
  have la := o1.lt
  have s1 := f1.size
  rintro m h' _ _ _ _ _ _ _ _ _ _ _ _ _ ⟨rfl, rfl, rfl, rfl, rfl, rfl, rfl, rfl, rfl, rfl, j, q, rfl, hj, rfl, E, Oa, T, hq, hqa⟩ _
  have hT : ∀ x ∈ l.take j, isFin x = true := fun x hx => (hf x (List.mem_of_mem_take hx)).2
  have hbl := sV_bl hT (by rw [List.length_take]; omega)
  refine ⟨fun e2 => ?_, fun e2 => ?_⟩
  · have hjl : j < l.length := by have := of_decide_eq_true e2; omega
    obtain ⟨ij, fj⟩ := hf l[j] (List.getElem_mem _)
    have ljl : j < n := by omega
    have C1 := hcell j hjl E
    have C2 := hcell2 j hjl E
    have hsa : (FloatKind.f64.format.order (wd l[j]) (wd l[j]) != some .eq) = isNaN (sg (wd l[j])) := order_self (wd_lt _)
    have hsb : (FloatKind.f64.format.order (wd P1) (wd P1) != some .eq) = isNaN (sg (wd P1)) := order_self (wd_lt _)
    rw [sg_wd ij, (fin_not fj).1] at hsa
    rw [sg_wd i1, (fin_not g1).1] at hsb
    refine ⟨e, 0, rfl, by omega, by omega, e, _, rfl, wd l[j], C1, K118 (wd_lt _) ⟨_, rfl, ?_⟩⟩
    rw [sg_wd ij, (fin_not fj).2]
    refine ⟨fun e => (by cases e), fun _ => ⟨eo, 0, rfl, by omega, by omega, eo, _, rfl, wd P1, C2, K118 (wd_lt _) ⟨_, rfl, ?_⟩⟩⟩
    rw [sg_wd i1, (fin_not g1).2]
    refine ⟨fun e => (by cases e), fun _ => ⟨e, 0, rfl, by omega, by omega, e, _, rfl, wd l[j], C1, e, 0, rfl, by omega, by omega, e, _, rfl, wd l[j], C1, ?_⟩⟩
    rw [hsa]
    refine ⟨fun e => (by cases e), fun _ => ⟨eo, 0, rfl, by omega, by omega, eo, _, rfl, wd P1, C2, eo, 0, rfl, by omega, by omega, eo, _, rfl, wd P1, C2, ?_⟩⟩
    rw [hsb]
    refine ⟨fun e => (by cases e), fun _ => ⟨e, 0, rfl, by omega, by omega, e, _, rfl, wd l[j], C1, eo, 0, rfl, by omega, by omega, eo, _, rfl, wd P1, C2, ?_⟩⟩
    refine K1371 T ij fj rfl (by omega) fun q' h4 f4 hq' T4 => ⟨rfl, n - (j + 1), by omega, rfl, rfl, rfl, rfl, rfl, rfl, rfl, rfl, rfl, rfl, j + 1, q', ?_, by omega, rfl, ?_, ?_, ?_, ?_, ?_⟩
    · rw [i64_in (x := (j : Int) + 1) (by omega) (by omega)]; omega
    · refine Fr.trans E f4 fun x hx k => ?_
      rcases k with k | k
      · omega
      · have := k.1; omega
    · exact Oa.fr f4 fun k => by rcases k with k | k; omega; exact hqa k.1.symm
    · rw [sV_take hjl, Int.add_mul]; exact T4
    · have := E.size; omega
    · have := E.size
      have := Oa.lt
      omega
  · have hjn : j = n := by have := of_decide_eq_false e2; omega
    rw [hjn, List.take_of_length_le (by omega)] at T
    have hbl2 := sV_bl (fun x hx => (hf x hx).2) (by omega)
    refine K1372 Oa ⟨_, _, rfl, fun e => (by cases e), fun _ => K1373 (ht.fr E id) T (by omega) fun ng p n c e h5 f5 NS => ⟨_, _, _, _, _, rfl, ?_⟩⟩
    exact Hto (Ext.trans E f5) NS fun h6 b f6 => ⟨_, _, _, rfl, H h6 (Ext.trans (Ext.trans E f5) f6)⟩
theorem FlsA.ext {h h' : Heap} {e : Nat} {l : List Int} (A : FlsA h e l) (f : Ext h h') : FlsA h' e l := let ⟨cs, o, a⟩ := A; ⟨cs, o.ext f, a⟩
/-- sums.Dot, of finite floats and ones. -/
theorem K1363 {p p2 : Option Addr} {n c c2 : Nat} {l : List Int} {w : Int} (ht : TabH h) (I : IntsH h p l) (I2 : IntsH h p2 (List.replicate n P1)) (hn : l.length = n) (hl : n ≤ 4096) (hf : ∀ x ∈ l, isFin x = true) (h0 : 0 ≤ w) (h4 : w < 4)
    (H : ∀ h', Ext h h' → R (.returned (.tuple #[.int .i64 (sumV w l), .int .i64 (0 : Int)])) h') : Ent Tryz.prog B 12 #[.slice p n c, .slice p2 n c2, .int .i64 w] R h := by
  refine F1363_ok _ _ _ _ _ _ _ (alK fun e h1 e1 f1 o1 z1 => K1364t o1 h0 h4 hl ⟨_, rfl, fun e => absurd e (by decide), fun _ => ?_⟩)
  refine K1366 (φ := id) (I.ext f1) hn (by omega) (fun x h' _ k => K54 k) fun e2 h2 f2 l2 A => ⟨_, _, _, rfl, ?_⟩
  refine K1366 (φ := id) ((I2.ext f1).ext f2) (by rw [List.length_replicate]) (by omega) (fun x h' _ k => K54 k) fun e3 h3 f3 l3 A3 => ⟨_, _, _, rfl, ?_⟩
  rw [List.map_id] at A A3
  refine K1369 (v := sumV w l) (((ht.fr f1 id).fr f2 id).fr f3 id) (A.ext f3) A3 hn hl (fun x hx => ⟨I.1 x hx, hf x hx⟩) (fun {R' h' ng p n c e} E N k => ?_) fun h4 f4 => ⟨_, _, rfl, H h4 (Ext.trans (Ext.trans (Ext.trans f1 f2) f3) f4)⟩
  exact K1030 N h0 h4 fun h'' f => k h'' _ f
end Go.Proofs
namespace Go.Proofs
open Go Go.Eng
/-- plumb/bits.Float32 -/
def F1326_j3 (B : World) (R : Po) (a0 : Int) (b0 : Heap) : Prop :=
 Ec B 108 #[.int .u32 (IntKind.u32.wrap a0)] (retE (fun c0 d0 => ∃ e0, c0 = .float .f32 e0 ∧
 R (.returned (.float .f32 e0)) d0)
(pk R)) b0
def F1326 (B : World) (R : Po) (f0 : Int) (h : Heap) : Prop :=
 Ec B 107 #[.int .i64 f0] (retE (fun g0 i0 => ∃ j0, g0 = .bool j0 ∧
((!j0) = true →
 F1326_j3 B R (2143289345 : Int) i0) ∧
((!j0) = false →
 F1326_j3 B R f0 i0))
(pk R)) h
def F1326_L : Nat → List (Nat × TypeDesc) := fun _ => []
def F1326_J (B : World) (R : Po) : Nat → Option JT := fun i => match i with
  | 3 => some ⟨[(0, .int .i64)], fun s v h => match s, v with
    | [], [.int _ a0] => F1326_j3 B R a0 h
    | _, _ => False⟩
  | _ => none
theorem F1326_ok {B : World} {R : Ending → Heap → Prop} (f0 : Int) {h : Heap} (H : F1326 B R f0 h) : Ec B 68 #[.int .i64 f0] R h :=
 Ej Tryz.func68 (by kernel_rfl) (by kernel_rfl) (by kernel_rfl) F1326_L (F1326_J B R) [] (by kernel_rfl) (by kernel_rfl) H

/-- plumb/bits.pattern -/
def F1330 (B : World) (R : Po) (a0 : Int) (h : Heap) : Prop :=
 R (.returned (.bool (decide (a0 = (IntKind.i64.wrap (IntKind.u32.wrap a0)))))) h
def F1330_L : Nat → List (Nat × TypeDesc) := fun _ => []
theorem F1330_ok {B : World} {R : Ending → Heap → Prop} (a0 : Int) {h : Heap} (H : F1330 B R a0 h) : Ec B 107 #[.int .i64 a0] R h :=
 Ek Tryz.func107 (by kernel_rfl) (by kernel_rfl) (by kernel_rfl) F1330_L [] (by kernel_rfl) H

/-- plumb/bits.Of32 -/
def F1332 (B : World) (R : Po) (a0 : Nat) (h : Heap) : Prop :=
((FloatKind.f32.format.order a0 a0 != some .eq) = true →
 R (.returned (.int .i64 (2143289345 : Int))) h) ∧
((FloatKind.f32.format.order a0 a0 != some .eq) = false →
 Ec B 112 #[.float .f32 a0] (retE (fun b0 c0 => ∃ d0, b0 = .int .u32 d0 ∧
 R (.returned (.int .i64 (IntKind.i64.wrap d0))) c0)
(pk R)) h)
def F1332_L : Nat → List (Nat × TypeDesc) := fun _ => []
theorem F1332_ok {B : World} {R : Ending → Heap → Prop} (a0 : Nat) {h : Heap} (H : F1332 B R a0 h) : Ec B 70 #[.float .f32 a0] R h :=
 Ek Tryz.func70 (by kernel_rfl) (by kernel_rfl) (by kernel_rfl) F1332_L [] (by kernel_rfl) H
end Go.Proofs
set_option linter.unusedVariables false
/-! binary32: words and patterns; 1 as binary32 and as binary64. -/
namespace Go.Proofs
open Go Go.Eng
variable {B : World} {R : Ending → Heap → Prop} {h : Heap}
theorem E1331 {n : Nat} (H : R (.returned (.float .f32 n)) h) : Ent Tryz.prog B 108 #[.int .u32 (n : Int)] R h :=
  Ent.of_ext (e := Extern.MathFloatBits.float32frombits) Tryz.func108 (by kernel_rfl) (by kernel_rfl) (by kernel_rfl) (by kernel_rfl) rfl H
theorem E1334 {n : Nat} (H : R (.returned (.int .u32 (n : Int))) h) : Ent Tryz.prog B 112 #[.float .f32 n] R h :=
  Ent.of_ext (e := Extern.MathFloatBits.float32bits) Tryz.func112 (by kernel_rfl) (by kernel_rfl) (by kernel_rfl) (by kernel_rfl) rfl H
abbrev S1 : Int := 1065353216
theorem K1326c (H : R (.returned (.float .f32 1065353216)) h) : Ent Tryz.prog B 68 #[.int .i64 S1] R h := by
  refine F1326_ok _ (F1330_ok _ ⟨_, rfl, fun e => absurd e (by decide +kernel), fun _ => ?_⟩)
  have e1 : IntKind.u32.wrap S1 = ((1065353216 : Nat) : Int) := by decide +kernel
  unfold F1326_j3
  rw [e1]
  exact E1331 ⟨_, rfl, H⟩
theorem dec32 : FloatKind.f32.decode 1065353216 = .number false 8388608 (-23) := by decide +kernel
theorem cv32 {K : Nat → Prop} (H : K 4607182418800017408) : cvW .f32 1065353216 .f64 K := by
  refine ⟨fun e => (by cases e), fun _ => ?_⟩
  rw [dec32]
  refine ⟨fun e => absurd e (by decide +kernel), fun _ => ?_⟩
  have : FloatKind.f64.encode (.number false 8388608 (-23)) = 4607182418800017408 := by decide +kernel
  rw [this]; exact H
end Go.Proofs
