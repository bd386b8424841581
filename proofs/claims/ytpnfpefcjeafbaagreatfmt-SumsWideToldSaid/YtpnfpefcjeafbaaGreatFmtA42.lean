import Derived.Test.YtpnfpefcjeafbaaGreatFmtA09
import Derived.Test.YtpnfpefcjeafbaaGreatFmtA41
import Derived.Test.YtpnfpefcjeafbaaGreatFmtA39
/- Here stand lemmas and contracts, in the order in which they are used. -/
set_option linter.unusedVariables false
namespace Go.Proofs
open Go Go.Eng
/-- (*plumb/sums.total).add -/
def F1371_j8 (B : World) (R : Po) (a0 b0 : OA) (c0 : Heap) : Prop :=
 isP a0 fun d0 e0 =>
 iP d0 e0 fun f0 g0 =>
 isP a0 fun i0 j0 =>
 iP i0 j0 fun k0 l0 =>
 Ec B 70 #[.pointer (some ⟨f0, g0, none⟩), .pointer (some ⟨k0, l0, none⟩), .pointer b0] (retE (fun m0 n0 => ∃ o0, m0 = .pointer o0 ∧
 R (.returned (.tuple #[])) n0)
(fun _ _ => False)) c0
def F1371_j1 (B : World) (R : Po) (p0 : OA) (q0 r0 : Nat) (s0 : Heap) : Prop :=
 Ec B 66 #[.float .f64 q0] (retE (fun t0 u0 => ∃ v0 w0, t0 = .tuple #[.int .i64 v0, .int .i64 w0] ∧
 Ec B 66 #[.float .f64 r0] (retE (fun x0 y0 => ∃ z0 a1, x0 = .tuple #[.int .i64 z0, .int .i64 a1] ∧
 alW y0 (.cells #[.bool false, .slice none 0 0] 61) fun b1 c1 =>
 Ec B 27 #[.int .i64 v0] (retE (fun d1 e1 => ∃ f1, d1 = .pointer f1 ∧
 Ec B 27 #[.int .i64 z0] (retE (fun g1 i1 => ∃ j1, g1 = .pointer j1 ∧
 Ec B 67 #[.pointer (some ⟨b1, 0, none⟩), .pointer f1, .pointer j1] (retE (fun k1 l1 => ∃ m1, k1 = .pointer m1 ∧
((decide ((0 : Int) ≤ (IntKind.i64.wrap ((IntKind.i64.wrap (w0 + a1)) - (-2148 : Int))))) = true →
 Ec B 68 #[.pointer m1, .pointer m1, .int .u64 (IntKind.u64.wrap (IntKind.i64.wrap ((IntKind.i64.wrap (w0 + a1)) - (-2148 : Int))))] (retE (fun n1 o1 => ∃ p1, n1 = .pointer p1 ∧
 F1371_j8 B R p0 m1 o1)
(pk R)) l1) ∧
((decide ((0 : Int) ≤ (IntKind.i64.wrap ((IntKind.i64.wrap (w0 + a1)) - (-2148 : Int))))) = false →
 Ec B 69 #[.pointer m1, .pointer m1, .int .u64 (IntKind.u64.wrap (IntKind.i64.wrap (0 - (IntKind.i64.wrap ((IntKind.i64.wrap (w0 + a1)) - (-2148 : Int))))))] (retE (fun q1 r1 => ∃ s1, q1 = .pointer s1 ∧
 F1371_j8 B R p0 m1 r1)
(pk R)) l1))
(pk R)) i1)
(pk R)) e1)
(pk R)) c1)
(pk R)) u0)
(pk R)) s0
def F1371_j15 (B : World) (R : Po) (t1 : OA) (u1 v1 : Nat) (w1 : Bool) (x1 : Heap) : Prop :=
(w1 = true →
(true = true →
 R (.returned (.tuple #[])) x1) ∧
(true = false →
 F1371_j1 B R t1 u1 v1 x1)) ∧
(w1 = false →
((FloatKind.f64.format.order v1 v1 != some .eq) = true →
 R (.returned (.tuple #[])) x1) ∧
((FloatKind.f64.format.order v1 v1 != some .eq) = false →
 F1371_j1 B R t1 u1 v1 x1))
def F1371_j9 (B : World) (R : Po) (y1 : OA) (z1 a2 : Nat) (b2 : Bool) (c2 : Heap) : Prop :=
(b2 = true →
 F1371_j15 B R y1 z1 a2 true c2) ∧
(b2 = false →
 F1371_j15 B R y1 z1 a2 (FloatKind.f64.format.order z1 z1 != some .eq) c2)
def F1371 (B : World) (R : Po) (d2 : OA) (e2 f2 : Nat) (h : Heap) : Prop :=
 Ec B 65 #[.float .f64 e2, .int .i64 (0 : Int)] (retE (fun g2 i2 => ∃ j2, g2 = .bool j2 ∧
(j2 = true →
 F1371_j9 B R d2 e2 f2 true i2) ∧
(j2 = false →
 Ec B 65 #[.float .f64 f2, .int .i64 (0 : Int)] (retE (fun k2 l2 => ∃ m2, k2 = .bool m2 ∧
 F1371_j9 B R d2 e2 f2 m2 l2)
(pk R)) i2))
(pk R)) h
def F1371_L : Nat → List (Nat × TypeDesc) := fun _ => []
def F1371_J (B : World) (R : Po) : Nat → Option JT := fun i => match i with
  | 1 => some ⟨[(0, .pointer 0), (1, .float .f64), (2, .float .f64)], fun s v h => match s, v with
    | [], [.pointer p0, .float _ q0, .float _ r0] => F1371_j1 B R p0 q0 r0 h
    | _, _ => False⟩
  | 8 => some ⟨[(0, .pointer 0), (10, .pointer 0)], fun s v h => match s, v with
    | [], [.pointer a0, .pointer b0] => F1371_j8 B R a0 b0 h
    | _, _ => False⟩
  | _ => none
theorem F1371_ok {B : World} {R : Ending → Heap → Prop} (d2 : OA) (e2 f2 : Nat) {h : Heap} (H : F1371 B R d2 e2 f2 h) : Ec B 39 #[.pointer d2, .float .f64 e2, .float .f64 f2] R h :=
 Ej Tryz.func39 (by kernel_rfl) (by kernel_rfl) (by kernel_rfl) F1371_L (F1371_J B R) [] (by kernel_rfl) (by kernel_rfl) H

/-- (*plumb/sums.total).num -/
def F1373_j10 (B : World) (R : Po) (a0 : Lp) (b0 : Nat) (c0 d0 e0 f0 : OA) (g0 : Heap) : Prop :=
 Ec B 69 #[.pointer d0, .pointer d0, .int .u64 (30 : Int)] (retE (fun i0 j0 => ∃ k0, i0 = .pointer k0 ∧
∃ l0, l0 < b0 ∧ a0 l0 [.pointer c0, .pointer d0, .pointer e0, .pointer f0] j0)
(pk R)) g0
def F1373 (B : World) (R : Po) (m0 : OA) (h : Heap) : Prop :=
 alW h (.cells #[.bool false, .slice none 0 0, .int .i64 0] 38) fun n0 o0 =>
 isP m0 fun p0 q0 =>
 iP p0 q0 fun r0 s0 =>
 Ec B 54 #[.pointer (some ⟨r0, s0, none⟩)] (retE (fun t0 u0 => ∃ v0, t0 = .int .i64 v0 ∧
((decide (v0 = (0 : Int))) = true →
 iP n0 0 fun w0 x0 => stC u0 w0 x0 (.bool false) fun y0 =>
 stC y0 w0 (x0 + 1) (.slice none 0 0) fun z0 =>
 stC z0 w0 (x0 + 1 + 1) (.int .i64 0) fun a1 =>
 iP n0 0 fun b1 c1 =>
∃ d1, cell? a1 ⟨b1, c1, none⟩ = some (.bool d1) ∧
∃ e1 f1 g1, cell? a1 ⟨b1, c1 + 1, none⟩ = some (.slice e1 f1 g1) ∧
∃ i1, cell? a1 ⟨b1, c1 + 1 + 1, none⟩ = some (.int .i64 i1) ∧
 R (.returned (.agg #[.bool d1, .slice e1 f1 g1, .int .i64 i1])) a1) ∧
((decide (v0 = (0 : Int))) = false →
 isP m0 fun j1 k1 =>
 iP j1 k1 fun l1 m1 =>
 Ec B 72 #[.pointer (some ⟨l1, m1, none⟩)] (retE (fun n1 o1 => ∃ p1, n1 = .int .u64 p1 ∧
 alW o1 (.cells #[.bool false, .slice none 0 0] 61) fun q1 r1 =>
 isP m0 fun s1 t1 =>
 iP s1 t1 fun u1 v1 =>
 Ec B 73 #[.pointer (some ⟨q1, 0, none⟩), .pointer (some ⟨u1, v1, none⟩)] (retE (fun w1 x1 => ∃ y1, w1 = .pointer y1 ∧
 Ec B 69 #[.pointer y1, .pointer y1, .int .u64 p1] (retE (fun z1 a2 => ∃ b2, z1 = .pointer b2 ∧
 isP m0 fun c2 d2 =>
 iP c2 d2 fun e2 f2 =>
 Ec B 54 #[.pointer (some ⟨e2, f2, none⟩)] (retE (fun g2 i2 => ∃ j2, g2 = .int .i64 j2 ∧
 alW i2 (.cells #[.bool false, .slice none 0 0, .int .i64 0] 38) fun k2 l2 =>
 iP k2 0 fun m2 n2 => stC l2 m2 n2 (.bool (decide (j2 < (0 : Int)))) fun o2 =>
 stC o2 m2 (n2 + 1) (.slice none 0 0) fun p2 =>
 stC p2 m2 (n2 + 1 + 1) (.int .i64 (IntKind.i64.wrap ((-2148 : Int) + (IntKind.i64.wrap p1)))) fun q2 =>
 Ec B 27 #[.int .i64 (1073741823 : Int)] (retE (fun r2 s2 => ∃ t2, r2 = .pointer t2 ∧
∃ a0 : Lp, ∃ u2, a0 u2 [.pointer (some ⟨n0, 0, none⟩), .pointer y1, .pointer (some ⟨k2, 0, none⟩), .pointer t2] s2 ∧
∀ (b0 : Nat) (v2 : Heap) (w2 x2 y2 z2 : OA), a0 b0 [.pointer w2, .pointer x2, .pointer y2, .pointer z2] v2 → ∀ _r : Nat → Value,
 Ec B 54 #[.pointer x2] (retE (fun a3 b3 => ∃ c3, a3 = .int .i64 c3 ∧
((decide ((0 : Int) < c3)) = true →
 isP y2 fun d3 e3 =>
 isP (some ⟨d3, e3 + 1, none⟩) fun f3 g3 => ∃ i3 j3 k3, cS b3 f3 g3 i3 j3 k3 ∧
 alW b3 (.cells #[.bool false, .slice none 0 0] 61) fun l3 m3 =>
 sameCells b3 m3 f3 g3 1 ∧ Ec B 74 #[.pointer (some ⟨l3, 0, none⟩), .pointer x2, .pointer z2] (retE (fun n3 o3 => ∃ p3, n3 = .pointer p3 ∧
 sameCells m3 o3 f3 g3 1 ∧ Ec B 75 #[.pointer p3] (retE (fun q3 r3 => ∃ s3, q3 = .int .i64 s3 ∧
 sameCells o3 r3 f3 g3 1 ∧ alW r3 (.cells #[.int .i64 s3] 3) fun t3 u3 =>
 sameCells r3 u3 f3 g3 1 ∧ apW u3 i3 j3 k3 (some ⟨t3, 0, none⟩) 1 1 8 3 #[.int .i64 0] fun v3 w3 x3 y3 =>
 isP y2 fun z3 a4 =>
 isP (some ⟨z3, a4 + 1, none⟩) fun b4 c4 => stC y3 b4 c4 (.slice v3 w3 x3) fun d4 =>
 F1373_j10 B R a0 b0 w2 x2 y2 z2 d4)
(fun _ _ => False)) o3)
(fun _ _ => False)) m3) ∧
((decide ((0 : Int) < c3)) = false →
 isP y2 fun e4 f4 =>
∃ g4, cell? b3 ⟨e4, f4, none⟩ = some (.bool g4) ∧
∃ i4 j4 k4, cell? b3 ⟨e4, f4 + 1, none⟩ = some (.slice i4 j4 k4) ∧
∃ l4, cell? b3 ⟨e4, f4 + 1 + 1, none⟩ = some (.int .i64 l4) ∧
 isP w2 fun m4 n4 => stC b3 m4 n4 (.bool g4) fun o4 =>
 stC o4 m4 (n4 + 1) (.slice i4 j4 k4) fun p4 =>
 stC p4 m4 (n4 + 1 + 1) (.int .i64 l4) fun q4 =>
 isP w2 fun r4 s4 =>
∃ t4, cell? q4 ⟨r4, s4, none⟩ = some (.bool t4) ∧
∃ u4 v4 w4, cell? q4 ⟨r4, s4 + 1, none⟩ = some (.slice u4 v4 w4) ∧
∃ x4, cell? q4 ⟨r4, s4 + 1 + 1, none⟩ = some (.int .i64 x4) ∧
 R (.returned (.agg #[.bool t4, .slice u4 v4 w4, .int .i64 x4])) q4))
(pk R)) v2)
(pk R)) q2)
(pk R)) a2)
(pk R)) x1)
(pk R)) r1)
(pk R)) u0))
(pk R)) o0
def F1373_L : Nat → List (Nat × TypeDesc) := fun i => match i with
  | 8 => [(2, .pointer 0), (4, .pointer 0), (5, .pointer 0), (6, .pointer 0)]
  | _ => []
def F1373_J (B : World) (R : Po) : Nat → Option JT := fun i => match i with
  | 10 => some ⟨[(2, .pointer 0), (4, .pointer 0), (5, .pointer 0), (6, .pointer 0)], fun s v h => match s, v with
    | [(a0, b0)], [.pointer c0, .pointer d0, .pointer e0, .pointer f0] => F1373_j10 B R a0 b0 c0 d0 e0 f0 h
    | _, _ => False⟩
  | _ => none
theorem F1373_ok {B : World} {R : Ending → Heap → Prop} (m0 : OA) {h : Heap} (H : F1373 B R m0 h) : Ec B 41 #[.pointer m0] R h :=
 Ej Tryz.func41 (by kernel_rfl) (by kernel_rfl) (by kernel_rfl) F1373_L (F1373_J B R) [] (by kernel_rfl) (by kernel_rfl) H

/-- plumb/sums.parts -/
def F1378 (B : World) (R : Po) (a0 : Nat) (h : Heap) : Prop :=
 Ec B 99 #[.float .f64 a0] (retE (fun b0 c0 => ∃ d0 e0, b0 = .tuple #[.float .f64 d0, .int .i64 e0] ∧
 Ec B 100 #[.float .f64 d0, .int .i64 (53 : Int)] (retE (fun f0 g0 => ∃ i0, f0 = .float .f64 i0 ∧
 cviW .f64 i0 .i64 fun j0 =>
 R (.returned (.tuple #[.int .i64 j0, .int .i64 (IntKind.i64.wrap (e0 - (53 : Int)))])) g0)
(pk R)) c0)
(pk R)) h
def F1378_L : Nat → List (Nat × TypeDesc) := fun _ => []
theorem F1378_ok {B : World} {R : Ending → Heap → Prop} (a0 : Nat) {h : Heap} (H : F1378 B R a0 h) : Ec B 66 #[.float .f64 a0] R h :=
 Ek Tryz.func66 (by kernel_rfl) (by kernel_rfl) (by kernel_rfl) F1378_L [] (by kernel_rfl) H

/-- math.Frexp -/
def F1233 (B : World) (R : Po) (a0 : Nat) (h : Heap) : Prop :=
(false = true →
 Ec B 136 #[.float .f64 a0] (retE (fun b0 c0 => ∃ d0 e0, b0 = .tuple #[.float .f64 d0, .int .i64 e0] ∧
 R (.returned (.tuple #[.float .f64 d0, .int .i64 e0])) c0)
(pk R)) h) ∧
(false = false →
 Ec B 137 #[.float .f64 a0] (retE (fun f0 g0 => ∃ i0 j0, f0 = .tuple #[.float .f64 i0, .int .i64 j0] ∧
 R (.returned (.tuple #[.float .f64 i0, .int .i64 j0])) g0)
(pk R)) h)
def F1233_L : Nat → List (Nat × TypeDesc) := fun _ => []
theorem F1233_ok {B : World} {R : Ending → Heap → Prop} (a0 : Nat) {h : Heap} (H : F1233 B R a0 h) : Ec B 99 #[.float .f64 a0] R h :=
 Ek Tryz.func99 (by kernel_rfl) (by kernel_rfl) (by kernel_rfl) F1233_L [] (by kernel_rfl) H

/-- math.frexp -/
def F1250_j4 (B : World) (R : Po) (a0 : Nat) (b0 : Bool) (c0 : Heap) : Prop :=
(b0 = true →
 R (.returned (.tuple #[.float .f64 a0, .int .i64 (0 : Int)])) c0) ∧
(b0 = false →
 Ec B 163 #[.float .f64 a0] (retE (fun d0 e0 => ∃ f0 g0, d0 = .tuple #[.float .f64 f0, .int .i64 g0] ∧
 Ec B 56 #[.float .f64 f0] (retE (fun i0 j0 => ∃ k0, i0 = .int .u64 k0 ∧
0 ≤ (52 : Int) ∧
 Ec B 64 #[.int .u64 (bitsI .or .u64 (bitsI .andNot .u64 k0 (9218868437227405312 : Int)) (4602678819172646912 : Int))] (retE (fun l0 m0 => ∃ n0, l0 = .float .f64 n0 ∧
 R (.returned (.tuple #[.float .f64 n0, .int .i64 (IntKind.i64.wrap (g0 + (IntKind.i64.wrap ((IntKind.i64.wrap ((IntKind.i64.wrap (bitsI .and .u64 (Int.fdiv k0 (2 ^ min (Int.toNat (52 : Int)) IntKind.u64.bits)) (2047 : Int))) - (1023 : Int))) + (1 : Int)))))])) m0)
(pk R)) j0)
(pk R)) e0)
(pk R)) c0)
def F1250_j7 (B : World) (R : Po) (o0 : Nat) (p0 : Bool) (q0 : Heap) : Prop :=
 F1250_j4 B R o0 p0 q0
def F1250 (B : World) (R : Po) (r0 : Nat) (h : Heap) : Prop :=
((FloatKind.f64.format.order r0 0 == some .eq) = true →
 R (.returned (.tuple #[.float .f64 r0, .int .i64 (0 : Int)])) h) ∧
((FloatKind.f64.format.order r0 0 == some .eq) = false →
 Ec B 65 #[.float .f64 r0, .int .i64 (0 : Int)] (retE (fun s0 t0 => ∃ u0, s0 = .bool u0 ∧
(u0 = true →
 F1250_j7 B R r0 true t0) ∧
(u0 = false →
 Ec B 161 #[.float .f64 r0] (retE (fun v0 w0 => ∃ x0, v0 = .bool x0 ∧
 F1250_j7 B R r0 x0 w0)
(pk R)) t0))
(pk R)) h)
def F1250_L : Nat → List (Nat × TypeDesc) := fun _ => []
def F1250_J (B : World) (R : Po) : Nat → Option JT := fun i => match i with
  | 4 => some ⟨[(0, .float .f64), (9, .bool)], fun s v h => match s, v with
    | [], [.float _ a0, .bool b0] => F1250_j4 B R a0 b0 h
    | _, _ => False⟩
  | _ => none
theorem F1250_ok {B : World} {R : Ending → Heap → Prop} (r0 : Nat) {h : Heap} (H : F1250 B R r0 h) : Ec B 137 #[.float .f64 r0] R h :=
 Ej Tryz.func137 (by kernel_rfl) (by kernel_rfl) (by kernel_rfl) F1250_L (F1250_J B R) [] (by kernel_rfl) (by kernel_rfl) H
end Go.Proofs
set_option linter.unusedVariables false
/-! math.Frexp and sums.parts of a finite float. -/
namespace Go.Proofs
open Go Go.Eng
variable {B : World} {R : Ending → Heap → Prop} {h : Heap}
theorem rk_ne {b : Int} (ib : I64 b) (fb : isFin b = true) (h0 : fV b ≠ 0) : rk b ≠ 0 := by
  have f0 : isFin 0 = true := by decide
  have v0 : fV 0 = 0 := by decide +kernel
  have := (fV_rk ib (b := 0) (by unfold I64; omega) fb f0).2
  rw [v0, show rk 0 = 0 from rfl] at this
  exact fun e => h0 (this.2 e)
theorem rk_zero {b : Int} (ib : I64 b) (fb : isFin b = true) (h0 : fV b = 0) : rk b = 0 := by
  have f0 : isFin 0 = true := by decide
  have v0 : fV 0 = 0 := by decide +kernel
  have := (fV_rk ib (b := 0) (by unfold I64; omega) fb f0).2
  rw [v0, show rk 0 = 0 from rfl] at this
  exact this.1 h0
/-- math.normalize. -/
theorem K184g {b : Int} (ib : I64 b) (fb : isFin b = true) (h0 : fV b ≠ 0) (H : R (.returned (.tuple #[.float .f64 (wd (frP b)), .int .i64 (if fE b = 0 then (-52 : Int) else 0)])) h) :
    Ent Tryz.prog B 163 #[.float .f64 (wd b)] R h := by
  obtain ⟨s, E, t, e, e2, ht, e3, e4⟩ := pat_parts ib fb
  by_cases hE : fE b = 0
  · have hP : frP b = mulP b P52 := by unfold frP; rw [if_pos hE]
    rw [if_pos hE, hP] at H
    have hE0 : E = 0 := by omega
    subst hE0
    refine F184_ok _ (F94_ok _ (E117 ⟨_, rfl, ?_⟩))
    rw [andNot_top (wd_lt _)]
    refine E116 ⟨_, rfl, _, rfl, ?_⟩
    have ia : I64 (pat false (0 * 4503599627370496 + t)) := pat_I64 (by omega)
    have fa : isFin (pat false (0 * 4503599627370496 + t)) = true := pat_fin (by omega)
    have ra := rk_pat (ng := false) (k := 0 * 4503599627370496 + t) (by omega)
    have hm : wd b % 9223372036854775808 = wd (pat false (0 * 4503599627370496 + t)) := by
      rw [e, Go.Eng.wd_pat (by omega), Go.Eng.wd_pat (by omega)]
      unfold wordN
      cases s
      · simp only [Bool.false_eq_true, if_false]; omega
      · simp only [if_true, Bool.false_eq_true, if_false]; omega
    have hlt : (FloatKind.f64.format.order (wd b % 9223372036854775808) 4503599627370496 == some .lt) = true := by
      have eo := order_rk ia (b := 4503599627370496) (by unfold I64; omega) (fin_not fa).1 (by decide)
      rw [show wd 4503599627370496 = 4503599627370496 from by decide, show rk 4503599627370496 = 4503599627370496 from by decide] at eo
      rw [hm, eo, lt_ord, ra, if_neg (by decide)]
      exact decide_eq_true (by omega)
    rw [hlt]
    refine ⟨fun _ => ?_, fun e => (by cases e)⟩
    have w2 : WI 4841369599423283200 P52 := ⟨by decide, by decide +kernel⟩
    have w1 := wi_wd ib
    rw [fin_nrm fb] at w1
    refine w1.mul w2 fun z hz => ?_
    have fm : isFin (mulP b P52) = true := by
      obtain ⟨s', E', t', e', k1, k2, k3, _⟩ := sub_norm ib fb hE h0
      rw [e']; exact pat_fin (by omega)
    have : z = wd (mulP b P52) := by rw [← wd_sg hz.1, hz.eq (fin_not fm).1]
    rw [this]
    exact H
  · have hP : frP b = b := by unfold frP; rw [if_neg hE]
    rw [if_neg hE, hP] at H
    rw [e] at H ⊢
    exact K184n s (by omega) e2 ht H
/-- math.Frexp, of what is not 0. -/
theorem K1250 {b : Int} (ib : I64 b) (fb : isFin b = true) (h0 : fV b ≠ 0) (H : R (.returned (.tuple #[.float .f64 (wd (pat (frS b) (1022 * 4503599627370496 + frT b))), .int .i64 (frE b)])) h) :
    Ent Tryz.prog B 137 #[.float .f64 (wd b)] R h := by
  obtain ⟨E, hP, e1, e2, ht, hX, x1, x2, _⟩ := fr_spec ib fb h0
  have hnan := (fin_not fb).1
  have hinf := (fin_not fb).2
  refine F1250_ok _ ?_
  unfold F1250
  rw [order_0 ib hnan, eqo, decide_eq_false (rk_ne ib fb h0)]
  refine ⟨fun e => (by cases e), fun _ => K118 (wd_lt _) ⟨_, rfl, ?_⟩⟩
  rw [sg_wd ib, hinf]
  refine ⟨fun e => (by cases e), fun _ => F183_ok _ ⟨_, rfl, ?_⟩⟩
  have hs : (FloatKind.f64.format.order (wd b) (wd b) != some .eq) = isNaN (sg (wd b)) := order_self (wd_lt _)
  rw [hs, sg_wd ib, hnan]
  refine ⟨fun e => (by cases e), fun _ => K184g ib fb h0 ⟨_, _, rfl, E117 ⟨_, rfl, by decide, ?_⟩⟩⟩
  rw [hP, Go.Eng.wd_pat (by omega), frac_word _ (by omega) ht, get_expU _ (by omega) ht]
  refine E116 ⟨_, rfl, ?_⟩
  rw [i64_in (x := (E : Int)) (by omega) (by omega), i64_in (x := (E : Int) - 1023) (by omega) (by omega), i64_in (x := (E : Int) - 1023 + 1) (by omega) (by omega)]
  have hg : (if fE b = 0 then (-52 : Int) else 0) + ((E : Int) - 1023 + 1) = frE b := by rw [hX]; omega
  rw [hg, i64_in (x := frE b) (by omega) (by omega)]
  rw [Go.Eng.wd_pat (by omega)] at H
  exact H
theorem K1233 {b : Int} (ib : I64 b) (fb : isFin b = true) (h0 : fV b ≠ 0) (H : R (.returned (.tuple #[.float .f64 (wd (pat (frS b) (1022 * 4503599627370496 + frT b))), .int .i64 (frE b)])) h) :
    Ent Tryz.prog B 99 #[.float .f64 (wd b)] R h :=
  F1233_ok _ ⟨fun e => (by cases e), fun _ => K1250 ib fb h0 ⟨_, _, rfl, H⟩⟩
theorem K1233z {b : Int} (ib : I64 b) (fb : isFin b = true) (h0 : fV b = 0) (H : R (.returned (.tuple #[.float .f64 (wd b), .int .i64 (0 : Int)])) h) :
    Ent Tryz.prog B 99 #[.float .f64 (wd b)] R h := by
  refine F1233_ok _ ⟨fun e => (by cases e), fun _ => F1250_ok _ ?_⟩
  unfold F1250
  rw [order_0 ib (fin_not fb).1, eqo, decide_eq_true (rk_zero ib fb h0)]
  exact ⟨fun _ => ⟨_, _, rfl, H⟩, fun e => (by cases e)⟩
theorem K93z {b x : Int} (ib : I64 b) (fb : isFin b = true) (h0 : fV b = 0) (H : R (.returned (.float .f64 (wd b))) h) : Ent Tryz.prog B 100 #[.float .f64 (wd b), .int .i64 x] R h := by
  refine F93_ok _ _ ⟨fun e => (by cases e), fun _ => F152_ok _ _ ?_⟩
  unfold F152
  rw [order_0 ib (fin_not fb).1, eqo, decide_eq_true (rk_zero ib fb h0)]
  exact ⟨fun _ => ⟨_, rfl, H⟩, fun e => (by cases e)⟩
/-- A finite float as a whole number and an exponent. -/
def prM (b : Int) : Int := if fV b = 0 then 0 else frW (frS b) (frT b)
def prE (b : Int) : Int := if fV b = 0 then -53 else frE b - 53
theorem pr_val {b : Int} (ib : I64 b) (fb : isFin b = true) : fV b * 4503599627370496 = prM b * ((2 ^ (prE b + 1126).toNat : Nat) : Int) ∧ -1126 ≤ prE b ∧ prE b ≤ 971 ∧ -9007199254740992 < prM b ∧ prM b < 9007199254740992 := by
  unfold prM prE
  by_cases h0 : fV b = 0
  · rw [if_pos h0, if_pos h0, h0, Int.zero_mul, Int.zero_mul]
    exact ⟨rfl, by omega, by omega, by omega, by omega⟩
  · obtain ⟨E, hP, e1, e2, ht, hX, x1, x2, hv⟩ := fr_spec ib fb h0
    rw [if_neg h0, if_neg h0]
    refine ⟨hv, by rw [hX]; split <;> omega, by omega, ?_, ?_⟩ <;> unfold frW <;> cases frS b <;> simp only [Bool.false_eq_true, if_false, if_true] <;> omega
/-- sums.parts. -/
theorem K1378 {b : Int} (ib : I64 b) (fb : isFin b = true) (H : R (.returned (.tuple #[.int .i64 (prM b), .int .i64 (prE b)])) h) : Ent Tryz.prog B 66 #[.float .f64 (wd b)] R h := by
  obtain ⟨_, p1, p2, _, _⟩ := pr_val ib fb
  unfold prM prE at *
  by_cases h0 : fV b = 0
  · rw [if_pos h0] at *
    refine F1378_ok _ (K1233z ib fb h0 ⟨_, _, rfl, K93z ib fb h0 ⟨_, rfl, ?_⟩⟩)
    unfold cviW
    rw [toInt_whole (K := 0) ib fb (by rw [h0, Int.zero_mul])]
    have e1 : IntKind.i64.min = -9223372036854775808 := rfl
    have e2 : IntKind.i64.max = 9223372036854775807 := rfl
    refine ⟨fun _ => ?_, fun x => absurd ⟨by rw [e1]; omega, by rw [e2]; omega⟩ x⟩
    rw [if_pos h0] at H
    exact H
  · rw [if_neg h0] at *
    obtain ⟨E, hP, _, _, ht, _⟩ := fr_spec ib fb h0
    refine F1378_ok _ (K1233 ib fb h0 ⟨_, _, rfl, K93f (frS b) ht ⟨_, rfl, fr_toInt (frS b) ht ?_⟩⟩)
    rw [if_neg h0] at H
    rw [i64_in (x := frE b - 53) (by omega) (by omega)]
    exact H
end Go.Proofs
set_option linter.unusedVariables false
/-! sums.total.add. -/
namespace Go.Proofs
open Go Go.Eng
variable {B : World} {R : Ending → Heap → Prop} {h : Heap}
theorem pr_one : prM P1 = 4503599627370496 ∧ prE P1 = -52 := by
  have h0 : fV P1 ≠ 0 := by
    rw [p1_val]
    have : 0 < 2 ^ UN := Nat.pow_pos (by decide)
    omega
  unfold prM prE
  rw [if_neg h0, if_neg h0]
  have a : fE P1 = 1023 := by decide
  have b : frP P1 = P1 := by unfold frP; rw [a]; rfl
  unfold frS frT frE
  rw [b, a]
  decide
/-- The value of a float in units of 2^-2148. -/
theorem add_val {a : Int} (ia : I64 a) (fa : isFin a = true) : prM a * prM P1 * 2 ^ (prE a + 2096).toNat = fV a * (UW : Int) := by
  obtain ⟨v, p1, p2, _, _⟩ := pr_val ia fa
  obtain ⟨K, hK⟩ : ∃ K, K = 970 := ⟨_, rfl⟩
  have hU : (UW : Int) = 4503599627370496 * (4503599627370496 * ((2 ^ K : Nat) : Int)) := by
    rw [uw_pow (N := 52 + (52 + K)) (by omega), Nat.pow_add, Nat.pow_add, p52, Int.natCast_mul, Int.natCast_mul]; rfl
  have hk : (2 : Int) ^ (prE a + 2096).toNat = ((2 ^ (prE a + 1126).toNat : Nat) : Int) * ((2 ^ K : Nat) : Int) := by
    rw [show (prE a + 2096).toNat = (prE a + 1126).toNat + K by omega, ← Int.natCast_mul, ← Nat.pow_add, Int.natCast_pow]; rfl
  rw [pr_one.1, hU, hk, ← Int.mul_assoc (fV a), v]
  ac_rfl
/-- sums.total.add, of a finite float by 1. -/
theorem K1371 {r q o : Nat} {N a : Int} (T : IntAt h r q N) (ia : I64 a) (fa : isFin a = true) (ho : o = wd P1) (hb : bl N.natAbs ≤ 10000)
    (H : ∀ q' h', Fr (fun b => b = r ∨ Rm r q b) h h' → (q' = r ∨ q' = q ∨ h.size ≤ q') → IntAt h' r q' (N + fV a * (UW : Int)) → R (.returned (.tuple #[])) h') :
    Ent Tryz.prog B 39 #[.pointer (some ⟨r, 0, none⟩), .float .f64 (wd a), .float .f64 o] R h := by
  subst ho
  have i1 : I64 P1 := by unfold I64 P1; omega
  have f1 : isFin P1 = true := by decide
  obtain ⟨_, p1, p2, p3, p4⟩ := pr_val ia fa
  have hv := add_val ia fa
  obtain ⟨o1, o2⟩ := pr_one
  refine F1371_ok _ _ _ (K118 (wd_lt _) ⟨_, rfl, ?_⟩)
  rw [sg_wd ia, (fin_not fa).2]
  refine ⟨fun e => (by cases e), fun _ => K118 (wd_lt _) ⟨_, rfl, ?_⟩⟩
  rw [sg_wd i1, (fin_not f1).2]
  refine ⟨fun e => (by cases e), fun _ => ?_⟩
  have hs : (FloatKind.f64.format.order (wd a) (wd a) != some .eq) = isNaN (sg (wd a)) := order_self (wd_lt _)
  have hs1 : (FloatKind.f64.format.order (wd P1) (wd P1) != some .eq) = isNaN (sg (wd P1)) := order_self (wd_lt _)
  rw [hs, sg_wd ia, (fin_not fa).1]
  refine ⟨fun e => (by cases e), fun _ => ?_⟩
  rw [hs1, sg_wd i1, (fin_not f1).1]
  refine ⟨fun e => (by cases e), fun _ => ?_⟩
  refine K1378 ia fa ⟨_, _, rfl, K1378 i1 f1 ⟨_, _, rfl, alK fun d g1 ed fd od zd => K120 (by omega) (by omega) fun r2 q2 h2 f2 l1 l2 l3 I2 => ⟨_, rfl, K120 (by omega) (by omega) fun r3 q3 h3 f3 m1 m2 m3 I3 => ⟨_, rfl, ?_⟩⟩⟩⟩
  have ld := od.lt
  have lr := T.lt
  have lq := T.lq
  have bM : bl (prM a).natAbs ≤ 53 := bl_of_lt (a := 53) (by rw [show (2 : Nat) ^ 53 = 9007199254740992 by decide]; omega) (by decide)
  have bO : bl (prM P1).natAbs ≤ 53 := by rw [o1]; decide
  refine K131f ((od.ext f2).ext f3) (I2.ext f3) I3 (by omega) (by omega) (by omega) (by omega) (by omega) (.inl (by omega)) fun q4 h4 f4 d4 I4 => ⟨_, rfl, ?_⟩
  have hq4 : q4 = d ∨ h3.size ≤ q4 := by rcases d4 with e | e | e; exact .inl e; exact e.elim; exact .inr e
  rw [o2, i64_in (x := prE a + -52) (by omega) (by omega), i64_in (x := prE a + -52 - -2148) (by omega) (by omega)]
  refine ⟨fun _ => ?_, fun e => absurd (of_decide_eq_false e) (by omega)⟩
  obtain ⟨k, hk⟩ : ∃ k : Nat, prE a + -52 - -2148 = (k : Int) := ⟨(prE a + 2096).toNat, by omega⟩
  have hk2 : (prE a + 2096).toNat = k := by omega
  rw [hk2] at hv
  rw [hk, wrap_u64_nat, Nat.mod_eq_of_lt (by omega)]
  have bP : bl (prM a * prM P1).natAbs ≤ 106 := bl_mul bM bO
  refine K128i (s := k) I4 (by omega) (by omega) (by omega) fun q5 h5 f5 d5 I5 => ⟨_, rfl, ?_⟩
  rw [hv] at I5
  have s1 := fd.size
  have s2 := f2.size
  have s3 := f3.size
  have s4 := f4.size
  have hq5 : q5 = d ∨ q5 = q4 ∨ h4.size ≤ q5 := by rcases d5 with e | e | e; exact .inl e; exact .inr (.inl e.1); exact .inr (.inr e)
  have E3 : Ext h h3 := Ext.trans (Ext.trans fd f2) f3
  have n4 : ∀ x, x < h.size → ¬ (x = d ∨ False) := fun x hx e => by rcases e with e | e; omega; exact e
  have n5 : ∀ x, x < h.size → ¬ (x = d ∨ Rm d q4 x) := fun x hx e => by
    rcases e with e | e
    · omega
    · have := e.1; omega
  have E5 : Ext h h5 := Fr.trans (Fr.trans E3 f4 fun x hx e => n4 x hx e) f5 fun x hx e => n5 x hx e
  have T5 := T.ext E5
  have bV : bl (fV a * (UW : Int)).natAbs ≤ 4000 := by
    rw [← hv]
    have := bl_sc (k := k) bP
    omega
  refine ⟨r, 0, rfl, r, 0, rfl, r, 0, rfl, r, 0, rfl, K127i T5 I5 (by omega) (by omega) (by omega) fun q6 h6 f6 d6 I6 => ⟨_, rfl, ?_⟩⟩
  refine H q6 h6 (Fr.trans E5.to f6 fun x hx e => e) ?_ I6
  have s5 := E5.size
  rcases d6 with e | e | e
  · exact .inl e
  · exact .inr (.inl e.1)
  · exact .inr (.inr (by omega))
end Go.Proofs
