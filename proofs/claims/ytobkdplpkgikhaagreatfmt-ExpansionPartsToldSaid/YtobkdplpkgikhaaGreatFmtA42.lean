import Derived.Test.YtobkdplpkgikhaaGreatFmtA41
import Derived.Test.YtobkdplpkgikhaaGreatFmtA09
/- Here stand lemmas and contracts, in the order in which they are used. -/
set_option linter.unusedVariables false
set_option linter.unusedVariables false
namespace Go.Eng
open Go
/-- Of a number below the smallest float's half or at it. -/
theorem low_num {V n : Nat} {E : Int} (hT : Top n V) (hE : E ≤ -1074) :
    flo V (E - 64 * n) = 0 ∧ odd V (E - 64 * n) = true ∧ incN V (E - 64 * n) = (decide (E = -1074) && decide (V % 2 ^ (64 * n - 1) ≠ 0)) := by
  have hn0 := (top_pos hT).1
  have hX := top_cutX (E := E) hT
  have hD : cutD V (E - 64 * n) = 64 * n + (-(E + 1074)).toNat := by rw [top_cutD hT]; omega
  have hL := top_last (E := E) hT
  have hlt : V < 2 ^ (64 * n + (-(E + 1074)).toNat) := Nat.lt_of_lt_of_le hT.2 (Nat.pow_le_pow_right (by decide) (by omega))
  have hz : V / 2 ^ (64 * n + (-(E + 1074)).toNat) = 0 := Nat.div_eq_of_lt hlt
  have hm : V % 2 ^ (64 * n + (-(E + 1074)).toNat) = V := Nat.mod_eq_of_lt hlt
  refine ⟨?_, ?_, ?_⟩
  · unfold flo; rw [hX, hD, hL, hz, show (max (E - 53) (-1074) + 1074).toNat = 0 by omega]
  · unfold odd; rw [hX, hD, hm]
    have := (top_pos hT).2
    exact decide_eq_true (by omega)
  · unfold incN; rw [hX, hD, hm, hz]
    have hV := hT.1
    have h2 : 2 ^ (64 * n) = 2 * 2 ^ (64 * n - 1) := by rw [Nat.mul_comm 2, ← Nat.pow_succ, show (64 * n - 1).succ = 64 * n by omega]
    have hV2 := hT.2
    rw [h2] at hV2
    have hmod : V % 2 ^ (64 * n - 1) = V - 2 ^ (64 * n - 1) := by
      rw [Nat.mod_eq_sub_mod hV, Nat.mod_eq_of_lt (by omega)]
    by_cases hE2 : E = -1074
    · rw [decide_eq_true hE2, Bool.true_and, hmod, show 64 * n + (-(E + 1074)).toNat = 64 * n by omega, h2]
      by_cases h : V = 2 ^ (64 * n - 1)
      · rw [decide_eq_false (by omega), decide_eq_false (by omega)]
      · rw [decide_eq_true (by omega), decide_eq_true (by omega)]
    · rw [decide_eq_false hE2, Bool.false_and, decide_eq_false]
      have h3 : 2 * 2 ^ (64 * n) ≤ 2 ^ (64 * n + (-(E + 1074)).toNat) := by
        rw [Nat.mul_comm, ← Nat.pow_succ]
        exact Nat.pow_le_pow_right (by decide) (by omega)
      rw [h2] at h3
      omega
theorem low_zero {V : Nat} {e : Int} (ng : Bool) (h1 : flo V e = 0) (h2 : odd V e = true) (h3 : incN V e = false) : rung V e = 0 ∧ accN V e ng = if ng then 1 else -1 := by
  refine ⟨?_, ?_⟩
  · rw [rung_idx V e false]; unfold idxW awayW; rw [h1, h3]; rfl
  · unfold accN inxN upN
    rw [h1, h2, h3]
    cases ng <;> rfl
theorem low_one {V : Nat} {e : Int} (ng : Bool) (h1 : flo V e = 0) (h2 : odd V e = true) (h3 : incN V e = true) : rung V e = 1 ∧ accN V e ng = if ng then -1 else 1 := by
  refine ⟨?_, ?_⟩
  · rw [rung_idx V e false]; unfold idxW awayW; rw [h1, h3]; rfl
  · unfold accN inxN upN
    rw [h1, h2, h3]
    cases ng <;> rfl
end Go.Eng
namespace Go.Proofs
open Go Go.Eng
variable {B : World} {R : Ending → Heap → Prop} {h : Heap}
/-- Float64 of a number other than 0. -/
theorem K1081 {r q n V : Nat} {pr ac E : Int} {ng : Bool} (F : FltV h r q pr ac ng n V E) (hpr : 53 < pr) (hn : n ≤ 30000000) (hE : -2147480000 ≤ E) (hE2 : E ≤ 2147483600)
    (H : ∀ h', Ext h h' → R (.returned (.tuple #[.float .f64 (wordN ng (rung V (E - 64 * n))), .int .i8 (accN V (E - 64 * n) ng)])) h') :
    Ent Tryz.prog B 85 #[.pointer (some ⟨r, 0, none⟩)] R h := by
  have G := F
  obtain ⟨o, c, ws, F1, M1, v1, hT, hq⟩ := F
  have hn0 := (top_pos hT).1
  have w1 : IntKind.i32.wrap (E - (1 : Int)) = E - 1 := wrap_i32_in (by omega) (by omega)
  have w2 : IntKind.i64.wrap (E - 1) = E - 1 := i64_in (by omega) (by omega)
  have w3 : IntKind.i64.wrap ((1075 : Int) + (E - 1)) = E + 1074 := by rw [i64_in (by omega) (by omega)]; omega
  refine F1081_ok _ ⟨fun e => by simp at e, fun _ => F1.lfo ⟨fun _ => F1.lex ?_, fun e => absurd (of_decide_eq_false e) (by simp)⟩⟩
  rw [w1, w2, w3]
  refine ⟨fun e => ⟨fun e2 => ?_, fun e2 => ⟨fun e3 => ?_, fun e3 => ?_⟩⟩, fun e => ?_⟩
  · have h1 := of_decide_eq_true e2
    obtain ⟨a1, a2, a3⟩ := low_num (E := E) hT (by omega)
    rw [decide_eq_false (show ¬ E = -1074 by omega), Bool.false_and] at a3
    obtain ⟨b1, b2⟩ := low_zero ng a1 a2 a3
    have HH := H h Fr.rfl'
    rw [b1, b2] at HH
    refine ⟨fun _ => F1.lng ⟨fun e => ?_, fun e => ?_⟩, fun e => by cases e⟩
    · subst e; exact HH
    · subst e; exact HH
  · have h1 : E = -1074 := by have := of_decide_eq_true e3; omega
    obtain ⟨a1, a2, a3⟩ := low_num (E := E) hT (by omega)
    rw [decide_eq_true h1, Bool.true_and] at a3
    have HH := H h Fr.rfl'
    have hw : IntKind.u64.wrap ((IntKind.u64.wrap ((IntKind.u64.wrap (n : Int)) * (64 : Int))) - (1 : Int)) = ((64 * n - 1 : Nat) : Int) := by
      rw [wrap_u64_in (x := (n : Int)) (by omega) (by omega), wrap_u64_in (x := (n : Int) * 64) (by omega) (by omega), wrap_u64_in (by omega) (by omega)]
      omega
    refine F1.ma (F1.ma ?_)
    rw [hw]
    refine K1097 M1 (by omega) ⟨_, rfl, ?_⟩
    rw [show val B64 ws = V from v1]
    by_cases hz : V % 2 ^ (64 * n - 1) = 0
    · rw [decide_eq_false (by simp [hz])] at a3
      obtain ⟨b1, b2⟩ := low_zero ng a1 a2 a3
      rw [b1, b2] at HH
      rw [if_pos hz]
      refine ⟨fun _ => F1.lng ⟨fun e => ?_, fun e => ?_⟩, fun e => by cases e⟩
      · subst e; exact HH
      · subst e; exact HH
    · rw [decide_eq_true hz] at a3
      obtain ⟨b1, b2⟩ := low_one ng a1 a2 a3
      rw [b1, b2] at HH
      rw [if_neg hz]
      refine ⟨fun e => (by cases e), fun _ => ⟨fun _ => F1.lng ⟨fun e => ?_, fun e => ?_⟩, fun e => absurd (of_decide_eq_false e) (by omega)⟩⟩
      · subst e; exact HH
      · subst e; exact HH
  · have h1 := of_decide_eq_true e
    have h2 := of_decide_eq_false e2
    have h3 := of_decide_eq_false e3
    refine ⟨fun e => (by cases e), fun _ => ⟨fun e => absurd (of_decide_eq_true e) h3, fun _ => ?_⟩⟩
    have := f64_mid (B := B) (R := R) (p := (E + 1074).toNat) G hpr hn (.inr ⟨by omega, by omega, by omega⟩) H
    rw [show (((E + 1074).toNat : Nat) : Int) = E + 1074 by omega] at this
    exact this
  · have h1 := of_decide_eq_false e
    exact f64_mid (p := 53) G hpr hn (.inl ⟨rfl, by omega, by omega⟩) H
end Go.Proofs
namespace Go.Proofs
open Go Go.Eng
/-- plumb/round.To -/
def F1030 (B : World) (R : Po) (a0 : Bool) (b0 : OA) (c0 d0 : Nat) (e0 f0 : Int) (h : Heap) : Prop :=
 alW h (.cells #[.bool a0, .slice b0 c0 d0, .int .i64 e0] 24) fun g0 i0 =>
 iP g0 0 fun j0 k0 =>
∃ l0, cell? i0 ⟨j0, k0, none⟩ = some (.bool l0) ∧
∃ m0 n0 o0, cell? i0 ⟨j0, k0 + 1, none⟩ = some (.slice m0 n0 o0) ∧
∃ p0, cell? i0 ⟨j0, k0 + 1 + 1, none⟩ = some (.int .i64 p0) ∧
 alW i0 (.cells #[.bool l0, .slice m0 n0 o0, .int .i64 p0] 24) fun q0 r0 =>
 Ec B 49 #[.int .i64 f0, .slice (some ⟨q0, 0, none⟩) 1 1, .func (.func 50) #[] #[], .func (.func 51) #[] #[], .int .i64 (-9223372036854775808 : Int)] (retE (fun s0 t0 => ∃ u0 v0 w0, s0 = .tuple #[.int .i64 u0, .bool v0, .int .i64 w0] ∧
 R (.returned (.tuple #[.int .i64 u0, .bool v0, .int .i64 w0])) t0)
(pk R)) r0
def F1030_L : Nat → List (Nat × TypeDesc) := fun _ => []
theorem F1030_ok {B : World} {R : Ending → Heap → Prop} (a0 : Bool) (b0 : OA) (c0 d0 : Nat) (e0 f0 : Int) {h : Heap} (H : F1030 B R a0 b0 c0 d0 e0 f0 h) : Ec B 29 #[.agg #[.bool a0, .slice b0 c0 d0, .int .i64 e0], .int .i64 f0] R h :=
 Ek Tryz.func29 (by kernel_rfl) (by kernel_rfl) (by kernel_rfl) F1030_L [] (by kernel_rfl) H

/-- plumb/round.rounded -/
def F1055_j18 (B : World) (R : Po) (a0 : Int) (b0 : Bool) (c0 : Heap) : Prop :=
 R (.returned (.tuple #[.int .i64 a0, .bool b0, .int .i64 (0 : Int)])) c0
def F1055 (B : World) (R : Po) (d0 : Int) (e0 : OA) (f0 g0 : Nat) (i0 j0 : Value) (k0 : Int) (h : Heap) : Prop :=
 Ec B 80 #[.int .i64 d0] (retE (fun l0 m0 => ∃ n0 o0, l0 = .tuple #[.agg #[n0], .bool o0] ∧
 alW m0 (.cells #[Value.nilFunc] 119) fun p0 q0 =>
 iP p0 0 fun r0 s0 => stC q0 r0 s0 n0 fun t0 =>
((!o0) = true →
 R (.returned (.tuple #[.int .i64 (0 : Int), .bool false, .int .i64 (1 : Int)])) t0) ∧
((!o0) = false →
 0 ≤ (f0 : Int) ∧ (f0 : Int) ≤ (f0 : Int) ∧ 24 * (f0 : Int) ≤ 281474976710656 ∧ (f0 : Int) < 9223372036854775808 ∧
 alW t0 (.cells (mkCells #[.pointer none, .int .i64 0, .bool false] (Int.toNat (f0 : Int) * 3)) 83) fun u0 v0 =>
∃ w0 : Lp, ∃ x0, w0 x0 [i0, j0, .int .i64 k0, .pointer (some ⟨p0, 0, none⟩), .slice (some ⟨u0, 0, none⟩) (Int.toNat (f0 : Int)) (Int.toNat (f0 : Int)), .slice e0 f0 g0, .int .i64 (f0 : Int), .int .i64 (0 : Int)] v0 ∧
∀ (y0 : Nat) (z0 : Heap) (a1 b1 : Value) (c1 : Int) (d1 e1 : OA) (f1 g1 : Nat) (i1 : OA) (j1 k1 : Nat) (l1 m1 : Int), w0 y0 [a1, b1, .int .i64 c1, .pointer d1, .slice e1 f1 g1, .slice i1 j1 k1, .int .i64 l1, .int .i64 m1] z0 → ∀ _r : Nat → Value,
((decide (m1 < l1)) = true →
 ixW i1 j1 m1 3 fun n1 o1 =>
 iP n1 o1 fun p1 q1 =>
∃ r1, cell? z0 ⟨p1, q1, none⟩ = some (.bool r1) ∧
∃ s1 t1 u1, cell? z0 ⟨p1, q1 + 1, none⟩ = some (.slice s1 t1 u1) ∧
∃ v1, cell? z0 ⟨p1, q1 + 1 + 1, none⟩ = some (.int .i64 v1) ∧
 alW z0 (.cells #[.bool false, .slice none 0 0, .int .i64 0] 24) fun w1 x1 =>
 iP w1 0 fun y1 z1 => stC x1 y1 z1 (.bool r1) fun a2 =>
 stC a2 y1 (z1 + 1) (.slice s1 t1 u1) fun b2 =>
 stC b2 y1 (z1 + 1 + 1) (.int .i64 v1) fun c2 =>
 iP w1 0 fun d2 e2 =>
∃ f2, cell? c2 ⟨d2, e2, none⟩ = some (.bool f2) ∧
∃ g2 i2 j2, cell? c2 ⟨d2, e2 + 1, none⟩ = some (.slice g2 i2 j2) ∧
∃ k2, cell? c2 ⟨d2, e2 + 1 + 1, none⟩ = some (.int .i64 k2) ∧
 Ec B 28 #[.agg #[.bool f2, .slice g2 i2 j2, .int .i64 k2]] (retE (fun l2 m2 => ∃ n2, l2 = .bool n2 ∧
((!n2) = true →
 R (.returned (.tuple #[.int .i64 (0 : Int), .bool false, .int .i64 (11 : Int)])) m2) ∧
((!n2) = false →
 iP w1 0 fun o2 p2 =>
∃ q2, cell? m2 ⟨o2, p2, none⟩ = some (.bool q2) ∧
∃ r2 s2 t2, cell? m2 ⟨o2, p2 + 1, none⟩ = some (.slice r2 s2 t2) ∧
∃ u2, cell? m2 ⟨o2, p2 + 1 + 1, none⟩ = some (.int .i64 u2) ∧
 Ec B 81 #[.agg #[.bool q2, .slice r2 s2 t2, .int .i64 u2]] (retE (fun v2 w2 => ∃ x2 y2 z2, v2 = .agg #[.pointer x2, .int .i64 y2, .bool z2] ∧
 ixW e1 f1 m1 3 fun a3 b3 =>
 iP a3 b3 fun c3 d3 => stC w2 c3 d3 (.pointer x2) fun e3 =>
 stC e3 c3 (d3 + 1) (.int .i64 y2) fun f3 =>
 stC f3 c3 (d3 + 1 + 1) (.bool z2) fun g3 =>
∃ i3, i3 < y0 ∧ w0 i3 [a1, b1, .int .i64 c1, .pointer d1, .slice e1 f1 g1, .slice i1 j1 k1, .int .i64 l1, .int .i64 (IntKind.i64.wrap (m1 + (1 : Int)))] g3)
(pk R)) m2))
(pk R)) c2) ∧
((decide (m1 < l1)) = false →
 Ev B a1 #[.slice e1 f1 g1] (retE (fun j3 k3 => ∃ l3 m3 n3 o3, j3 = .tuple #[.agg #[.pointer l3, .int .i64 m3, .bool n3], .int .i64 o3] ∧
 alW k3 (.cells #[.pointer none, .int .i64 0, .bool false] 83) fun p3 q3 =>
 iP p3 0 fun r3 s3 => stC q3 r3 s3 (.pointer l3) fun t3 =>
 stC t3 r3 (s3 + 1) (.int .i64 m3) fun u3 =>
 stC u3 r3 (s3 + 1 + 1) (.bool n3) fun v3 =>
((!decide (o3 = (0 : Int))) = true →
 R (.returned (.tuple #[.int .i64 (0 : Int), .bool false, .int .i64 o3])) v3) ∧
((!decide (o3 = (0 : Int))) = false →
 iP p3 0 fun w3 x3 =>
∃ y3, cell? v3 ⟨w3, x3, none⟩ = some (.pointer y3) ∧
∃ z3, cell? v3 ⟨w3, x3 + 1, none⟩ = some (.int .i64 z3) ∧
∃ a4, cell? v3 ⟨w3, x3 + 1 + 1, none⟩ = some (.bool a4) ∧
 isP d1 fun b4 c4 =>
∃ d4, cell? v3 ⟨b4, c4, none⟩ = some d4 ∧
 Ev B b1 #[.agg #[.pointer y3, .int .i64 z3, .bool a4], .agg #[d4]] (retE (fun e4 f4 => ∃ g4 i4, e4 = .tuple #[.int .i64 g4, .bool i4] ∧
((decide (g4 = c1)) = true →
 F1055_j18 B R (0 : Int) i4 f4) ∧
((decide (g4 = c1)) = false →
 F1055_j18 B R g4 i4 f4))
(pk R)) v3))
(pk R)) z0)))
(pk R)) h
def F1055_L : Nat → List (Nat × TypeDesc) := fun i => match i with
  | 6 => [(2, .invalid), (3, .invalid), (4, .int .i64), (13, .pointer 0), (15, .slice 0), (32, .slice 0), (33, .int .i64), (34, .int .i64)]
  | _ => []
def F1055_J (B : World) (R : Po) : Nat → Option JT := fun i => match i with
  | 18 => some ⟨[(20, .int .i64), (21, .bool)], fun s v h => match s, v with
    | [], [.int _ a0, .bool b0] => F1055_j18 B R a0 b0 h
    | _, _ => False⟩
  | _ => none
theorem F1055_ok {B : World} {R : Ending → Heap → Prop} (d0 : Int) (e0 : OA) (f0 g0 : Nat) (i0 j0 : Value) (k0 : Int) {h : Heap} (H : F1055 B R d0 e0 f0 g0 i0 j0 k0 h) : Ec B 49 #[.int .i64 d0, .slice e0 f0 g0, i0, j0, .int .i64 k0] R h :=
 Ej Tryz.func49 (by kernel_rfl) (by kernel_rfl) (by kernel_rfl) F1055_L (F1055_J B R) [] (by kernel_rfl) (by kernel_rfl) H

/-- plumb/round.self -/
def F1056 (B : World) (R : Po) (a0 : OA) (b0 c0 : Nat) (h : Heap) : Prop :=
 alW h (.cells #[.pointer none, .int .i64 0, .bool false] 83) fun d0 e0 =>
 ixW a0 b0 (0 : Int) 3 fun f0 g0 =>
 iP f0 g0 fun i0 j0 =>
∃ k0, cell? e0 ⟨i0, j0, none⟩ = some (.pointer k0) ∧
∃ l0, cell? e0 ⟨i0, j0 + 1, none⟩ = some (.int .i64 l0) ∧
∃ m0, cell? e0 ⟨i0, j0 + 1 + 1, none⟩ = some (.bool m0) ∧
 iP d0 0 fun n0 o0 => stC e0 n0 o0 (.pointer k0) fun p0 =>
 stC p0 n0 (o0 + 1) (.int .i64 l0) fun q0 =>
 stC q0 n0 (o0 + 1 + 1) (.bool m0) fun r0 =>
 iP d0 0 fun s0 t0 =>
∃ u0, cell? r0 ⟨s0, t0, none⟩ = some (.pointer u0) ∧
∃ v0, cell? r0 ⟨s0, t0 + 1, none⟩ = some (.int .i64 v0) ∧
∃ w0, cell? r0 ⟨s0, t0 + 1 + 1, none⟩ = some (.bool w0) ∧
 R (.returned (.tuple #[.agg #[.pointer u0, .int .i64 v0, .bool w0], .int .i64 (0 : Int)])) r0
def F1056_L : Nat → List (Nat × TypeDesc) := fun _ => []
theorem F1056_ok {B : World} {R : Ending → Heap → Prop} (a0 : OA) (b0 c0 : Nat) {h : Heap} (H : F1056 B R a0 b0 c0 h) : Ec B 50 #[.slice a0 b0 c0] R h :=
 Ek Tryz.func50 (by kernel_rfl) (by kernel_rfl) (by kernel_rfl) F1056_L [] (by kernel_rfl) H

/-- (plumb/round.number).to -/
def F1057_j105 (B : World) (R : Po) (a0 : Int) (b0 : Bool) (c0 : Heap) : Prop :=
 R (.returned (.tuple #[.int .i64 a0, .bool b0])) c0
def F1057_j114 (B : World) (R : Po) (d0 : Int) (e0 : Bool) (f0 : Heap) : Prop :=
 R (.returned (.tuple #[.int .i64 d0, .bool e0])) f0
def F1057_j9 (B : World) (R : Po) (g0 : OA) (i0 j0 : Int) (k0 : Heap) : Prop :=
((!decide (i0 = (0 : Int))) = true →
 F1057_j105 B R j0 true k0) ∧
((!decide (i0 = (0 : Int))) = false →
 isP g0 fun l0 m0 =>
 isP (some ⟨l0, m0 + 2, none⟩) fun n0 o0 => ∃ p0, cell? k0 ⟨n0, o0, none⟩ = some (.bool p0) ∧
 F1057_j114 B R j0 p0 k0)
def F1057_j8 (B : World) (R : Po) (q0 r0 : OA) (s0 t0 : Int) (u0 : Heap) : Prop :=
 isP r0 fun v0 w0 =>
 iP v0 w0 fun x0 y0 => ∃ z0, cell? u0 ⟨x0, y0, none⟩ = some (.pointer z0) ∧
 Ec B 86 #[.pointer z0] (retE (fun a1 b1 => ∃ c1, a1 = .int .i64 c1 ∧
 Ec B 89 #[.int .i64 t0, .bool (decide (c1 < (0 : Int)))] (retE (fun d1 e1 => ∃ f1, d1 = .int .i64 f1 ∧
 F1057_j9 B R q0 s0 f1 e1)
(pk R)) b1)
(pk R)) u0
def F1057 (B : World) (R : Po) (g1 : OA) (i1 : Int) (j1 : Bool) (k1 : Value) (h : Heap) : Prop :=
 alW h (.cells #[.pointer g1, .int .i64 i1, .bool j1] 83) fun l1 m1 =>
 alW m1 (.cells #[k1] 119) fun n1 o1 =>
 iP l1 0 fun p1 q1 =>
∃ r1, cell? o1 ⟨p1, q1, none⟩ = some (.pointer r1) ∧
∃ s1, cell? o1 ⟨p1, q1 + 1, none⟩ = some (.int .i64 s1) ∧
∃ t1, cell? o1 ⟨p1, q1 + 1 + 1, none⟩ = some (.bool t1) ∧
 Ec B 82 #[.agg #[.pointer r1, .int .i64 s1, .bool t1]] (retE (fun u1 v1 => ∃ w1 x1 y1, u1 = .agg #[.pointer w1, .int .i64 x1, .bool y1] ∧
 alW v1 (.cells #[.pointer none, .int .i64 0, .bool false] 83) fun z1 a2 =>
 iP z1 0 fun b2 c2 => stC a2 b2 c2 (.pointer w1) fun d2 =>
 stC d2 b2 (c2 + 1) (.int .i64 x1) fun e2 =>
 stC e2 b2 (c2 + 1 + 1) (.bool y1) fun f2 =>
 alW f2 (.cells #[.int .u32 0, .int .u8 0, .int .i8 0, .int .u8 0, .bool false, .slice none 0 0, .int .i32 0] 135) fun g2 i2 =>
 iP z1 0 fun j2 k2 =>
 iP j2 k2 fun l2 m2 => ∃ n2, cell? i2 ⟨l2, m2, none⟩ = some (.pointer n2) ∧
 Ec B 83 #[.pointer (some ⟨g2, 0, none⟩), .pointer n2] (retE (fun o2 p2 => ∃ q2, o2 = .pointer q2 ∧
 iP z1 0 fun r2 s2 =>
 isP (some ⟨r2, s2 + 1, none⟩) fun t2 u2 => ∃ v2, cI p2 t2 u2 .i64 v2 ∧
 Ec B 84 #[.pointer q2, .pointer q2, .int .i64 (if (4194304 : Int) < (if (-4194304 : Int) > v2 then (-4194304 : Int) else v2) then (4194304 : Int) else (if (-4194304 : Int) > v2 then (-4194304 : Int) else v2))] (retE (fun w2 x2 => ∃ y2, w2 = .pointer y2 ∧
 Ec B 85 #[.pointer q2] (retE (fun z2 a3 => ∃ b3 c3, z2 = .tuple #[.float .f64 b3, .int .i8 c3] ∧
 Ec B 68 #[.float .f64 b3] (retE (fun d3 e3 => ∃ f3, d3 = .int .i64 f3 ∧
((!decide (c3 = (0 : Int))) = true →
 iP n1 0 fun g3 i3 =>
 iP g3 i3 fun j3 k3 => ∃ l3, cell? e3 ⟨j3, k3, none⟩ = some l3 ∧
 iP z1 0 fun m3 n3 =>
 iP m3 n3 fun o3 p3 => ∃ q3, cell? e3 ⟨o3, p3, none⟩ = some (.pointer q3) ∧
 Ec B 86 #[.pointer q3] (retE (fun r3 s3 => ∃ t3, r3 = .int .i64 t3 ∧
 sameCells e3 s3 j3 k3 1 ∧ Ev B l3 #[.int .i64 f3, .bool (decide (t3 < (0 : Int))), .bool (decide (c3 = (1 : Int))), .func (.func 87) #[] #[], .func (.func 88) #[] #[]] (retE (fun u3 v3 => ∃ w3, u3 = .int .i64 w3 ∧
 F1057_j8 B R (some ⟨l1, 0, none⟩) (some ⟨z1, 0, none⟩) c3 w3 v3)
(fun _ _ => False)) s3)
(fun _ _ => False)) e3) ∧
((!decide (c3 = (0 : Int))) = false →
 F1057_j9 B R (some ⟨l1, 0, none⟩) c3 f3 e3))
(pk R)) a3)
(pk R)) x2)
(pk R)) p2)
(pk R)) i2)
(pk R)) o1
def F1057_L : Nat → List (Nat × TypeDesc) := fun _ => []
def F1057_J (B : World) (R : Po) : Nat → Option JT := fun i => match i with
  | 8 => some ⟨[(2, .pointer 0), (6, .pointer 0), (9, .int .i8), (10, .int .i64)], fun s v h => match s, v with
    | [], [.pointer q0, .pointer r0, .int _ s0, .int _ t0] => F1057_j8 B R q0 r0 s0 t0 h
    | _, _ => False⟩
  | 9 => some ⟨[(2, .pointer 0), (9, .int .i8), (10, .int .i64)], fun s v h => match s, v with
    | [], [.pointer g0, .int _ i0, .int _ j0] => F1057_j9 B R g0 i0 j0 h
    | _, _ => False⟩
  | _ => none
theorem F1057_ok {B : World} {R : Ending → Heap → Prop} (g1 : OA) (i1 : Int) (j1 : Bool) (k1 : Value) {h : Heap} (H : F1057 B R g1 i1 j1 k1 h) : Ec B 51 #[.agg #[.pointer g1, .int .i64 i1, .bool j1], .agg #[k1]] R h :=
 Ej Tryz.func51 (by kernel_rfl) (by kernel_rfl) (by kernel_rfl) F1057_L (F1057_J B R) [] (by kernel_rfl) (by kernel_rfl) H

/-- plumb/round.find -/
def F1076_j2 (B : World) (R : Po) (a0 : Int) (b0 : OA) (c0 : Bool) (d0 : Heap) : Prop :=
(c0 = true →
 isP b0 fun e0 f0 => stC d0 e0 f0 Value.nilFunc fun g0 =>
 isP b0 fun i0 j0 =>
∃ k0, cell? g0 ⟨i0, j0, none⟩ = some k0 ∧
 R (.returned (.tuple #[.agg #[k0], .bool false])) g0) ∧
(c0 = false →
 Ec B 119 #[] (retE (fun l0 m0 => ∃ n0 o0 p0 q0, l0 = .agg #[n0, o0, p0, q0] ∧
0 ≤ a0 ∧ a0 < (4 : Int) ∧ ∃ r0, (some (.agg (Array.extract #[n0, o0, p0, q0] (Int.toNat a0 * 1) (Int.toNat a0 * 1 + 1))) : Option Value) = some (.agg #[r0]) ∧
 isP b0 fun s0 t0 => stC m0 s0 t0 r0 fun u0 =>
 isP b0 fun v0 w0 =>
∃ x0, cell? u0 ⟨v0, w0, none⟩ = some x0 ∧
 R (.returned (.tuple #[.agg #[x0], .bool true])) u0)
(pk R)) d0)
def F1076 (B : World) (R : Po) (y0 : Int) (h : Heap) : Prop :=
 alW h (.cells #[Value.nilFunc] 119) fun z0 a1 =>
((decide (y0 < (0 : Int))) = true →
 F1076_j2 B R y0 (some ⟨z0, 0, none⟩) true a1) ∧
((decide (y0 < (0 : Int))) = false →
 Ec B 119 #[] (retE (fun b1 c1 => ∃ d1 e1 f1 g1, b1 = .agg #[d1, e1, f1, g1] ∧
 F1076_j2 B R y0 (some ⟨z0, 0, none⟩) (decide ((4 : Int) ≤ y0)) c1)
(pk R)) a1)
def F1076_L : Nat → List (Nat × TypeDesc) := fun _ => []
def F1076_J (B : World) (R : Po) : Nat → Option JT := fun i => match i with
  | 2 => some ⟨[(0, .int .i64), (2, .pointer 0), (11, .bool)], fun s v h => match s, v with
    | [], [.int _ a0, .pointer b0, .bool c0] => F1076_j2 B R a0 b0 c0 h
    | _, _ => False⟩
  | _ => none
theorem F1076_ok {B : World} {R : Ending → Heap → Prop} (y0 : Int) {h : Heap} (H : F1076 B R y0 h) : Ec B 80 #[.int .i64 y0] R h :=
 Ej Tryz.func80 (by kernel_rfl) (by kernel_rfl) (by kernel_rfl) F1076_L (F1076_J B R) [] (by kernel_rfl) (by kernel_rfl) H

/-- plumb/round.open -/
def F1077_j10 (B : World) (R : Po) (a0 b0 c0 : OA) (d0 : Heap) : Prop :=
 isP a0 fun e0 f0 =>
 isP (some ⟨e0, f0 + 2, none⟩) fun g0 i0 => ∃ j0, cI d0 g0 i0 .i64 j0 ∧
 isP b0 fun k0 l0 => stC d0 k0 l0 (.pointer c0) fun m0 =>
 stC m0 k0 (l0 + 1) (.int .i64 j0) fun n0 =>
 stC n0 k0 (l0 + 1 + 1) (.bool false) fun o0 =>
 isP b0 fun p0 q0 =>
∃ r0, cell? o0 ⟨p0, q0, none⟩ = some (.pointer r0) ∧
∃ s0, cell? o0 ⟨p0, q0 + 1, none⟩ = some (.int .i64 s0) ∧
∃ t0, cell? o0 ⟨p0, q0 + 1 + 1, none⟩ = some (.bool t0) ∧
 R (.returned (.agg #[.pointer r0, .int .i64 s0, .bool t0])) o0
def F1077 (B : World) (R : Po) (u0 : Bool) (v0 : OA) (w0 x0 : Nat) (y0 : Int) (h : Heap) : Prop :=
 alW h (.cells #[.bool u0, .slice v0 w0 x0, .int .i64 y0] 24) fun z0 a1 =>
 alW a1 (.cells #[.pointer none, .int .i64 0, .bool false] 83) fun b1 c1 =>
 alW c1 (.cells #[.bool false, .slice none 0 0] 148) fun d1 e1 =>
 iP z0 0 fun f1 g1 =>
 isP (some ⟨f1, g1 + 1, none⟩) fun i1 j1 => ∃ k1 l1 m1, cS e1 i1 j1 k1 l1 m1 ∧
∃ n1 : Lp, ∃ o1, n1 o1 [.pointer (some ⟨z0, 0, none⟩), .pointer (some ⟨b1, 0, none⟩), .pointer (some ⟨d1, 0, none⟩), .int .i64 (l1 : Int), .int .i64 (0 : Int)] e1 ∧
∀ (p1 : Nat) (q1 : Heap) (r1 s1 t1 : OA) (u1 v1 : Int), n1 p1 [.pointer r1, .pointer s1, .pointer t1, .int .i64 u1, .int .i64 v1] q1 → ∀ _r : Nat → Value,
((decide (v1 < u1)) = true →
 Ec B 106 #[.pointer t1, .pointer t1, .int .u64 (30 : Int)] (retE (fun w1 x1 => ∃ y1, w1 = .pointer y1 ∧
 isP r1 fun z1 a2 =>
 isP (some ⟨z1, a2 + 1, none⟩) fun b2 c2 => ∃ d2 e2 f2, cS x1 b2 c2 d2 e2 f2 ∧
 isP r1 fun g2 i2 =>
 isP (some ⟨g2, i2 + 1, none⟩) fun j2 k2 => ∃ l2 m2 n2, cS x1 j2 k2 l2 m2 n2 ∧
 ixW d2 e2 (IntKind.i64.wrap ((IntKind.i64.wrap ((m2 : Int) - (1 : Int))) - v1)) 1 fun o2 p2 =>
 iP o2 p2 fun q2 r2 => ∃ s2, cI x1 q2 r2 .i64 s2 ∧
 Ec B 90 #[.int .i64 s2] (retE (fun t2 u2 => ∃ v2, t2 = .pointer v2 ∧
 Ec B 120 #[.pointer t1, .pointer t1, .pointer v2] (retE (fun w2 x2 => ∃ y2, w2 = .pointer y2 ∧
∃ z2, z2 < p1 ∧ n1 z2 [.pointer r1, .pointer s1, .pointer t1, .int .i64 u1, .int .i64 (IntKind.i64.wrap (v1 + (1 : Int)))] x2)
(pk R)) u2)
(pk R)) x1)
(pk R)) q1) ∧
((decide (v1 < u1)) = false →
 isP r1 fun a3 b3 =>
 iP a3 b3 fun c3 d3 => ∃ e3, cell? q1 ⟨c3, d3, none⟩ = some (.bool e3) ∧
(e3 = true →
 Ec B 55 #[.pointer t1, .pointer t1] (retE (fun f3 g3 => ∃ i3, f3 = .pointer i3 ∧
 F1077_j10 B R r1 s1 t1 g3)
(pk R)) q1) ∧
(e3 = false →
 F1077_j10 B R r1 s1 t1 q1))
def F1077_L : Nat → List (Nat × TypeDesc) := fun i => match i with
  | 3 => [(1, .pointer 0), (2, .pointer 0), (3, .pointer 0), (8, .int .i64), (9, .int .i64)]
  | _ => []
def F1077_J (B : World) (R : Po) : Nat → Option JT := fun i => match i with
  | 10 => some ⟨[(1, .pointer 0), (2, .pointer 0), (3, .pointer 0)], fun s v h => match s, v with
    | [], [.pointer a0, .pointer b0, .pointer c0] => F1077_j10 B R a0 b0 c0 h
    | _, _ => False⟩
  | _ => none
theorem F1077_ok {B : World} {R : Ending → Heap → Prop} (u0 : Bool) (v0 : OA) (w0 x0 : Nat) (y0 : Int) {h : Heap} (H : F1077 B R u0 v0 w0 x0 y0 h) : Ec B 81 #[.agg #[.bool u0, .slice v0 w0 x0, .int .i64 y0]] R h :=
 Ej Tryz.func81 (by kernel_rfl) (by kernel_rfl) (by kernel_rfl) F1077_L (F1077_J B R) [] (by kernel_rfl) (by kernel_rfl) H

/-- (plumb/round.number).stuck -/
def F1078_j6 (B : World) (R : Po) (a0 b0 c0 : OA) (d0 : Heap) : Prop :=
 isP a0 fun e0 f0 =>
 isP (some ⟨e0, f0 + 1, none⟩) fun g0 i0 => ∃ j0, cI d0 g0 i0 .i64 j0 ∧
 isP a0 fun k0 l0 =>
 isP (some ⟨k0, l0 + 2, none⟩) fun m0 n0 => ∃ o0, cell? d0 ⟨m0, n0, none⟩ = some (.bool o0) ∧
 isP b0 fun p0 q0 => stC d0 p0 q0 (.pointer c0) fun r0 =>
 stC r0 p0 (q0 + 1) (.int .i64 (IntKind.i64.wrap (j0 - (1 : Int)))) fun s0 =>
 stC s0 p0 (q0 + 1 + 1) (.bool o0) fun t0 =>
 isP b0 fun u0 v0 =>
∃ w0, cell? t0 ⟨u0, v0, none⟩ = some (.pointer w0) ∧
∃ x0, cell? t0 ⟨u0, v0 + 1, none⟩ = some (.int .i64 x0) ∧
∃ y0, cell? t0 ⟨u0, v0 + 1 + 1, none⟩ = some (.bool y0) ∧
 R (.returned (.agg #[.pointer w0, .int .i64 x0, .bool y0])) t0
def F1078 (B : World) (R : Po) (z0 : OA) (a1 : Int) (b1 : Bool) (h : Heap) : Prop :=
 alW h (.cells #[.pointer z0, .int .i64 a1, .bool b1] 83) fun c1 d1 =>
 alW d1 (.cells #[.pointer none, .int .i64 0, .bool false] 83) fun e1 f1 =>
 alW f1 (.cells #[.bool false, .slice none 0 0] 148) fun g1 i1 =>
 iP c1 0 fun j1 k1 =>
 iP j1 k1 fun l1 m1 => ∃ n1, cell? i1 ⟨l1, m1, none⟩ = some (.pointer n1) ∧
 Ec B 106 #[.pointer (some ⟨g1, 0, none⟩), .pointer n1, .int .u64 (1 : Int)] (retE (fun o1 p1 => ∃ q1, o1 = .pointer q1 ∧
 iP c1 0 fun r1 s1 =>
 isP (some ⟨r1, s1 + 2, none⟩) fun t1 u1 => ∃ v1, cell? p1 ⟨t1, u1, none⟩ = some (.bool v1) ∧
(v1 = true →
 alW p1 (.cells #[.bool false, .slice none 0 0] 148) fun w1 x1 =>
 Ec B 101 #[.pointer (some ⟨w1, 0, none⟩), .pointer q1] (retE (fun y1 z1 => ∃ a2, y1 = .pointer a2 ∧
 Ec B 90 #[.int .i64 (1 : Int)] (retE (fun b2 c2 => ∃ d2, b2 = .pointer d2 ∧
 Ec B 120 #[.pointer q1, .pointer a2, .pointer d2] (retE (fun e2 f2 => ∃ g2, e2 = .pointer g2 ∧
 iP c1 0 fun i2 j2 =>
 iP i2 j2 fun k2 l2 => ∃ m2, cell? f2 ⟨k2, l2, none⟩ = some (.pointer m2) ∧
 Ec B 86 #[.pointer m2] (retE (fun n2 o2 => ∃ p2, n2 = .int .i64 p2 ∧
((decide (p2 < (0 : Int))) = true →
 Ec B 55 #[.pointer q1, .pointer q1] (retE (fun q2 r2 => ∃ s2, q2 = .pointer s2 ∧
 F1078_j6 B R (some ⟨c1, 0, none⟩) (some ⟨e1, 0, none⟩) q1 r2)
(pk R)) o2) ∧
((decide (p2 < (0 : Int))) = false →
 F1078_j6 B R (some ⟨c1, 0, none⟩) (some ⟨e1, 0, none⟩) q1 o2))
(pk R)) f2)
(pk R)) c2)
(pk R)) z1)
(pk R)) x1) ∧
(v1 = false →
 F1078_j6 B R (some ⟨c1, 0, none⟩) (some ⟨e1, 0, none⟩) q1 p1))
(pk R)) i1
def F1078_L : Nat → List (Nat × TypeDesc) := fun _ => []
def F1078_J (B : World) (R : Po) : Nat → Option JT := fun i => match i with
  | 6 => some ⟨[(1, .pointer 0), (2, .pointer 0), (3, .pointer 0)], fun s v h => match s, v with
    | [], [.pointer a0, .pointer b0, .pointer c0] => F1078_j6 B R a0 b0 c0 h
    | _, _ => False⟩
  | _ => none
theorem F1078_ok {B : World} {R : Ending → Heap → Prop} (z0 : OA) (a1 : Int) (b1 : Bool) {h : Heap} (H : F1078 B R z0 a1 b1 h) : Ec B 82 #[.agg #[.pointer z0, .int .i64 a1, .bool b1]] R h :=
 Ej Tryz.func82 (by kernel_rfl) (by kernel_rfl) (by kernel_rfl) F1078_L (F1078_J B R) [] (by kernel_rfl) (by kernel_rfl) H

/-- plumb/round.ways -/
def F1092 (B : World) (R : Po) (h : Heap) : Prop :=
 alW h (.cells #[Value.nilFunc, Value.nilFunc, Value.nilFunc, Value.nilFunc] 163) fun a0 b0 =>
 alW b0 (.cells #[Value.nilFunc] 117) fun c0 d0 =>
 iP c0 0 fun e0 f0 => stC d0 e0 f0 (.func (.func 148) #[] #[]) fun g0 =>
 alW g0 (.cells #[Value.nilFunc] 117) fun i0 j0 =>
 iP i0 0 fun k0 l0 => stC j0 k0 l0 (.func (.func 149) #[] #[]) fun m0 =>
 oneCell (.func (.func 150) #[] #[]) = true ∧
 iP c0 0 fun n0 o0 => ∃ p0, cell? m0 ⟨n0, o0, none⟩ = some p0 ∧
 oneCell p0 = true ∧
 iP i0 0 fun q0 r0 => ∃ s0, cell? m0 ⟨q0, r0, none⟩ = some s0 ∧
 oneCell s0 = true ∧
 oneCell (.func (.func 151) #[] #[.pointer (some ⟨i0, 0, none⟩), .pointer (some ⟨c0, 0, none⟩)]) = true ∧
 iP a0 0 fun t0 u0 => stC m0 t0 u0 (.func (.func 150) #[] #[]) fun v0 =>
 stC v0 t0 (u0 + 1) p0 fun w0 =>
 stC w0 t0 (u0 + 1 + 1) s0 fun x0 =>
 stC x0 t0 (u0 + 1 + 1 + 1) (.func (.func 151) #[] #[.pointer (some ⟨i0, 0, none⟩), .pointer (some ⟨c0, 0, none⟩)]) fun y0 =>
 iP a0 0 fun z0 a1 =>
∃ b1, cell? y0 ⟨z0, a1, none⟩ = some b1 ∧
∃ c1, cell? y0 ⟨z0, a1 + 1, none⟩ = some c1 ∧
∃ d1, cell? y0 ⟨z0, a1 + 1 + 1, none⟩ = some d1 ∧
∃ e1, cell? y0 ⟨z0, a1 + 1 + 1 + 1, none⟩ = some e1 ∧
 R (.returned (.agg #[b1, c1, d1, e1])) y0
def F1092_L : Nat → List (Nat × TypeDesc) := fun _ => []
theorem F1092_ok {B : World} {R : Ending → Heap → Prop} {h : Heap} (H : F1092 B R h) : Ec B 119 #[] R h :=
 Ek Tryz.func119 (by kernel_rfl) (by kernel_rfl) (by kernel_rfl) F1092_L [] (by kernel_rfl) H

/-- plumb/round.ways$1 -/
def F1104 (B : World) (R : Po) (a0 : Int) (b0 c0 : Bool) (d0 e0 : Value) (h : Heap) : Prop :=
(c0 = true →
 Ev B e0 #[.int .i64 a0] (retE (fun f0 g0 => ∃ i0, f0 = .int .i64 i0 ∧
 R (.returned (.int .i64 i0)) g0)
(pk R)) h) ∧
(c0 = false →
 R (.returned (.int .i64 a0)) h)
def F1104_L : Nat → List (Nat × TypeDesc) := fun _ => []
theorem F1104_ok {B : World} {R : Ending → Heap → Prop} (a0 : Int) (b0 c0 : Bool) (d0 e0 : Value) {h : Heap} (H : F1104 B R a0 b0 c0 d0 e0 h) : Ec B 148 #[.int .i64 a0, .bool b0, .bool c0, d0, e0] R h :=
 Ek Tryz.func148 (by kernel_rfl) (by kernel_rfl) (by kernel_rfl) F1104_L [] (by kernel_rfl) H

/-- plumb/round.ways$2 -/
def F1105 (B : World) (R : Po) (a0 : Int) (b0 c0 : Bool) (d0 e0 : Value) (h : Heap) : Prop :=
(c0 = true →
 R (.returned (.int .i64 a0)) h) ∧
(c0 = false →
 Ev B d0 #[.int .i64 a0] (retE (fun f0 g0 => ∃ i0, f0 = .int .i64 i0 ∧
 R (.returned (.int .i64 i0)) g0)
(pk R)) h)
def F1105_L : Nat → List (Nat × TypeDesc) := fun _ => []
theorem F1105_ok {B : World} {R : Ending → Heap → Prop} (a0 : Int) (b0 c0 : Bool) (d0 e0 : Value) {h : Heap} (H : F1105 B R a0 b0 c0 d0 e0 h) : Ec B 149 #[.int .i64 a0, .bool b0, .bool c0, d0, e0] R h :=
 Ek Tryz.func149 (by kernel_rfl) (by kernel_rfl) (by kernel_rfl) F1105_L [] (by kernel_rfl) H

/-- plumb/round.ways$3 -/
def F1106 (B : World) (R : Po) (a0 : Int) (b0 c0 : Bool) (d0 e0 : Value) (h : Heap) : Prop :=
 R (.returned (.int .i64 a0)) h
def F1106_L : Nat → List (Nat × TypeDesc) := fun _ => []
theorem F1106_ok {B : World} {R : Ending → Heap → Prop} (a0 : Int) (b0 c0 : Bool) (d0 e0 : Value) {h : Heap} (H : F1106 B R a0 b0 c0 d0 e0 h) : Ec B 150 #[.int .i64 a0, .bool b0, .bool c0, d0, e0] R h :=
 Ek Tryz.func150 (by kernel_rfl) (by kernel_rfl) (by kernel_rfl) F1106_L [] (by kernel_rfl) H

/-- plumb/round.ways$4 -/
def F1107 (B : World) (R : Po) (a0 : Int) (b0 c0 : Bool) (d0 e0 : Value) (f0 g0 : OA) (h : Heap) : Prop :=
(b0 = true →
 isP f0 fun i0 j0 => ∃ k0, cell? h ⟨i0, j0, none⟩ = some k0 ∧
 Ev B k0 #[.int .i64 a0, .bool b0, .bool c0, d0, e0] (retE (fun l0 m0 => ∃ n0, l0 = .int .i64 n0 ∧
 R (.returned (.int .i64 n0)) m0)
(pk R)) h) ∧
(b0 = false →
 isP g0 fun o0 p0 => ∃ q0, cell? h ⟨o0, p0, none⟩ = some q0 ∧
 Ev B q0 #[.int .i64 a0, .bool b0, .bool c0, d0, e0] (retE (fun r0 s0 => ∃ t0, r0 = .int .i64 t0 ∧
 R (.returned (.int .i64 t0)) s0)
(pk R)) h)
def F1107_L : Nat → List (Nat × TypeDesc) := fun _ => []
theorem F1107_ok {B : World} {R : Ending → Heap → Prop} (a0 : Int) (b0 c0 : Bool) (d0 e0 : Value) (f0 g0 : OA) {h : Heap} (H : F1107 B R a0 b0 c0 d0 e0 f0 g0 h) : Ec B 151 #[.int .i64 a0, .bool b0, .bool c0, d0, e0, .pointer f0, .pointer g0] R h :=
 Ek Tryz.func151 (by kernel_rfl) (by kernel_rfl) (by kernel_rfl) F1107_L [] (by kernel_rfl) H

/-- plumb/round.signed -/
def F1082 (B : World) (R : Po) (a0 : Int) (b0 : Bool) (h : Heap) : Prop :=
 Ec B 23 #[.int .i64 a0] (retE (fun c0 d0 => ∃ e0, c0 = .int .i64 e0 ∧
((!decide (e0 = (0 : Int))) = true →
 R (.returned (.int .i64 a0)) d0) ∧
((!decide (e0 = (0 : Int))) = false →
(b0 = true →
 Ec B 130 #[.int .i64 (0 : Int)] (retE (fun f0 g0 => ∃ i0, f0 = .int .i64 i0 ∧
 R (.returned (.int .i64 i0)) g0)
(pk R)) d0) ∧
(b0 = false →
 R (.returned (.int .i64 (0 : Int))) d0)))
(pk R)) h
def F1082_L : Nat → List (Nat × TypeDesc) := fun _ => []
theorem F1082_ok {B : World} {R : Ending → Heap → Prop} (a0 : Int) (b0 : Bool) {h : Heap} (H : F1082 B R a0 b0 h) : Ec B 89 #[.int .i64 a0, .bool b0] R h :=
 Ek Tryz.func89 (by kernel_rfl) (by kernel_rfl) (by kernel_rfl) F1082_L [] (by kernel_rfl) H

/-- plumb/bits.Prev -/
def F1043 (B : World) (R : Po) (a0 : Int) (h : Heap) : Prop :=
 Ec B 130 #[.int .i64 a0] (retE (fun b0 c0 => ∃ d0, b0 = .int .i64 d0 ∧
 Ec B 87 #[.int .i64 d0] (retE (fun e0 f0 => ∃ g0, e0 = .int .i64 g0 ∧
 Ec B 130 #[.int .i64 g0] (retE (fun i0 j0 => ∃ k0, i0 = .int .i64 k0 ∧
 R (.returned (.int .i64 k0)) j0)
(pk R)) f0)
(pk R)) c0)
(pk R)) h
def F1043_L : Nat → List (Nat × TypeDesc) := fun _ => []
theorem F1043_ok {B : World} {R : Ending → Heap → Prop} (a0 : Int) {h : Heap} (H : F1043 B R a0 h) : Ec B 88 #[.int .i64 a0] R h :=
 Ek Tryz.func88 (by kernel_rfl) (by kernel_rfl) (by kernel_rfl) F1043_L [] (by kernel_rfl) H

/-- plumb/bits.Next -/
def F1044 (B : World) (R : Po) (a0 : Int) (h : Heap) : Prop :=
 Ec B 27 #[.int .i64 a0] (retE (fun b0 c0 => ∃ d0, b0 = .float .f64 d0 ∧
 Ec B 79 #[.int .i64 (1 : Int)] (retE (fun e0 f0 => ∃ g0, e0 = .float .f64 g0 ∧
 Ec B 129 #[.float .f64 d0, .float .f64 g0] (retE (fun i0 j0 => ∃ k0, i0 = .float .f64 k0 ∧
 Ec B 68 #[.float .f64 k0] (retE (fun l0 m0 => ∃ n0, l0 = .int .i64 n0 ∧
 R (.returned (.int .i64 n0)) m0)
(pk R)) j0)
(pk R)) f0)
(pk R)) c0)
(pk R)) h
def F1044_L : Nat → List (Nat × TypeDesc) := fun _ => []
theorem F1044_ok {B : World} {R : Ending → Heap → Prop} (a0 : Int) {h : Heap} (H : F1044 B R a0 h) : Ec B 87 #[.int .i64 a0] R h :=
 Ek Tryz.func87 (by kernel_rfl) (by kernel_rfl) (by kernel_rfl) F1044_L [] (by kernel_rfl) H

/-- math.Nextafter -/
def F1066_j3 (B : World) (R : Po) (a0 b0 : Nat) (c0 : Bool) (d0 : Heap) : Prop :=
(c0 = true →
 Ec B 158 #[] (retE (fun e0 f0 => ∃ g0, e0 = .float .f64 g0 ∧
 R (.returned (.float .f64 g0)) f0)
(pk R)) d0) ∧
(c0 = false →
((FloatKind.f64.format.order a0 b0 == some .eq) = true →
 R (.returned (.float .f64 a0)) d0) ∧
((FloatKind.f64.format.order a0 b0 == some .eq) = false →
((FloatKind.f64.format.order a0 0 == some .eq) = true →
 Ec B 46 #[.int .u64 (1 : Int)] (retE (fun i0 j0 => ∃ k0, i0 = .float .f64 k0 ∧
 Ec B 78 #[.float .f64 k0, .float .f64 b0] (retE (fun l0 m0 => ∃ n0, l0 = .float .f64 n0 ∧
 R (.returned (.float .f64 n0)) m0)
(pk R)) j0)
(pk R)) d0) ∧
((FloatKind.f64.format.order a0 0 == some .eq) = false →
(((FloatKind.f64.format.order b0 a0 == some .gt) == (FloatKind.f64.format.order a0 0 == some .gt)) = true →
 Ec B 47 #[.float .f64 a0] (retE (fun o0 p0 => ∃ q0, o0 = .int .u64 q0 ∧
 Ec B 46 #[.int .u64 (IntKind.u64.wrap (q0 + (1 : Int)))] (retE (fun r0 s0 => ∃ t0, r0 = .float .f64 t0 ∧
 R (.returned (.float .f64 t0)) s0)
(pk R)) p0)
(pk R)) d0) ∧
(((FloatKind.f64.format.order b0 a0 == some .gt) == (FloatKind.f64.format.order a0 0 == some .gt)) = false →
 Ec B 47 #[.float .f64 a0] (retE (fun u0 v0 => ∃ w0, u0 = .int .u64 w0 ∧
 Ec B 46 #[.int .u64 (IntKind.u64.wrap (w0 - (1 : Int)))] (retE (fun x0 y0 => ∃ z0, x0 = .float .f64 z0 ∧
 R (.returned (.float .f64 z0)) y0)
(pk R)) v0)
(pk R)) d0))))
def F1066_j8 (B : World) (R : Po) (a1 b1 : Nat) (c1 : Bool) (d1 : Heap) : Prop :=
 F1066_j3 B R a1 b1 c1 d1
def F1066 (B : World) (R : Po) (e1 f1 : Nat) (h : Heap) : Prop :=
 Ec B 76 #[.float .f64 e1] (retE (fun g1 i1 => ∃ j1, g1 = .bool j1 ∧
(j1 = true →
 F1066_j8 B R e1 f1 true i1) ∧
(j1 = false →
 Ec B 76 #[.float .f64 f1] (retE (fun k1 l1 => ∃ m1, k1 = .bool m1 ∧
 F1066_j8 B R e1 f1 m1 l1)
(pk R)) i1))
(pk R)) h
def F1066_L : Nat → List (Nat × TypeDesc) := fun _ => []
def F1066_J (B : World) (R : Po) : Nat → Option JT := fun i => match i with
  | 3 => some ⟨[(0, .float .f64), (1, .float .f64), (9, .bool)], fun s v h => match s, v with
    | [], [.float _ a0, .float _ b0, .bool c0] => F1066_j3 B R a0 b0 c0 h
    | _, _ => False⟩
  | _ => none
theorem F1066_ok {B : World} {R : Ending → Heap → Prop} (e1 f1 : Nat) {h : Heap} (H : F1066 B R e1 f1 h) : Ec B 129 #[.float .f64 e1, .float .f64 f1] R h :=
 Ej Tryz.func129 (by kernel_rfl) (by kernel_rfl) (by kernel_rfl) F1066_L (F1066_J B R) [] (by kernel_rfl) (by kernel_rfl) H

end Go.Proofs
