import Derived.Test.YtobkdplpkgikhaaGreatFmtA09
import Derived.Test.YtobkdplpkgikhaaGreatFmtA35
import Derived.Test.YtobkdplpkgikhaaGreatFmtA32
import Derived.Test.YtobkdplpkgikhaaGreatFmtA34
/- Here stand lemmas and contracts, in the order in which they are used. -/
set_option linter.unusedVariables false
namespace Go.Proofs
open Go Go.Eng
/-- plumb/plumblaw7.is -/
def F85_j7 (B : World) (R : Po) (a0 : Bool) (b0 : Heap) : Prop :=
 R (.returned (.bool a0)) b0
def F85_j15 (B : World) (R : Po) (c0 : Bool) (d0 : Heap) : Prop :=
 R (.returned (.bool c0)) d0
def F85 (B : World) (R : Po) (e0 f0 : OA) (g0 i0 : Nat) (j0 k0 : Int) (l0 : OA) (m0 n0 : Nat) (o0 : Int) (h : Heap) : Prop :=
((!decide (k0 = (0 : Int))) = true →
((decide (j0 = k0)) = true →
 F85_j7 B R (decide ((g0 : Int) = (0 : Int))) h) ∧
((decide (j0 = k0)) = false →
 F85_j7 B R false h)) ∧
((!decide (k0 = (0 : Int))) = false →
((decide (j0 = o0)) = true →
 Ec B 33 #[.pointer e0, .slice f0 g0 i0, .slice l0 m0 n0] (retE (fun p0 q0 => ∃ r0, p0 = .bool r0 ∧
 F85_j15 B R r0 q0)
(pk R)) h) ∧
((decide (j0 = o0)) = false →
 F85_j15 B R false h))
def F85_L : Nat → List (Nat × TypeDesc) := fun _ => []
theorem F85_ok {B : World} {R : Ending → Heap → Prop} (e0 f0 : OA) (g0 i0 : Nat) (j0 k0 : Int) (l0 : OA) (m0 n0 : Nat) (o0 : Int) {h : Heap} (H : F85 B R e0 f0 g0 i0 j0 k0 l0 m0 n0 o0 h) : Ec B 15 #[.pointer e0, .slice f0 g0 i0, .int .i64 j0, .int .i64 k0, .slice l0 m0 n0, .int .i64 o0] R h :=
 Ek Tryz.func15 (by kernel_rfl) (by kernel_rfl) (by kernel_rfl) F85_L [] (by kernel_rfl) H

/-- plumb/plumblaw2.Lent -/
def F77 (B : World) (R : Po) (a0 : OA) (b0 c0 : Nat) (h : Heap) : Prop :=
 apW h none 0 0 a0 b0 1 8 3 #[.int .i64 0] fun d0 e0 f0 g0 =>
 alW g0 (.cells #[.int .i64 (-71 : Int), .int .i64 (-72 : Int), .int .i64 (-73 : Int)] 3) fun i0 j0 =>
 apW j0 d0 e0 f0 (some ⟨i0, 0, none⟩) 3 1 8 3 #[.int .i64 0] fun k0 l0 m0 n0 =>
 R (.returned (.slice k0 l0 m0)) n0
def F77_L : Nat → List (Nat × TypeDesc) := fun _ => []
theorem F77_ok {B : World} {R : Ending → Heap → Prop} (a0 : OA) (b0 c0 : Nat) {h : Heap} (H : F77 B R a0 b0 c0 h) : Ec B 11 #[.slice a0 b0 c0] R h :=
 Ek Tryz.func11 (by kernel_rfl) (by kernel_rfl) (by kernel_rfl) F77_L [] (by kernel_rfl) H

/-- plumb/plumblaw2.Back -/
def F81_j26 (B : World) (R : Po) (a0 : OA) (b0 c0 : Nat) (d0 : Bool) (e0 : Heap) : Prop :=
 ∃ f0 : Lp, ∃ g0, f0 g0 [.slice a0 b0 c0, .bool d0, .int .i64 (0 : Int)] e0 ∧
∀ (i0 : Nat) (j0 : Heap) (k0 : OA) (l0 m0 : Nat) (n0 : Bool) (o0 : Int), f0 i0 [.slice k0 l0 m0, .bool n0, .int .i64 o0] j0 → ∀ _r : Nat → Value,
((decide (o0 < (l0 : Int))) = true →
 ixW k0 l0 o0 1 fun p0 q0 =>
 iP p0 q0 fun r0 s0 => stC j0 r0 s0 (.int .i64 (-9 : Int)) fun t0 =>
∃ u0, u0 < i0 ∧ f0 u0 [.slice k0 l0 m0, .bool n0, .int .i64 (IntKind.i64.wrap (o0 + (1 : Int)))] t0) ∧
((decide (o0 < (l0 : Int))) = false →
 R (.returned (.bool n0)) j0)
def F81 (B : World) (R : Po) (v0 : OA) (w0 x0 : Nat) (y0 : OA) (z0 a1 : Nat) (h : Heap) : Prop :=
((decide ((w0 : Int) = (IntKind.i64.wrap ((z0 : Int) + (3 : Int))))) = true →
 slW w0 x0 none (some (.int .i64 (z0 : Int))) none fun b1 c1 d1 =>
 Ec B 9 #[.slice (slP v0 b1 d1 1) (c1 - b1) (d1 - b1), .slice y0 z0 a1] (retE (fun e1 f1 => ∃ g1, e1 = .bool g1 ∧
(g1 = true →
 ixW v0 w0 (z0 : Int) 1 fun i1 j1 =>
 iP i1 j1 fun k1 l1 => ∃ m1, cI f1 k1 l1 .i64 m1 ∧
((decide (m1 = (-71 : Int))) = true →
 ixW v0 w0 (IntKind.i64.wrap ((z0 : Int) + (1 : Int))) 1 fun n1 o1 =>
 iP n1 o1 fun p1 q1 => ∃ r1, cI f1 p1 q1 .i64 r1 ∧
((decide (r1 = (-72 : Int))) = true →
 ixW v0 w0 (IntKind.i64.wrap ((z0 : Int) + (2 : Int))) 1 fun s1 t1 =>
 iP s1 t1 fun u1 v1 => ∃ w1, cI f1 u1 v1 .i64 w1 ∧
 F81_j26 B R v0 w0 x0 (decide (w1 = (-73 : Int))) f1) ∧
((decide (r1 = (-72 : Int))) = false →
 F81_j26 B R v0 w0 x0 false f1)) ∧
((decide (m1 = (-71 : Int))) = false →
(false = true →
 ixW v0 w0 (IntKind.i64.wrap ((z0 : Int) + (2 : Int))) 1 fun x1 y1 =>
 iP x1 y1 fun z1 a2 => ∃ b2, cI f1 z1 a2 .i64 b2 ∧
 F81_j26 B R v0 w0 x0 (decide (b2 = (-73 : Int))) f1) ∧
(false = false →
 F81_j26 B R v0 w0 x0 false f1))) ∧
(g1 = false →
(false = true →
 ixW v0 w0 (IntKind.i64.wrap ((z0 : Int) + (1 : Int))) 1 fun c2 d2 =>
 iP c2 d2 fun e2 f2 => ∃ g2, cI f1 e2 f2 .i64 g2 ∧
((decide (g2 = (-72 : Int))) = true →
 ixW v0 w0 (IntKind.i64.wrap ((z0 : Int) + (2 : Int))) 1 fun i2 j2 =>
 iP i2 j2 fun k2 l2 => ∃ m2, cI f1 k2 l2 .i64 m2 ∧
 F81_j26 B R v0 w0 x0 (decide (m2 = (-73 : Int))) f1) ∧
((decide (g2 = (-72 : Int))) = false →
 F81_j26 B R v0 w0 x0 false f1)) ∧
(false = false →
(false = true →
 ixW v0 w0 (IntKind.i64.wrap ((z0 : Int) + (2 : Int))) 1 fun n2 o2 =>
 iP n2 o2 fun p2 q2 => ∃ r2, cI f1 p2 q2 .i64 r2 ∧
 F81_j26 B R v0 w0 x0 (decide (r2 = (-73 : Int))) f1) ∧
(false = false →
 F81_j26 B R v0 w0 x0 false f1))))
(pk R)) h) ∧
((decide ((w0 : Int) = (IntKind.i64.wrap ((z0 : Int) + (3 : Int))))) = false →
(false = true →
 ixW v0 w0 (z0 : Int) 1 fun s2 t2 =>
 iP s2 t2 fun u2 v2 => ∃ w2, cI h u2 v2 .i64 w2 ∧
((decide (w2 = (-71 : Int))) = true →
 ixW v0 w0 (IntKind.i64.wrap ((z0 : Int) + (1 : Int))) 1 fun x2 y2 =>
 iP x2 y2 fun z2 a3 => ∃ b3, cI h z2 a3 .i64 b3 ∧
((decide (b3 = (-72 : Int))) = true →
 ixW v0 w0 (IntKind.i64.wrap ((z0 : Int) + (2 : Int))) 1 fun c3 d3 =>
 iP c3 d3 fun e3 f3 => ∃ g3, cI h e3 f3 .i64 g3 ∧
 F81_j26 B R v0 w0 x0 (decide (g3 = (-73 : Int))) h) ∧
((decide (b3 = (-72 : Int))) = false →
 F81_j26 B R v0 w0 x0 false h)) ∧
((decide (w2 = (-71 : Int))) = false →
(false = true →
 ixW v0 w0 (IntKind.i64.wrap ((z0 : Int) + (2 : Int))) 1 fun i3 j3 =>
 iP i3 j3 fun k3 l3 => ∃ m3, cI h k3 l3 .i64 m3 ∧
 F81_j26 B R v0 w0 x0 (decide (m3 = (-73 : Int))) h) ∧
(false = false →
 F81_j26 B R v0 w0 x0 false h))) ∧
(false = false →
(false = true →
 ixW v0 w0 (IntKind.i64.wrap ((z0 : Int) + (1 : Int))) 1 fun n3 o3 =>
 iP n3 o3 fun p3 q3 => ∃ r3, cI h p3 q3 .i64 r3 ∧
((decide (r3 = (-72 : Int))) = true →
 ixW v0 w0 (IntKind.i64.wrap ((z0 : Int) + (2 : Int))) 1 fun s3 t3 =>
 iP s3 t3 fun u3 v3 => ∃ w3, cI h u3 v3 .i64 w3 ∧
 F81_j26 B R v0 w0 x0 (decide (w3 = (-73 : Int))) h) ∧
((decide (r3 = (-72 : Int))) = false →
 F81_j26 B R v0 w0 x0 false h)) ∧
(false = false →
(false = true →
 ixW v0 w0 (IntKind.i64.wrap ((z0 : Int) + (2 : Int))) 1 fun x3 y3 =>
 iP x3 y3 fun z3 a4 => ∃ b4, cI h z3 a4 .i64 b4 ∧
 F81_j26 B R v0 w0 x0 (decide (b4 = (-73 : Int))) h) ∧
(false = false →
 F81_j26 B R v0 w0 x0 false h))))
def F81_L : Nat → List (Nat × TypeDesc) := fun i => match i with
  | 4 => [(0, .slice 0), (6, .bool), (7, .int .i64)]
  | _ => []
theorem F81_ok {B : World} {R : Ending → Heap → Prop} (v0 : OA) (w0 x0 : Nat) (y0 : OA) (z0 a1 : Nat) {h : Heap} (H : F81 B R v0 w0 x0 y0 z0 a1 h) : Ec B 13 #[.slice v0 w0 x0, .slice y0 z0 a1] R h :=
 Ek Tryz.func13 (by kernel_rfl) (by kernel_rfl) (by kernel_rfl) F81_L [] (by kernel_rfl) H

/-- (*plumb/plumblaw2.Keep).Add -/
def F106_j59 (B : World) (R : Po) (a0 : OA) (b0 c0 : Nat) (d0 : OA) (e0 f0 : Nat) (g0 : Heap) : Prop :=
 Ec B 9 #[.slice a0 b0 c0, .slice d0 e0 f0] (retE (fun i0 j0 => ∃ k0, i0 = .bool k0 ∧
 R (.returned (.bool k0)) j0)
(pk R)) g0
def F106_j55 (B : World) (R : Po) (l0 : OA) (m0 n0 : Nat) (o0 : OA) (p0 q0 : Nat) (r0 : Heap) : Prop :=
 F106_j59 B R l0 m0 n0 o0 p0 q0 r0
def F106 (B : World) (R : Po) (s0 t0 : OA) (u0 v0 : Nat) (w0 : OA) (x0 y0 : Nat) (h : Heap) : Prop :=
 isP s0 fun z0 a1 =>
 iP z0 a1 fun b1 c1 =>
 iP b1 c1 fun d1 e1 => ∃ f1 g1 i1, cS h d1 e1 f1 g1 i1 ∧
((decide ((g1 : Int) < (400 : Int))) = true →
 isP s0 fun j1 k1 =>
 iP j1 k1 fun l1 m1 =>
 iP l1 m1 fun n1 o1 => ∃ p1 q1 r1, cS h n1 o1 p1 q1 r1 ∧
 alW h (.cells #[.slice t0 u0 v0] 22) fun s1 t1 =>
 apW t1 p1 q1 r1 (some ⟨s1, 0, none⟩) 1 1 24 22 #[.slice none 0 0] fun u1 v1 w1 x1 =>
 isP s0 fun y1 z1 =>
 iP y1 z1 fun a2 b2 =>
 iP a2 b2 fun c2 d2 => stC x1 c2 d2 (.slice u1 v1 w1) fun e2 =>
 isP s0 fun f2 g2 =>
 iP f2 g2 fun i2 j2 =>
 isP (some ⟨i2, j2 + 1, none⟩) fun k2 l2 => ∃ m2 n2 o2, cS e2 k2 l2 m2 n2 o2 ∧
 apW e2 none 0 0 w0 x0 1 8 3 #[.int .i64 0] fun p2 q2 r2 s2 =>
 sameCells e2 s2 k2 l2 1 ∧ alW s2 (.cells #[.slice p2 q2 r2] 22) fun t2 u2 =>
 sameCells s2 u2 k2 l2 1 ∧ apW u2 m2 n2 o2 (some ⟨t2, 0, none⟩) 1 1 24 22 #[.slice none 0 0] fun v2 w2 x2 y2 =>
 isP s0 fun z2 a3 =>
 iP z2 a3 fun b3 c3 =>
 isP (some ⟨b3, c3 + 1, none⟩) fun d3 e3 => stC y2 d3 e3 (.slice v2 w2 x2) fun f3 =>
 F106_j55 B R t0 u0 v0 w0 x0 y0 f3) ∧
((decide ((g1 : Int) < (400 : Int))) = false →
 F106_j59 B R t0 u0 v0 w0 x0 y0 h)
def F106_L : Nat → List (Nat × TypeDesc) := fun _ => []
theorem F106_ok {B : World} {R : Ending → Heap → Prop} (s0 t0 : OA) (u0 v0 : Nat) (w0 : OA) (x0 y0 : Nat) {h : Heap} (H : F106 B R s0 t0 u0 v0 w0 x0 y0 h) : Ec B 33 #[.pointer s0, .slice t0 u0 v0, .slice w0 x0 y0] R h :=
 Ek Tryz.func33 (by kernel_rfl) (by kernel_rfl) (by kernel_rfl) F106_L [] (by kernel_rfl) H
end Go.Proofs
namespace Go.Proofs
open Go Go.Eng
variable {B : World} {R : Ending → Heap → Prop} {h : Heap}
/-- plumblaw2.Same. -/
theorem K76 {p q : Option Addr} {n m c d : Nat} {xs ys : List Int} (I : IntsH h p xs) (J : IntsH h q ys) (hn : xs.length = n) (hm : ys.length = m) (hlim : n ≤ 1000000000) (H : R (.returned (.bool (decide (xs = ys)))) h) : Ent Tryz.prog B 9 #[.slice p n c, .slice q m d] R h := by
  refine F76_ok _ _ _ _ _ _ ⟨fun e => ?_, fun e => ?_⟩
  · have hne : n ≠ m := by intro k; subst k; simp at e
    rw [decide_eq_false (show ¬ xs = ys by intro k; subst k; omega)] at H
    exact H
  have hnm : n = m := by
    by_cases k : n = m
    · exact k
    · rw [decide_eq_false (show ¬ ((n : Nat) : Int) = ((m : Nat) : Int) by omega)] at e; cases e
  subst hnm
  refine ⟨fun k vs h' => match vs with
    | [.slice p1 n1 c1, .slice q1 m1 d1, .int _ i] => p = p1 ∧ n = n1 ∧ c = c1 ∧ q = q1 ∧ n = m1 ∧ d = d1 ∧ h = h' ∧ ∃ j : Nat, i = (j : Int) ∧ j ≤ n ∧ k = n - j ∧ xs.take j = ys.take j
    | _ => False, n, ⟨rfl, rfl, rfl, rfl, rfl, rfl, rfl, 0, rfl, by omega, by omega, rfl⟩, ?_⟩
  rintro k h1 _ _ _ _ _ _ _ ⟨rfl, rfl, rfl, rfl, rfl, rfl, rfl, j, rfl, hj, rfl, ht⟩ _
  refine ⟨fun e => ?_, fun e => ?_⟩
  · have hjx : j < xs.length := by have := of_decide_eq_true e; omega
    have hjy : j < ys.length := by omega
    refine I.get hn hjx (J.get hm hjy ?_)
    by_cases hxy : xs[j] = ys[j]
    · rw [decide_eq_true hxy]
      refine ⟨fun e => (by cases e), fun _ => ⟨n - (j + 1), by omega, rfl, rfl, rfl, rfl, rfl, rfl, rfl, j + 1, ?_, by omega, rfl, ?_⟩⟩
      · rw [i64_in (by omega) (by omega)]; rfl
      · rw [List.take_succ_eq_append_getElem hjx, List.take_succ_eq_append_getElem hjy, ht, hxy]
    · rw [decide_eq_false hxy]
      rw [decide_eq_false (show ¬ xs = ys by intro k; subst k; exact hxy rfl)] at H
      exact ⟨fun _ => H, fun e => (by cases e)⟩
  · have hjn : j = n := by have := of_decide_eq_false e; omega
    rw [List.take_of_length_le (by omega), List.take_of_length_le (by omega)] at ht
    rw [decide_eq_true ht] at H
    exact H
end Go.Proofs
namespace Go.Proofs
open Go Go.Eng
variable {B : World} {R : Ending → Heap → Prop} {h : Heap}
theorem odd_short {M y q z : Nat} (hM : M % 2 = 1) (h : M * 2 ^ y = q * 2 ^ z) : M ≤ q := by
  rcases Nat.lt_or_ge y z with hc | hc
  · exfalso
    obtain ⟨d, rfl⟩ : ∃ d, z = y + (d + 1) := ⟨z - y - 1, by omega⟩
    rw [Nat.pow_add, Nat.mul_comm (2 ^ y), ← Nat.mul_assoc] at h
    have := Nat.eq_of_mul_eq_mul_right (Nat.pow_pos (by decide)) h
    rw [this, Nat.pow_succ, ← Nat.mul_assoc, Nat.mul_mod_left] at hM
    cases hM
  · obtain ⟨d, rfl⟩ : ∃ d, y = z + d := ⟨y - z, by omega⟩
    rw [Nat.pow_add, Nat.mul_comm (2 ^ z), ← Nat.mul_assoc] at h
    have := Nat.eq_of_mul_eq_mul_right (Nat.pow_pos (by decide)) h
    rw [← this]
    exact Nat.le_mul_of_pos_right _ (Nat.pow_pos (by decide))
/-- A number whose odd part is small has at most one digit. -/
theorem NumS.short {K : Nat} {neg : Bool} {p : Option Addr} {n : Nat} {e v : Int} (N : NumS K h neg p n e v) {s q z : Nat} (hv : v.natAbs * 2 ^ s = q * 2 ^ z) (hq : q ≤ 67108864) :
    n = 0 ∨ n = 1 ∧ ∃ b o, p = some ⟨b, o, none⟩ ∧ ∃ m : Nat, m < 67108864 ∧ cell? h ⟨b, o, none⟩ = some (.int .i64 (m : Int)) := by
  obtain ⟨M, NI, he, rfl⟩ := N
  have hB : B30 = 1073741824 := rfl
  have hlen := NI.d.len
  by_cases h0 : M = 0
  · subst h0
    rw [digs_zero] at hlen
    exact .inl hlen.symm
  have hpos : 0 < n := by rw [← hlen, digs_ne (by decide) h0]; simp
  have hodd := (NI.pos hpos).1
  rw [digs_val (by decide)] at hodd
  rw [signed_abs, Nat.mul_assoc, ← Nat.pow_add] at hv
  have hM := odd_short hodd hv
  have hM2 : M < 67108864 := by omega
  have hd : digs B30 M = [M] := by
    rw [digs_ne (by decide) h0, hB, Nat.mod_eq_of_lt (by omega), Nat.div_eq_of_lt (by omega), digs_zero]
  refine .inr ⟨by rw [← hlen, hd]; rfl, ?_⟩
  have hs := NI.d.sl
  rw [hd] at hs
  rcases hs with hs | ⟨b, o, cs, h1, h2, h3⟩
  · cases hs
  · exact ⟨b, o, h1, M, hM2, by rw [h2.cell]; have := h3 0 (by simp); rw [Nat.add_zero] at this; exact this⟩
end Go.Proofs
set_option linter.unusedVariables false
namespace Go.Proofs
open Go Go.Eng
theorem cls_zero {b : Int} (fb : isFin b = true) : cls b = 0 ↔ fV b = 0 := by
  rw [fV_zero]
  unfold isFin at fb
  have := of_decide_eq_true fb
  unfold cls fM
  by_cases h0 : fE b = 0
  · rw [h0, if_neg (by omega), if_neg (by omega), if_neg (by omega), if_pos rfl]
    by_cases h1 : fT b = 0
    · rw [h1]; simp
    · rw [if_pos (by omega)]; omega
  · rw [if_neg (by omega), if_neg (by omega), if_pos (by omega), if_neg h0]; omega
end Go.Proofs
namespace Go.Proofs
open Go Go.Eng
variable {B : World} {R : Ending → Heap → Prop} {h : Heap}
theorem al1 : growAns [4607182418800017408] 4336966441157787648 = ([4336966441157787648, 4607182418800017408], 0) := by decide +kernel
theorem al2 : scaleAns [4336966441157787648, 4607182418800017408] 4611686018427387904 = ([4341470040785158144, 4611686018427387904], 0) := by decide +kernel
theorem al3 : validP [4336966441157787648, 4607182418800017408] = true := by decide +kernel
theorem ints1 {r : Nat} {a : Int} (O : Own h r #[.int .i64 a]) (ha : I64 a) : IntsH h (some ⟨r, 0, none⟩) [a] := by
  refine ⟨fun x hx => by rw [List.mem_singleton.1 hx]; exact ha, .inr ⟨r, 0, rfl, O.lt, fun i hi => ?_⟩⟩
  rw [O.cell]
  match i, hi with
  | 0, _ => rfl
theorem ints2 {r : Nat} {a b : Int} (O : Own h r #[.int .i64 a, .int .i64 b]) (ha : I64 a) (hb : I64 b) : IntsH h (some ⟨r, 0, none⟩) [a, b] := by
  refine ⟨fun x hx => ?_, .inr ⟨r, 0, rfl, O.lt, fun i hi => ?_⟩⟩
  · rcases List.mem_cons.1 hx with e | hx
    · rw [e]; exact ha
    · rw [List.mem_singleton.1 hx]; exact hb
  · rw [O.cell]
    match i, hi with
    | 0, _ => rfl
    | 1, _ => rfl
/-- plumblaw7.alive. -/
theorem K29 (ht : TabH h) (H : ∀ h', Ext h h' → R (.returned (.bool true)) h') : Ent Tryz.prog B 4 #[] R h := by
  have i1 : I64 4607182418800017408 := ⟨by decide, by decide⟩
  have i2 : I64 4336966441157787648 := ⟨by decide, by decide⟩
  have i3 : I64 4611686018427387904 := ⟨by decide, by decide⟩
  refine F29_ok ?_
  unfold F29
  refine alK fun r1 h2 e2 f2 o2 z2 => K34 (ht.ext f2) (ints1 o2 i1) rfl i2 fun q m c h4 f4 L4 => ⟨_, _, _, _, rfl, alK fun r9 h10 e10 f10 o10 z10 => ?_⟩
  rw [al1] at L4 ⊢
  have F10 := Ext.trans f2 (Ext.trans f4 f10)
  refine K35 (ht.ext F10) (ints2 o10 i2 i1) rfl (by decide) i3 fun q2 m2 c2 h12 f12 L12 => ⟨_, _, _, _, rfl, ?_⟩
  rw [al2] at L12 ⊢
  have F12 := Ext.trans F10 f12
  refine ⟨fun _ => alK fun r17 h18 e18 f18 o18 z18 => ?_, fun e => absurd e (by decide)⟩
  have J := ((L4.ext f10).ext f12).ext f18
  refine K76 J.ints (ints2 o18 i2 i1) J.len rfl (by have := J.len; simp at this; omega) ⟨_, rfl, fun _ => ⟨fun _ => ⟨fun _ => ?_, fun e => ?_⟩, fun e => absurd e (by decide)⟩, fun e => absurd e (by decide)⟩
  · refine K37 J.ints J.len ⟨_, rfl, ?_⟩
    rw [al3]
    exact H h18 (Ext.trans F12 f18)
  · have := L12.len
    simp at this
    exact absurd e (by rw [decide_eq_true (by omega)]; decide)
end Go.Proofs
namespace Go.Eng
open Go
theorem setRow_own {b : Nat} : ∀ (xs : List Value) (h : Heap) (o : Nat) (cs : Array Value), Own h b cs → o + xs.length ≤ cs.size →
    ∃ cs', Own (setRow h b o xs) b cs' ∧ cs'.size = cs.size ∧ (∀ i (hi : i < xs.length), cs'[o + i]? = some xs[i]) ∧ (∀ i, i < o → cs'[i]? = cs[i]?) ∧ Fr (fun x => x = b) h (setRow h b o xs)
  | [], h, o, cs, O, _ => ⟨cs, O, rfl, fun i hi => absurd hi (by simp), fun _ _ => rfl, Fr.rfl'⟩
  | x :: xs, h, o, cs, O, hl => by
    rw [List.length_cons] at hl
    obtain ⟨cs', O', s', g1, g2, f⟩ := setRow_own xs (setCell h ⟨b, o, none⟩ x) (o + 1) _ (own_set (v := x) (o := o) O) (by rw [Array.size_setIfInBounds]; omega)
    refine ⟨cs', O', by rw [s', Array.size_setIfInBounds], fun i hi => ?_, fun i hi => ?_, Fr.trans fr_setCell f fun x _ e => e⟩
    · match i, hi with
      | 0, _ => rw [Nat.add_zero, g2 o (by omega), Array.getElem?_setIfInBounds_self_of_lt (by omega)]; rfl
      | i + 1, hi =>
        have := g1 i (by rw [List.length_cons] at hi; omega)
        rw [show o + (i + 1) = o + 1 + i by omega, this]; rfl
    · rw [g2 i (by omega), Array.getElem?_setIfInBounds_ne (by omega)]
theorem ints_row {h : Heap} {xp : Option Addr} {m : Nat} {ys : List Int} (J : Go.Proofs.IntsH h xp ys) (hm : ys.length = m) (hpt : Pt xp) : rowAt h xp (m * 1) (ys.map fun y => Value.int .i64 y) := by
  rcases J.2 with e | ⟨r, q, e, hr, g⟩
  · subst e
    rcases hpt with e | ⟨b, o, e⟩
    · subst e; rfl
    · subst e; exact ⟨by simp [← hm], b, o, rfl, fun i hi => absurd hi (by simp)⟩
  · subst e
    refine ⟨by simp [hm], r, q, rfl, fun i hi => ?_⟩
    rw [List.length_map] at hi
    rw [g i hi, List.getElem_map]
/-- A list appended to a list that is being made. -/
theorem apJN {h0 h : Heap} {T : Nat → Prop} {p xp : Option Addr} {n c m e : Nat} {ws ys : List Int} {K : Option Addr → Nat → Nat → Heap → Prop} (L : Lj h0 h p n c ws) (F : Fr T h0 h) (hn : n + m ≤ 1099511627776) (J : Go.Proofs.IntsH h xp ys) (hm : ys.length = m) (hpt : Pt xp)
    (hk : ∀ q c' h', Lj h0 h' q (n + m) c' (ws ++ ys) → Fr T h0 h' → Fr (fun x => h0.size ≤ x) h h' → K q (n + m) c' h') : apW h p n c xp m 1 8 e #[.int .i64 0] K := by
  have hrow := ints_row J hm hpt
  have hs := F.size
  have hall : ∀ y ∈ ws ++ ys, I64 y := fun y hy => by
    rcases List.mem_append.1 hy with hy | hy
    · exact L.all y hy
    · exact J.1 y hy
  have hlen := L.len
  refine ⟨fun hle => ⟨_, hrow, ?_⟩, fun hlt => ⟨by decide, by omega, by have := nsc_le hlt; omega, ws.map (fun w => Value.int .i64 w), _, ?_, hrow, fun cap h1 h2 => ?_⟩⟩
  · rcases L.room with hr | ⟨b, o, cs, e1, e2, e3, e4⟩
    · have hm0 : m = 0 := by omega
      have hy : ys = [] := List.eq_nil_of_length_eq_zero (by omega)
      subst hy
      have hK : K p (n + m) c h := hk p c h (by rw [List.append_nil, hm0]; exact L) F Fr.rfl'
      rcases L.pt with e | ⟨b, o, e⟩
      · subst e; exact hK
      · subst e; exact ⟨b, o, rfl, ⟨fun x hx => (by cases hx), fun i hi => absurd hi (by simp), hK⟩⟩
    · subst e1
      obtain ⟨cs', O', s', g1, g2, f⟩ := setRow_own (ys.map fun y => Value.int .i64 y) h (o + n * 1) cs e2 (by rw [List.length_map]; omega)
      refine ⟨b, o, rfl, fun y hy => ?_, fun i hi => ?_, ?_⟩
      · obtain ⟨z, _, rfl⟩ := List.mem_map.1 hy; rfl
      · rw [List.length_map] at hi
        exact ⟨⟨_, by rw [e2.cell, Array.getElem?_eq_getElem (by omega)]⟩, e2.frozen _⟩
      · refine hk _ _ _ ⟨.inr ⟨b, o, cs', rfl, O', fun i hi => ?_⟩, by simp [hlen, hm], .inr ⟨b, o, cs', rfl, O', by omega, e4⟩, hle, .inr ⟨b, o, rfl⟩, fun b' o' e' => by cases e'; exact e4, hall⟩ (Fr.trans F f fun x hx e => by omega) (Fr.mono f fun x _ e => by rw [e]; exact e4)
        rw [List.length_append] at hi
        by_cases hil : i < ws.length
        · rw [List.getElem_append_left hil, g2 _ (by omega)]
          rcases L.sl with k | ⟨b', o', cs2, f1, f2, f3⟩
          · subst k; exact absurd hil (by simp)
          · cases f1; rw [e2.inj f2]; exact f3 i hil
        · have hi2 : i - ws.length < (ys.map fun y => Value.int .i64 y).length := by rw [List.length_map]; omega
          have := g1 (i - ws.length) hi2
          rw [show o + n * 1 + (i - ws.length) = o + i by omega, List.getElem_map] at this
          rw [this, List.getElem_append_right (by omega)]
  · exact ints_row ⟨L.all, by
      rcases L.sl with k | ⟨b', o', cs2, f1, f2, f3⟩
      · exact .inl k
      · exact .inr ⟨b', o', f1, f2.lt, fun i hi => by rw [f2.cell]; exact f3 i hi⟩⟩ hlen L.pt
  · have H' : Own (h.push (.cells (ws.map (fun w => Value.int .i64 w) ++ ys.map (fun y => Value.int .i64 y) ++ zerosL #[.int .i64 0] (cap - (n + m))).toArray e)) h.size _ := own_new
    refine hk _ _ _ ⟨.inr ⟨_, 0, _, rfl, H', fun i hi => ?_⟩, by simp [hlen, hm], .inr ⟨_, 0, _, rfl, H', ?_, by omega⟩, h1, .inr ⟨_, _, rfl⟩, fun b' o' e' => by cases e'; omega, hall⟩ (Fr.trans F Ext.push fun x hx e => e.elim) Ext.push.to
    · rw [List.length_append] at hi
      rw [Nat.zero_add, List.getElem?_toArray, ← List.map_append, List.getElem?_append_left (by rw [List.length_map, List.length_append]; omega), List.getElem?_map, List.getElem?_eq_getElem (by rw [List.length_append]; omega)]
      rfl
    · simp [zerosL, hlen, hm]; omega
end Go.Eng
namespace Go.Proofs
open Go Go.Eng
variable {B : World} {R : Ending → Heap → Prop} {h : Heap}
/-- plumblaw2.Lent. -/
theorem K77 {p : Option Addr} {n c : Nat} {xs : List Int} (I : IntsH h p xs) (hn : xs.length = n) (hpt : Pt p) (hlim : n ≤ 1000000000)
    (H : ∀ q m c' h', Ext h h' → Lj h h' q m c' (xs ++ [-71, -72, -73]) → R (.returned (.slice q m c')) h') : Ent Tryz.prog B 11 #[.slice p n c] R h := by
  refine F77_ok _ _ _ ?_
  refine apJN (h0 := h) (T := fun _ => False) Lj.nil Fr.rfl' (by omega) I hn hpt fun q c1 h2 L2 F2 _ => alK fun r6 h7 e7 f7 o7 z7 => ?_
  have J3 : IntsH h7 (some ⟨r6, 0, none⟩) [-71, -72, -73] := by
    refine ⟨fun x hx => ?_, .inr ⟨r6, 0, rfl, o7.lt, fun i hi => ?_⟩⟩
    · simp only [List.mem_cons, List.not_mem_nil, or_false] at hx
      rcases hx with e | e | e <;> subst e <;> exact ⟨by decide, by decide⟩
    · rw [o7.cell]
      match i, hi with
      | 0, _ => rfl
      | 1, _ => rfl
      | 2, _ => rfl
  refine apJN (h0 := h) (T := fun _ => False) (L2.ext f7) (Ext.trans F2 f7) (by omega) J3 rfl (.inr ⟨_, _, rfl⟩) fun q2 c2 h8 L8 F8 _ => ?_
  exact H q2 _ c2 h8 F8 L8
end Go.Proofs
