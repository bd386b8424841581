import Derived.Test.YtobkdplpkgikhaaGreatFmtA28
import Derived.Test.YtobkdplpkgikhaaGreatFmtA09
import Derived.Test.YtobkdplpkgikhaaGreatFmtA25
/- Here stand lemmas and contracts, in the order in which they are used. -/
set_option linter.unusedVariables false
namespace Go.Proofs
open Go Go.Eng
variable {B : World} {R : Ending → Heap → Prop} {h : Heap}
/-- plumbref4.K64. -/
abbrev K64V : Value := .agg #[.int .i64 (53 : Int), .int .i64 (-1074 : Int), .int .i64 (1024 : Int), .int .i64 (9218868437227405312 : Int), .int .i64 (-9223372036854775808 : Int)]
theorem K186 (H : ∀ h', Ext h h' → R (.returned K64V) h') : Ent Tryz.prog B 58 #[] R h := by
  refine F186_ok (alK fun r h2 e f o z => ⟨r, 0, rfl, o.stC (by simp) rfl fun oa fa => oa.stC (by simp) rfl fun ob fb => ob.stC (by simp) rfl fun oc fc => oc.stC (by simp) rfl fun od fd => od.stC (by simp) rfl fun oe fe => ⟨r, 0, rfl, _, oe.cell _, _, oe.cell _, _, oe.cell _, _, oe.cell _, _, oe.cell _, ?_⟩⟩)
  have f1 := Fr.trans (S := fun x => x = r) (Fr.trans (S := fun x => x = r) fa fb fun _ _ e => e) fc fun _ _ e => e
  have f2 := Fr.trans (S := fun x => x = r) (Fr.trans (S := fun x => x = r) f1 fd fun _ _ e => e) fe fun _ _ e => e
  exact H _ (Fr.trans f f2 fun x hx e => by omega)
theorem K255 {m : Nat} (hm : m < 9223372036854775808) (H : R (.returned (.int .i64 (bl m : Int))) h) : Ent Tryz.prog B 144 #[.int .i64 (m : Int)] R h := by
  have hbm : bl m ≤ 63 := bl_le_iff.2 hm
  refine F255_ok _ ⟨fun w vs h' => match vs with
    | [.int _ x, .int _ k] => x = (w : Int) ∧ w ≤ m ∧ k + (bl w : Int) = (bl m : Int) ∧ h' = h
    | _ => False, m, ⟨rfl, Nat.le_refl _, by simp, rfl⟩, ?_⟩
  rintro w h' _ k ⟨rfl, hw, hk, rfl⟩ _
  refine ⟨fun e => ⟨by decide, ?_⟩, fun e => ?_⟩
  · have hw0 : w ≠ 0 := by have := of_decide_eq_true e; omega
    have hh := bl_half hw0
    have hb := bl_mono hw
    refine ⟨w / 2, by omega, by rw [td2, i64_nat (by omega)], by omega, ?_, rfl⟩
    rw [i64_in (by omega) (by omega)]; omega
  · have hw0 : w = 0 := by have := of_decide_eq_false e; omega
    subst hw0
    have h0 : bl 0 = 0 := rfl
    rw [show k = (bl m : Int) by omega]; exact H
theorem odd_le {m : Nat} (hm : m ≤ 9007199254740992) : ∀ s o, m = 2 ^ s * o → o % 2 = 1 → o < 9007199254740992 := by
  intro s o h ho
  have h1 : o ≤ m := by rw [h]; exact Nat.le_mul_of_pos_left _ (Nat.pow_pos (by decide))
  omega
theorem K256 {m : Nat} {e : Int} (hm : m ≤ 9007199254740992) (he : -1074 ≤ e) (hn : e = -1074 ∨ 4503599627370496 ≤ m) (hr : (e + 1074).toNat * 4503599627370496 + m < INF)
    (H : ∀ h', Ext h h' → R (.returned (.int .i64 (((e + 1074).toNat * 4503599627370496 + m : Nat) : Int))) h') : Ent Tryz.prog B 145 #[K64V, .int .i64 (m : Int), .int .i64 e] R h := by
  have hINF : INF = 9218868437227405312 := rfl
  refine F256_ok _ _ _ _ _ _ _ (alK fun r h2 e2 f o z => ⟨r, 0, rfl, r, 0, rfl, _, o.cell _, fun _ => ?_, fun e => by cases e⟩)
  have hrn : m ≠ 0 → rung m e = (e + 1074).toNat * 4503599627370496 + m := fun h0 => by
    have := rung_norm h0 hm he hn
    omega
  refine K115 (by omega) he (by rcases hn with h | h <;> omega) (odd_le hm) ?_ ⟨_, _, rfl, ?_⟩
  · by_cases h0 : m = 0
    · exact .inl h0
    · exact .inr (by rw [hrn h0]; exact hr)
  · have H' := H _ f
    by_cases h0 : m = 0
    · rw [if_pos h0]
      have : e = -1074 := by rcases hn with h | h <;> omega
      subst this h0
      exact H'
    · rw [if_neg h0, hrn h0]; exact H'
end Go.Proofs
namespace Go.Proofs
open Go Go.Eng
/-- (plumb/plumbref4.Kind).Cut -/
def F237_j32 (B : World) (R : Po) (a0 : OA) (b0 : Int) (c0 : Bool) (d0 : Heap) : Prop :=
(c0 = true →
 isP a0 fun e0 f0 =>
 isP (some ⟨e0, f0 + 3, none⟩) fun g0 i0 => ∃ j0, cI d0 g0 i0 .i64 j0 ∧
 R (.returned (.tuple #[.int .i64 (IntKind.i64.wrap (b0 + j0)), .bool true])) d0) ∧
(c0 = false →
 isP a0 fun k0 l0 =>
 isP (some ⟨k0, l0 + 3, none⟩) fun m0 n0 => ∃ o0, cI d0 m0 n0 .i64 o0 ∧
 R (.returned (.tuple #[.int .i64 (IntKind.i64.wrap ((IntKind.i64.wrap (b0 + o0)) - (1 : Int))), .bool true])) d0)
def F237_j205 (B : World) (R : Po) (p0 : Bool) (q0 : Int) (r0 : OA) (s0 : Int) (t0 : Bool) (u0 : Heap) : Prop :=
(t0 = true →
 F237_j32 B R r0 s0 true u0) ∧
(t0 = false →
((decide (q0 = (1 : Int))) = true →
 F237_j32 B R r0 s0 p0 u0) ∧
((decide (q0 = (1 : Int))) = false →
 F237_j32 B R r0 s0 false u0))
def F237_j31 (B : World) (R : Po) (v0 : Bool) (w0 : Int) (x0 : OA) (y0 z0 : Int) (a1 : Bool) (b1 : Int) (c1 : Bool) (d1 : Heap) : Prop :=
(c1 = true →
((decide (w0 = (0 : Int))) = true →
 F237_j205 B R v0 w0 x0 y0 true d1) ∧
((decide (w0 = (0 : Int))) = false →
((decide (w0 = (2 : Int))) = true →
 F237_j205 B R v0 w0 x0 y0 (!v0) d1) ∧
((decide (w0 = (2 : Int))) = false →
 F237_j205 B R v0 w0 x0 y0 false d1))) ∧
(c1 = false →
 isP x0 fun e1 f1 =>
∃ g1, cI d1 e1 f1 .i64 g1 ∧
∃ i1, cell? d1 ⟨e1, f1 + 1, none⟩ = some (.int .i64 i1) ∧
∃ j1, cell? d1 ⟨e1, f1 + 1 + 1, none⟩ = some (.int .i64 j1) ∧
∃ k1, cell? d1 ⟨e1, f1 + 1 + 1 + 1, none⟩ = some (.int .i64 k1) ∧
∃ l1, cell? d1 ⟨e1, f1 + 1 + 1 + 1 + 1, none⟩ = some (.int .i64 l1) ∧
 Ec B 145 #[.agg #[.int .i64 g1, .int .i64 i1, .int .i64 j1, .int .i64 k1, .int .i64 l1], .int .i64 z0, .int .i64 b1] (retE (fun m1 n1 => ∃ o1, m1 = .int .i64 o1 ∧
 R (.returned (.tuple #[.int .i64 (IntKind.i64.wrap (y0 + o1)), .bool a1])) n1)
(pk R)) d1)
def F237_j176 (B : World) (R : Po) (p1 : Bool) (q1 : Int) (r1 : OA) (s1 t1 : Int) (u1 : Bool) (v1 : Int) (w1 : Bool) (x1 : Heap) : Prop :=
(w1 = true →
 isP r1 fun y1 z1 =>
 isP (some ⟨y1, z1 + 2, none⟩) fun a2 b2 => ∃ c2, cI x1 a2 b2 .i64 c2 ∧
 Ec B 144 #[.int .i64 t1] (retE (fun d2 e2 => ∃ f2, d2 = .int .i64 f2 ∧
 sameCells x1 e2 a2 b2 1 ∧ F237_j31 B R p1 q1 r1 s1 t1 u1 v1 (decide (c2 < (IntKind.i64.wrap (f2 + v1)))) e2)
(fun _ _ => False)) x1) ∧
(w1 = false →
 F237_j31 B R p1 q1 r1 s1 t1 u1 v1 false x1)
def F237_j29 (B : World) (R : Po) (g2 : Bool) (i2 j2 : Int) (k2 : OA) (l2 m2 n2 : Int) (o2 : Bool) (p2 : Heap) : Prop :=
((decide ((0 : Int) < n2)) = true →
 isP k2 fun q2 r2 =>
 iP q2 r2 fun s2 t2 => ∃ u2, cI p2 s2 t2 .i64 u2 ∧
0 ≤ (IntKind.i64.wrap (u2 - (1 : Int))) ∧
 F237_j176 B R g2 j2 k2 l2 n2 o2 (IntKind.i64.wrap (m2 + i2)) (decide ((IntKind.i64.wrap ((1 : Int) * 2 ^ min (Int.toNat (IntKind.i64.wrap (u2 - (1 : Int)))) IntKind.i64.bits)) ≤ n2)) p2) ∧
((decide ((0 : Int) < n2)) = false →
 F237_j176 B R g2 j2 k2 l2 n2 o2 (IntKind.i64.wrap (m2 + i2)) false p2)
def F237_j27 (B : World) (R : Po) (v2 : Bool) (w2 x2 : Int) (y2 : OA) (z2 a3 b3 : Int) (c3 d3 : Bool) (e3 : Heap) : Prop :=
(d3 = true →
 F237_j29 B R v2 w2 x2 y2 z2 a3 (IntKind.i64.wrap (b3 + (1 : Int))) c3 e3) ∧
(d3 = false →
 F237_j29 B R v2 w2 x2 y2 z2 a3 b3 c3 e3)
def F237_j141 (B : World) (R : Po) (f3 : Bool) (g3 i3 : Int) (j3 : OA) (k3 l3 m3 : Int) (n3 o3 : Bool) (p3 : Heap) : Prop :=
 F237_j27 B R f3 g3 i3 j3 k3 l3 m3 n3 o3 p3
def F237_j238 (B : World) (R : Po) (q3 : Bool) (r3 s3 : Int) (t3 : OA) (u3 v3 w3 : Int) (x3 y3 : Bool) (z3 : Heap) : Prop :=
 F237_j27 B R q3 r3 s3 t3 u3 v3 w3 x3 y3 z3
def F237_j249 (B : World) (R : Po) (a4 : Bool) (b4 c4 : Int) (d4 : OA) (e4 f4 g4 : Int) (i4 j4 : Bool) (k4 : Heap) : Prop :=
 F237_j27 B R a4 b4 c4 d4 e4 f4 g4 i4 j4 k4
def F237_j19 (B : World) (R : Po) (l4 : Bool) (m4 n4 : Int) (o4 : OA) (p4 q4 : Int) (r4 s4 : Bool) (t4 : Int) (u4 : Bool) (v4 : Heap) : Prop :=
((decide (n4 = (0 : Int))) = true →
(r4 = true →
(s4 = true →
 F237_j141 B R l4 m4 n4 o4 p4 q4 t4 u4 true v4) ∧
(s4 = false →
(2 : Int) ≠ 0 ∧
 F237_j141 B R l4 m4 n4 o4 p4 q4 t4 u4 (decide ((Int.tmod t4 (2 : Int)) = (1 : Int))) v4)) ∧
(r4 = false →
 F237_j141 B R l4 m4 n4 o4 p4 q4 t4 u4 false v4)) ∧
((decide (n4 = (0 : Int))) = false →
((decide (n4 = (1 : Int))) = true →
(l4 = true →
 F237_j238 B R l4 m4 n4 o4 p4 q4 t4 u4 u4 v4) ∧
(l4 = false →
 F237_j238 B R l4 m4 n4 o4 p4 q4 t4 u4 false v4)) ∧
((decide (n4 = (1 : Int))) = false →
((decide (n4 = (2 : Int))) = true →
((!l4) = true →
 F237_j249 B R l4 m4 n4 o4 p4 q4 t4 u4 u4 v4) ∧
((!l4) = false →
 F237_j249 B R l4 m4 n4 o4 p4 q4 t4 u4 false v4)) ∧
((decide (n4 = (2 : Int))) = false →
 F237_j27 B R l4 m4 n4 o4 p4 q4 t4 u4 false v4)))
def F237_j118 (B : World) (R : Po) (w4 : Bool) (x4 y4 : Int) (z4 : OA) (a5 b5 : Int) (c5 d5 : Bool) (e5 : Int) (f5 : Bool) (g5 : Heap) : Prop :=
 F237_j19 B R w4 x4 y4 z4 a5 b5 c5 d5 e5 f5 g5
def F237_j13 (B : World) (R : Po) (i5 : Bool) (j5 k5 : Int) (l5 : OA) (m5 n5 : Int) (o5 : OA) (p5 q5 : Nat) (r5 s5 : Bool) (t5 : Heap) : Prop :=
 ∃ u5 : Lp, ∃ v5, u5 v5 [.bool i5, .int .i64 j5, .int .i64 k5, .pointer l5, .int .i64 m5, .int .i64 n5, .slice o5 p5 q5, .bool r5, .bool s5, .int .i64 (0 : Int), .int .i64 (IntKind.i64.wrap ((p5 : Int) - (1 : Int)))] t5 ∧
∀ (w5 : Nat) (x5 : Heap) (y5 : Bool) (z5 a6 : Int) (b6 : OA) (c6 d6 : Int) (e6 : OA) (f6 g6 : Nat) (i6 j6 : Bool) (k6 l6 : Int), u5 w5 [.bool y5, .int .i64 z5, .int .i64 a6, .pointer b6, .int .i64 c6, .int .i64 d6, .slice e6 f6 g6, .bool i6, .bool j6, .int .i64 k6, .int .i64 l6] x5 → ∀ _r : Nat → Value,
((decide ((0 : Int) ≤ l6)) = true →
 0 ≤ (30 : Int) ∧
 ixW e6 f6 l6 1 fun m6 n6 =>
 iP m6 n6 fun o6 p6 => ∃ q6, cI x5 o6 p6 .i64 q6 ∧
∃ r6, r6 < w5 ∧ u5 r6 [.bool y5, .int .i64 z5, .int .i64 a6, .pointer b6, .int .i64 c6, .int .i64 d6, .slice e6 f6 g6, .bool i6, .bool j6, .int .i64 (IntKind.i64.wrap ((IntKind.i64.wrap (k6 * 2 ^ min (Int.toNat (30 : Int)) IntKind.i64.bits)) + q6)), .int .i64 (IntKind.i64.wrap (l6 - (1 : Int)))] x5) ∧
((decide ((0 : Int) ≤ l6)) = false →
(i6 = true →
 F237_j118 B R y5 z5 a6 b6 c6 d6 i6 j6 k6 true x5) ∧
(i6 = false →
 F237_j118 B R y5 z5 a6 b6 c6 d6 i6 j6 k6 j6 x5))
def F237_j76 (B : World) (R : Po) (s6 : Bool) (t6 u6 : Int) (v6 : OA) (w6 x6 : Int) (y6 : OA) (z6 a7 : Nat) (b7 c7 : Bool) (d7 : Heap) : Prop :=
 F237_j13 B R s6 t6 u6 v6 w6 x6 y6 z6 a7 b7 c7 d7
def F237_j11 (B : World) (R : Po) (e7 : Bool) (f7 : OA) (g7 i7 : Nat) (j7 : Int) (k7 : Bool) (l7 : Int) (m7 : OA) (n7 o7 : Int) (p7 : OA) (q7 r7 : Nat) (s7 : Heap) : Prop :=
 Ec B 143 #[.slice f7 g7 i7, .int .i64 (IntKind.i64.wrap (o7 - (1 : Int)))] (retE (fun t7 u7 => ∃ v7, t7 = .bool v7 ∧
(k7 = true →
 F237_j76 B R e7 j7 l7 m7 n7 o7 p7 q7 r7 v7 true u7) ∧
(k7 = false →
((decide ((0 : Int) < (IntKind.i64.wrap (o7 - (1 : Int))))) = true →
 Ec B 113 #[.slice f7 g7 i7] (retE (fun w7 x7 => ∃ y7, w7 = .int .i64 y7 ∧
((decide ((0 : Int) ≤ y7)) = true →
 Ec B 113 #[.slice f7 g7 i7] (retE (fun z7 a8 => ∃ b8, z7 = .int .i64 b8 ∧
 F237_j76 B R e7 j7 l7 m7 n7 o7 p7 q7 r7 v7 (decide (b8 < (IntKind.i64.wrap (o7 - (1 : Int))))) a8)
(pk R)) x7) ∧
((decide ((0 : Int) ≤ y7)) = false →
 F237_j76 B R e7 j7 l7 m7 n7 o7 p7 q7 r7 v7 false x7))
(pk R)) u7) ∧
((decide ((0 : Int) < (IntKind.i64.wrap (o7 - (1 : Int))))) = false →
(false = true →
 Ec B 113 #[.slice f7 g7 i7] (retE (fun c8 d8 => ∃ e8, c8 = .int .i64 e8 ∧
 F237_j76 B R e7 j7 l7 m7 n7 o7 p7 q7 r7 v7 (decide (e8 < (IntKind.i64.wrap (o7 - (1 : Int))))) d8)
(pk R)) u7) ∧
(false = false →
 F237_j76 B R e7 j7 l7 m7 n7 o7 p7 q7 r7 v7 false u7))))
(pk R)) s7
def F237_j6 (B : World) (R : Po) (f8 : Bool) (g8 : OA) (i8 j8 : Nat) (k8 : Int) (l8 : Bool) (m8 : Int) (n8 : OA) (o8 p8 : Int) (q8 : Bool) (r8 : Heap) : Prop :=
(q8 = true →
 R (.returned (.tuple #[.int .i64 o8, .bool false])) r8) ∧
(q8 = false →
 isP n8 fun s8 t8 =>
 iP s8 t8 fun u8 v8 => ∃ w8, cI r8 u8 v8 .i64 w8 ∧
 isP n8 fun x8 y8 =>
 isP (some ⟨x8, y8 + 1, none⟩) fun z8 a9 => ∃ b9, cI r8 z8 a9 .i64 b9 ∧
 Ec B 114 #[.slice g8 i8 j8, .int .i64 (if (0 : Int) > (IntKind.i64.wrap ((if b9 > (IntKind.i64.wrap ((IntKind.i64.wrap (p8 + k8)) - w8)) then b9 else (IntKind.i64.wrap ((IntKind.i64.wrap (p8 + k8)) - w8))) - k8)) then (0 : Int) else (IntKind.i64.wrap ((if b9 > (IntKind.i64.wrap ((IntKind.i64.wrap (p8 + k8)) - w8)) then b9 else (IntKind.i64.wrap ((IntKind.i64.wrap (p8 + k8)) - w8))) - k8)))] (retE (fun c9 d9 => ∃ e9 f9 g9, c9 = .slice e9 f9 g9 ∧
((decide ((IntKind.i64.wrap ((if b9 > (IntKind.i64.wrap ((IntKind.i64.wrap (p8 + k8)) - w8)) then b9 else (IntKind.i64.wrap ((IntKind.i64.wrap (p8 + k8)) - w8))) - k8)) < (0 : Int))) = true →
 Ec B 109 #[.slice g8 i8 j8, .int .i64 (IntKind.i64.wrap (0 - (IntKind.i64.wrap ((if b9 > (IntKind.i64.wrap ((IntKind.i64.wrap (p8 + k8)) - w8)) then b9 else (IntKind.i64.wrap ((IntKind.i64.wrap (p8 + k8)) - w8))) - k8))))] (retE (fun i9 j9 => ∃ k9 l9 m9, i9 = .slice k9 l9 m9 ∧
 F237_j11 B R f8 g8 i8 j8 k8 l8 m8 n8 o8 (IntKind.i64.wrap ((if b9 > (IntKind.i64.wrap ((IntKind.i64.wrap (p8 + k8)) - w8)) then b9 else (IntKind.i64.wrap ((IntKind.i64.wrap (p8 + k8)) - w8))) - k8)) k9 l9 m9 j9)
(pk R)) d9) ∧
((decide ((IntKind.i64.wrap ((if b9 > (IntKind.i64.wrap ((IntKind.i64.wrap (p8 + k8)) - w8)) then b9 else (IntKind.i64.wrap ((IntKind.i64.wrap (p8 + k8)) - w8))) - k8)) < (0 : Int))) = false →
 F237_j11 B R f8 g8 i8 j8 k8 l8 m8 n8 o8 (IntKind.i64.wrap ((if b9 > (IntKind.i64.wrap ((IntKind.i64.wrap (p8 + k8)) - w8)) then b9 else (IntKind.i64.wrap ((IntKind.i64.wrap (p8 + k8)) - w8))) - k8)) e9 f9 g9 d9))
(pk R)) r8)
def F237_j4 (B : World) (R : Po) (n9 : Bool) (o9 : OA) (p9 q9 : Nat) (r9 : Int) (s9 : Bool) (t9 : Int) (u9 : OA) (v9 : Int) (w9 : Heap) : Prop :=
 Ec B 142 #[.slice o9 p9 q9] (retE (fun x9 y9 => ∃ z9, x9 = .int .i64 z9 ∧
((decide (z9 = (0 : Int))) = true →
 F237_j6 B R n9 o9 p9 q9 r9 s9 t9 u9 v9 z9 (!s9) y9) ∧
((decide (z9 = (0 : Int))) = false →
 F237_j6 B R n9 o9 p9 q9 r9 s9 t9 u9 v9 z9 false y9))
(pk R)) w9
def F237 (B : World) (R : Po) (a10 b10 c10 d10 e10 : Int) (f10 : Bool) (g10 : OA) (i10 j10 : Nat) (k10 : Int) (l10 : Bool) (m10 : Int) (h : Heap) : Prop :=
 alW h (.cells #[.int .i64 a10, .int .i64 b10, .int .i64 c10, .int .i64 d10, .int .i64 e10] 95) fun n10 o10 =>
(f10 = true →
 iP n10 0 fun p10 q10 =>
 isP (some ⟨p10, q10 + 4, none⟩) fun r10 s10 => ∃ t10, cI o10 r10 s10 .i64 t10 ∧
 F237_j4 B R f10 g10 i10 j10 k10 l10 m10 (some ⟨n10, 0, none⟩) t10 o10) ∧
(f10 = false →
 F237_j4 B R f10 g10 i10 j10 k10 l10 m10 (some ⟨n10, 0, none⟩) (0 : Int) o10)
def F237_L : Nat → List (Nat × TypeDesc) := fun i => match i with
  | 15 => [(1, .bool), (3, .int .i64), (5, .int .i64), (6, .pointer 0), (14, .int .i64), (16, .int .i64), (17, .slice 0), (18, .bool), (19, .bool), (20, .int .i64), (21, .int .i64)]
  | _ => []
def F237_J (B : World) (R : Po) : Nat → Option JT := fun i => match i with
  | 4 => some ⟨[(1, .bool), (2, .slice 0), (3, .int .i64), (4, .bool), (5, .int .i64), (6, .pointer 0), (14, .int .i64)], fun s v h => match s, v with
    | [], [.bool n9, .slice o9 p9 q9, .int _ r9, .bool s9, .int _ t9, .pointer u9, .int _ v9] => F237_j4 B R n9 o9 p9 q9 r9 s9 t9 u9 v9 h
    | _, _ => False⟩
  | 6 => some ⟨[(1, .bool), (2, .slice 0), (3, .int .i64), (4, .bool), (5, .int .i64), (6, .pointer 0), (14, .int .i64), (15, .int .i64), (35, .bool)], fun s v h => match s, v with
    | [], [.bool f8, .slice g8 i8 j8, .int _ k8, .bool l8, .int _ m8, .pointer n8, .int _ o8, .int _ p8, .bool q8] => F237_j6 B R f8 g8 i8 j8 k8 l8 m8 n8 o8 p8 q8 h
    | _, _ => False⟩
  | 11 => some ⟨[(1, .bool), (2, .slice 0), (3, .int .i64), (4, .bool), (5, .int .i64), (6, .pointer 0), (14, .int .i64), (16, .int .i64), (17, .slice 0)], fun s v h => match s, v with
    | [], [.bool e7, .slice f7 g7 i7, .int _ j7, .bool k7, .int _ l7, .pointer m7, .int _ n7, .int _ o7, .slice p7 q7 r7] => F237_j11 B R e7 f7 g7 i7 j7 k7 l7 m7 n7 o7 p7 q7 r7 h
    | _, _ => False⟩
  | 13 => some ⟨[(1, .bool), (3, .int .i64), (5, .int .i64), (6, .pointer 0), (14, .int .i64), (16, .int .i64), (17, .slice 0), (18, .bool), (19, .bool)], fun s v h => match s, v with
    | [], [.bool i5, .int _ j5, .int _ k5, .pointer l5, .int _ m5, .int _ n5, .slice o5 p5 q5, .bool r5, .bool s5] => F237_j13 B R i5 j5 k5 l5 m5 n5 o5 p5 q5 r5 s5 h
    | _, _ => False⟩
  | 19 => some ⟨[(1, .bool), (3, .int .i64), (5, .int .i64), (6, .pointer 0), (14, .int .i64), (16, .int .i64), (18, .bool), (19, .bool), (20, .int .i64), (22, .bool)], fun s v h => match s, v with
    | [], [.bool l4, .int _ m4, .int _ n4, .pointer o4, .int _ p4, .int _ q4, .bool r4, .bool s4, .int _ t4, .bool u4] => F237_j19 B R l4 m4 n4 o4 p4 q4 r4 s4 t4 u4 h
    | _, _ => False⟩
  | 27 => some ⟨[(1, .bool), (3, .int .i64), (5, .int .i64), (6, .pointer 0), (14, .int .i64), (16, .int .i64), (20, .int .i64), (22, .bool), (23, .bool)], fun s v h => match s, v with
    | [], [.bool v2, .int _ w2, .int _ x2, .pointer y2, .int _ z2, .int _ a3, .int _ b3, .bool c3, .bool d3] => F237_j27 B R v2 w2 x2 y2 z2 a3 b3 c3 d3 h
    | _, _ => False⟩
  | 29 => some ⟨[(1, .bool), (3, .int .i64), (5, .int .i64), (6, .pointer 0), (14, .int .i64), (16, .int .i64), (20, .int .i64), (22, .bool)], fun s v h => match s, v with
    | [], [.bool g2, .int _ i2, .int _ j2, .pointer k2, .int _ l2, .int _ m2, .int _ n2, .bool o2] => F237_j29 B R g2 i2 j2 k2 l2 m2 n2 o2 h
    | _, _ => False⟩
  | 31 => some ⟨[(1, .bool), (5, .int .i64), (6, .pointer 0), (14, .int .i64), (20, .int .i64), (22, .bool), (24, .int .i64), (147, .bool)], fun s v h => match s, v with
    | [], [.bool v0, .int _ w0, .pointer x0, .int _ y0, .int _ z0, .bool a1, .int _ b1, .bool c1] => F237_j31 B R v0 w0 x0 y0 z0 a1 b1 c1 h
    | _, _ => False⟩
  | 32 => some ⟨[(6, .pointer 0), (14, .int .i64), (164, .bool)], fun s v h => match s, v with
    | [], [.pointer a0, .int _ b0, .bool c0] => F237_j32 B R a0 b0 c0 h
    | _, _ => False⟩
  | _ => none
theorem F237_ok {B : World} {R : Ending → Heap → Prop} (a10 b10 c10 d10 e10 : Int) (f10 : Bool) (g10 : OA) (i10 j10 : Nat) (k10 : Int) (l10 : Bool) (m10 : Int) {h : Heap} (H : F237 B R a10 b10 c10 d10 e10 f10 g10 i10 j10 k10 l10 m10 h) : Ec B 108 #[.agg #[.int .i64 a10, .int .i64 b10, .int .i64 c10, .int .i64 d10, .int .i64 e10], .bool f10, .slice g10 i10 j10, .int .i64 k10, .bool l10, .int .i64 m10] R h :=
 Ej Tryz.func108 (by kernel_rfl) (by kernel_rfl) (by kernel_rfl) F237_L (F237_J B R) [] (by kernel_rfl) (by kernel_rfl) H

/-- (plumb/plumbref4.Kind).To -/
def F1103 (B : World) (R : Po) (a0 b0 c0 d0 e0 : Int) (f0 : Bool) (g0 : OA) (i0 j0 : Nat) (k0 l0 : Int) (h : Heap) : Prop :=
 alW h (.cells #[.int .i64 a0, .int .i64 b0, .int .i64 c0, .int .i64 d0, .int .i64 e0] 95) fun m0 n0 =>
 alW n0 (.cells #[.bool f0, .slice g0 i0 j0, .int .i64 k0] 24) fun o0 p0 =>
 iP m0 0 fun q0 r0 =>
∃ s0, cI p0 q0 r0 .i64 s0 ∧
∃ t0, cell? p0 ⟨q0, r0 + 1, none⟩ = some (.int .i64 t0) ∧
∃ u0, cell? p0 ⟨q0, r0 + 1 + 1, none⟩ = some (.int .i64 u0) ∧
∃ v0, cell? p0 ⟨q0, r0 + 1 + 1 + 1, none⟩ = some (.int .i64 v0) ∧
∃ w0, cell? p0 ⟨q0, r0 + 1 + 1 + 1 + 1, none⟩ = some (.int .i64 w0) ∧
 iP m0 0 fun x0 y0 =>
∃ z0, cI p0 x0 y0 .i64 z0 ∧
∃ a1, cell? p0 ⟨x0, y0 + 1, none⟩ = some (.int .i64 a1) ∧
∃ b1, cell? p0 ⟨x0, y0 + 1 + 1, none⟩ = some (.int .i64 b1) ∧
∃ c1, cell? p0 ⟨x0, y0 + 1 + 1 + 1, none⟩ = some (.int .i64 c1) ∧
∃ d1, cell? p0 ⟨x0, y0 + 1 + 1 + 1 + 1, none⟩ = some (.int .i64 d1) ∧
 iP o0 0 fun e1 f1 =>
 iP e1 f1 fun g1 i1 => ∃ j1, cell? p0 ⟨g1, i1, none⟩ = some (.bool j1) ∧
 iP o0 0 fun k1 l1 =>
 isP (some ⟨k1, l1 + 1, none⟩) fun m1 n1 => ∃ o1 p1 q1, cS p0 m1 n1 o1 p1 q1 ∧
 iP o0 0 fun r1 s1 =>
 isP (some ⟨r1, s1 + 2, none⟩) fun t1 u1 => ∃ v1, cI p0 t1 u1 .i64 v1 ∧
 Ec B 108 #[.agg #[.int .i64 z0, .int .i64 a1, .int .i64 b1, .int .i64 c1, .int .i64 d1], .bool j1, .slice o1 p1 q1, .int .i64 v1, .bool false, .int .i64 l0] (retE (fun w1 x1 => ∃ y1 z1, w1 = .tuple #[.int .i64 y1, .bool z1] ∧
 sameCells p0 x1 q0 r0 5 ∧ Ec B 107 #[.agg #[.int .i64 s0, .int .i64 t0, .int .i64 u0, .int .i64 v0, .int .i64 w0], .int .i64 y1, .bool z1] (retE (fun a2 b2 => ∃ c2 d2, a2 = .tuple #[.int .i64 c2, .bool d2] ∧
 R (.returned (.tuple #[.int .i64 c2, .bool d2])) b2)
(fun _ _ => False)) x1)
(fun _ _ => False)) p0
def F1103_L : Nat → List (Nat × TypeDesc) := fun _ => []
theorem F1103_ok {B : World} {R : Ending → Heap → Prop} (a0 b0 c0 d0 e0 : Int) (f0 : Bool) (g0 : OA) (i0 j0 : Nat) (k0 l0 : Int) {h : Heap} (H : F1103 B R a0 b0 c0 d0 e0 f0 g0 i0 j0 k0 l0 h) : Ec B 59 #[.agg #[.int .i64 a0, .int .i64 b0, .int .i64 c0, .int .i64 d0, .int .i64 e0], .agg #[.bool f0, .slice g0 i0 j0, .int .i64 k0], .int .i64 l0] R h :=
 Ek Tryz.func59 (by kernel_rfl) (by kernel_rfl) (by kernel_rfl) F1103_L [] (by kernel_rfl) H

/-- (plumb/plumbref4.Kind).told -/
def F1113 (B : World) (R : Po) (a0 b0 c0 d0 e0 f0 : Int) (g0 : Bool) (h : Heap) : Prop :=
 alW h (.cells #[.int .i64 a0, .int .i64 b0, .int .i64 c0, .int .i64 d0, .int .i64 e0] 95) fun i0 j0 =>
 iP i0 0 fun k0 l0 =>
 isP (some ⟨k0, l0 + 4, none⟩) fun m0 n0 => ∃ o0, cI j0 m0 n0 .i64 o0 ∧
((decide (f0 = o0)) = true →
 R (.returned (.tuple #[.int .i64 (0 : Int), .bool g0])) j0) ∧
((decide (f0 = o0)) = false →
 R (.returned (.tuple #[.int .i64 f0, .bool g0])) j0)
def F1113_L : Nat → List (Nat × TypeDesc) := fun _ => []
theorem F1113_ok {B : World} {R : Ending → Heap → Prop} (a0 b0 c0 d0 e0 f0 : Int) (g0 : Bool) {h : Heap} (H : F1113 B R a0 b0 c0 d0 e0 f0 g0 h) : Ec B 107 #[.agg #[.int .i64 a0, .int .i64 b0, .int .i64 c0, .int .i64 d0, .int .i64 e0], .int .i64 f0, .bool g0] R h :=
 Ek Tryz.func107 (by kernel_rfl) (by kernel_rfl) (by kernel_rfl) F1113_L [] (by kernel_rfl) H
end Go.Proofs
set_option linter.unusedVariables false
namespace Go.Eng
open Go
theorem flo_bd {m : Nat} (e : Int) (hm : m ≠ 0) : cutX m e / 2 ^ cutD m e < 9007199254740992 ∧ (lastP m e = -1074 ∨ 4503599627370496 ≤ cutX m e / 2 ^ cutD m e) := by
  have hl := (Nat.log2_eq_iff hm).1 rfl
  have hL : lastP m e = max (e + m.log2 - 52) (-1074) := rfl
  unfold cutX cutD
  generalize m.log2 = l at *
  generalize lastP m e = L at *
  have h53 : (9007199254740992 : Nat) = 2 ^ 53 := by decide
  have h52 : (4503599627370496 : Nat) = 2 ^ 52 := by decide
  rw [h53, h52]
  by_cases h : L ≤ e
  · obtain ⟨k, hk⟩ : ∃ k : Nat, (e - L).toNat = k := ⟨_, rfl⟩
    rw [show (L - e).toNat = 0 by omega, hk, Nat.pow_zero, Nat.div_one]
    constructor
    · have h1 : m * 2 ^ k < 2 ^ (l + 1) * 2 ^ k := Nat.mul_lt_mul_of_pos_right hl.2 (Nat.pow_pos (by decide))
      rw [← Nat.pow_add] at h1
      exact Nat.lt_of_lt_of_le h1 (Nat.pow_le_pow_right (by decide) (by omega))
    · by_cases h0 : L = -1074
      · exact .inl h0
      · right
        have h1 : 2 ^ l * 2 ^ k ≤ m * 2 ^ k := Nat.mul_le_mul_right _ hl.1
        rw [← Nat.pow_add] at h1
        exact Nat.le_trans (Nat.pow_le_pow_right (by decide) (by omega)) h1
  · obtain ⟨d, hd⟩ : ∃ d : Nat, (L - e).toNat = d := ⟨_, rfl⟩
    rw [show (e - L).toNat = 0 by omega, hd, Nat.pow_zero, Nat.mul_one]
    constructor
    · rw [Nat.div_lt_iff_lt_mul (Nat.pow_pos (by decide)), ← Nat.pow_add]
      exact Nat.lt_of_lt_of_le hl.2 (Nat.pow_le_pow_right (by decide) (by omega))
    · by_cases h0 : L = -1074
      · exact .inl h0
      · right
        rw [Nat.le_div_iff_mul_le (Nat.pow_pos (by decide)), ← Nat.pow_add]
        exact Nat.le_trans (Nat.pow_le_pow_right (by decide) (by omega)) hl.1
/-- The bits behind the last place: the first one, and whether there are others. -/
def halfB (M d : Nat) : Bool := decide (0 < d) && decide (M / 2 ^ (d - 1) % 2 = 1)
def restB (M d : Nat) : Bool := decide (0 < d - 1) && decide (M % 2 ^ (d - 1) ≠ 0)
theorem odd_bits (M d : Nat) : decide (M % 2 ^ d ≠ 0) = (halfB M d || restB M d) := by
  unfold halfB restB
  cases d with
  | zero => simp [Nat.mod_one]
  | succ d =>
    have hp : 0 < 2 ^ d := Nat.pow_pos (by decide)
    have h1 : M % 2 ^ (d + 1) = 2 ^ d * (M / 2 ^ d % 2) + M % 2 ^ d := by
      rw [Nat.pow_succ, Nat.mod_mul, Nat.add_comm]
    have hd : d + 1 - 1 = d := rfl
    rw [hd, h1]
    rcases Nat.mod_two_eq_zero_or_one (M / 2 ^ d) with h | h
    · rw [h]
      by_cases h0 : M % 2 ^ d = 0
      · simp [h0]
      · have hd0 : 0 < d := by
          rcases Nat.eq_zero_or_pos d with hz | hz
          · subst hz; rw [Nat.pow_zero, Nat.mod_one] at h0; exact absurd rfl h0
          · exact hz
        simp [h0, hd0]
    · rw [h]; simp
theorem rn_bits' (M d : Nat) : rn M d = M / 2 ^ d + (if (halfB M d && (restB M d || decide (M / 2 ^ d % 2 = 1))) = true then 1 else 0) := by
  unfold halfB restB
  cases d with
  | zero => rw [rn_zero]; simp
  | succ d =>
    unfold rn
    congr 1
    have hp : 0 < 2 ^ d := Nat.pow_pos (by decide)
    have h1 : M % 2 ^ (d + 1) = 2 ^ d * (M / 2 ^ d % 2) + M % 2 ^ d := by
      rw [Nat.pow_succ, Nat.mod_mul, Nat.add_comm]
    have h2 : M % 2 ^ d < 2 ^ d := Nat.mod_lt _ hp
    have h3 : 2 ^ (d + 1) = 2 ^ d * 2 := Nat.pow_succ ..
    have hd : d + 1 - 1 = d := rfl
    rw [hd, h1]
    generalize M / 2 ^ (d + 1) % 2 = q
    rcases Nat.mod_two_eq_zero_or_one (M / 2 ^ d) with h | h
    · rw [h, if_neg (by omega)]; simp
    · rw [h]
      by_cases h0 : M % 2 ^ d = 0
      · by_cases hq : q = 1
        · rw [if_pos (by omega)]; simp [h0, hq]
        · rw [if_neg (by omega)]; simp [h0, hq]
      · have hd0 : 0 < d := by
          rcases Nat.eq_zero_or_pos d with hz | hz
          · subst hz; rw [Nat.pow_zero, Nat.mod_one] at h0; exact absurd rfl h0
          · exact hz
        rw [if_pos (by omega)]; simp [h0, hd0]
theorem incN_bits {M : Nat} {e : Int} : incN M e = (halfB (cutX M e) (cutD M e) && (restB (cutX M e) (cutD M e) || decide (cutX M e / 2 ^ cutD M e % 2 = 1))) := by
  have h := rn_bits' (cutX M e) (cutD M e)
  unfold rn at h
  unfold incN
  generalize (halfB (cutX M e) (cutD M e) && (restB (cutX M e) (cutD M e) || decide (cutX M e / 2 ^ cutD M e % 2 = 1))) = b at *
  have h := Nat.add_left_cancel h
  cases b
  · rw [decide_eq_false_iff_not]
    intro hc
    rw [if_pos hc] at h
    cases h
  · rw [decide_eq_true_eq]
    rcases Classical.em (2 ^ cutD M e < 2 * (cutX M e % 2 ^ cutD M e) ∨ (2 ^ cutD M e = 2 * (cutX M e % 2 ^ cutD M e) ∧ cutX M e / 2 ^ cutD M e % 2 = 1)) with hc | hc
    · exact hc
    · rw [if_neg hc] at h; cases h
end Go.Eng
