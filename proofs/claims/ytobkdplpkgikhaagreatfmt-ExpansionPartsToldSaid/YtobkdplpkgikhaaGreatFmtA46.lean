import Derived.Test.YtobkdplpkgikhaaGreatFmtA09
import Derived.Test.YtobkdplpkgikhaaGreatFmtA37
import Derived.Test.YtobkdplpkgikhaaGreatFmtA36
import Derived.Test.YtobkdplpkgikhaaGreatFmtA45
import Derived.Test.YtobkdplpkgikhaaGreatFmtA35
import Derived.Test.YtobkdplpkgikhaaGreatFmtA32
import Derived.Test.YtobkdplpkgikhaaGreatFmtA44
import Derived.Test.YtobkdplpkgikhaaGreatFmtA43
/- Here stand lemmas and contracts, in the order in which they are used. -/
set_option linter.unusedVariables false
namespace Go.Proofs
open Go Go.Eng
/-- plumb/expansion.Parts -/
def F1341_j99 (B : World) (R : Po) (c3 d3 : Nat) (a0 : Lp) (b0 : Nat) (c0 d0 e0 : OA) (f0 : Int) (g0 : Bool) (i0 j0 : OA) (k0 : Heap) : Prop :=
(g0 = true →
 Enters Tryz.prog 17 ∧ FnD Tryz.prog B 17 #[.pointer i0, .pointer j0] (.panicking [{ v := .iface 59 (.agg #[]), recovered := false }]) (dfE fun l0 m0 => lvW (fun n0 => isP d0 fun o0 p0 => ∃ q0 r0 s0, cS n0 o0 p0 q0 r0 s0 ∧
 isP e0 fun t0 u0 => ∃ v0, cI n0 t0 u0 .i64 v0 ∧
 R (.returned (.tuple #[.slice q0 r0 s0, .int .i64 v0])) n0) (pk R) l0 m0) k0) ∧
(g0 = false →
 isP d0 fun w0 x0 => ∃ y0 z0 a1, cS k0 w0 x0 y0 z0 a1 ∧
 alW k0 (.cells #[.int .i64 f0] 3) fun b1 c1 =>
 apW c1 y0 z0 a1 (some ⟨b1, 0, none⟩) 1 1 8 3 #[.int .i64 0] fun d1 e1 f1 g1 =>
 isP d0 fun i1 j1 => stC g1 i1 j1 (.slice d1 e1 f1) fun k1 =>
 Ec B 30 #[.int .i64 f0] (retE (fun l1 m1 => ∃ n1 o1 p1 q1 r1 s1, l1 = .tuple #[.agg #[.bool n1, .slice o1 p1 q1, .int .i64 r1], .int .i64 s1] ∧
 alW m1 (.cells #[.bool false, .slice none 0 0, .int .i64 0] 24) fun t1 u1 =>
 iP t1 0 fun v1 w1 => stC u1 v1 w1 (.bool n1) fun x1 =>
 stC x1 v1 (w1 + 1) (.slice o1 p1 q1) fun y1 =>
 stC y1 v1 (w1 + 1 + 1) (.int .i64 r1) fun z1 =>
 isP c0 fun a2 b2 =>
∃ c2, cell? z1 ⟨a2, b2, none⟩ = some (.bool c2) ∧
∃ d2 e2 f2, cell? z1 ⟨a2, b2 + 1, none⟩ = some (.slice d2 e2 f2) ∧
∃ g2, cell? z1 ⟨a2, b2 + 1 + 1, none⟩ = some (.int .i64 g2) ∧
 iP t1 0 fun i2 j2 =>
∃ k2, cell? z1 ⟨i2, j2, none⟩ = some (.bool k2) ∧
∃ l2 m2 n2, cell? z1 ⟨i2, j2 + 1, none⟩ = some (.slice l2 m2 n2) ∧
∃ o2, cell? z1 ⟨i2, j2 + 1 + 1, none⟩ = some (.int .i64 o2) ∧
 Ec B 31 #[.agg #[.bool c2, .slice d2 e2 f2, .int .i64 g2], .agg #[.bool k2, .slice l2 m2 n2, .int .i64 o2]] (retE (fun p2 q2 => ∃ r2 s2 t2 u2 v2 w2, p2 = .tuple #[.agg #[.bool r2, .slice s2 t2 u2, .int .i64 v2], .int .i64 w2] ∧
 isP c0 fun x2 y2 => stC q2 x2 y2 (.bool r2) fun z2 =>
 stC z2 x2 (y2 + 1) (.slice s2 t2 u2) fun a3 =>
 stC a3 x2 (y2 + 1 + 1) (.int .i64 v2) fun b3 =>
([{ target := .fn (.func 17) #[], args := #[.pointer i0, .pointer j0] }] : List Deferred) = [{ target := .fn (.func 17) #[], args := #[.pointer (some ⟨c3, 0, none⟩), .pointer (some ⟨d3, 0, none⟩)] }] ∧ ∃ e3, e3 < b0 ∧ a0 e3 [.pointer c0, .pointer d0, .pointer e0] b3)
(fun f3 g3 => Enters Tryz.prog 17 ∧ FnD Tryz.prog B 17 #[.pointer i0, .pointer j0] (.panicking f3) (dfE fun i3 j3 => lvW (fun k3 => isP d0 fun l3 m3 => ∃ n3 o3 p3, cS k3 l3 m3 n3 o3 p3 ∧
 isP e0 fun q3 r3 => ∃ s3, cI k3 q3 r3 .i64 s3 ∧
 R (.returned (.tuple #[.slice n3 o3 p3, .int .i64 s3])) k3) (pk R) i3 j3) g3)) z1)
(fun t3 u3 => Enters Tryz.prog 17 ∧ FnD Tryz.prog B 17 #[.pointer i0, .pointer j0] (.panicking t3) (dfE fun v3 w3 => lvW (fun x3 => isP d0 fun y3 z3 => ∃ a4 b4 c4, cS x3 y3 z3 a4 b4 c4 ∧
 isP e0 fun d4 e4 => ∃ f4, cI x3 d4 e4 .i64 f4 ∧
 R (.returned (.tuple #[.slice a4 b4 c4, .int .i64 f4])) x3) (pk R) v3 w3) u3)) k1)
def F1341_j241 (B : World) (R : Po) (c3 d3 : Nat) (a0 : Lp) (b0 : Nat) (g4 : Lp) (i4 : Nat) (j4 k4 : OA) (l4 m4 : Int) (n4 o4 : OA) (p4 : Heap) : Prop :=
([{ target := .fn (.func 17) #[], args := #[.pointer n4, .pointer o4] }] : List Deferred) = [{ target := .fn (.func 17) #[], args := #[.pointer (some ⟨c3, 0, none⟩), .pointer (some ⟨d3, 0, none⟩)] }] ∧ ∃ q4, q4 < i4 ∧ g4 q4 [.pointer j4, .pointer k4, .int .i64 l4, .int .i64 (IntKind.i64.wrap (m4 + (1 : Int)))] p4
def F1341 (B : World) (R : Po) (r4 : Bool) (s4 : OA) (t4 u4 : Nat) (v4 : Int) (h : Heap) : Prop :=
 alW h (.cells #[.bool r4, .slice s4 t4 u4, .int .i64 v4] 24) fun w4 x4 =>
 alW x4 (.cells #[.slice none 0 0] 22) fun c3 y4 =>
 alW y4 (.cells #[.int .i64 0] 32) fun d3 z4 =>
 iP w4 0 fun a5 b5 =>
∃ c5, cell? z4 ⟨a5, b5, none⟩ = some (.bool c5) ∧
∃ d5 e5 f5, cell? z4 ⟨a5, b5 + 1, none⟩ = some (.slice d5 e5 f5) ∧
∃ g5, cell? z4 ⟨a5, b5 + 1 + 1, none⟩ = some (.int .i64 g5) ∧
 Ec B 28 #[.agg #[.bool c5, .slice d5 e5 f5, .int .i64 g5]] (retE (fun i5 j5 => ∃ k5, i5 = .bool k5 ∧
((!k5) = true →
 iP c3 0 fun l5 m5 => stC j5 l5 m5 (.slice none 0 0) fun n5 =>
 iP d3 0 fun o5 p5 => stC n5 o5 p5 (.int .i64 (11 : Int)) fun q5 =>
 Enters Tryz.prog 17 ∧ FnD Tryz.prog B 17 #[.pointer (some ⟨c3, 0, none⟩), .pointer (some ⟨d3, 0, none⟩)] .returning (dfE fun r5 s5 => lvW (fun t5 => iP c3 0 fun u5 v5 => ∃ w5 x5 y5, cS t5 u5 v5 w5 x5 y5 ∧
 iP d3 0 fun z5 a6 => ∃ b6, cI t5 z5 a6 .i64 b6 ∧
 R (.returned (.tuple #[.slice w5 x5 y5, .int .i64 b6])) t5) (pk R) r5 s5) q5) ∧
((!k5) = false →
 ∃ a0 : Lp, ∃ c6, a0 c6 [.pointer (some ⟨w4, 0, none⟩), .pointer (some ⟨c3, 0, none⟩), .pointer (some ⟨d3, 0, none⟩)] j5 ∧
∀ (b0 : Nat) (d6 : Heap) (e6 f6 g6 : OA), a0 b0 [.pointer e6, .pointer f6, .pointer g6] d6 → ∀ _r : Nat → Value,
 isP e6 fun i6 j6 =>
 isP (some ⟨i6, j6 + 1, none⟩) fun k6 l6 => ∃ m6 n6 o6, cS d6 k6 l6 m6 n6 o6 ∧
((decide ((0 : Int) < (n6 : Int))) = true →
 isP e6 fun p6 q6 =>
∃ r6, cell? d6 ⟨p6, q6, none⟩ = some (.bool r6) ∧
∃ s6 t6 u6, cell? d6 ⟨p6, q6 + 1, none⟩ = some (.slice s6 t6 u6) ∧
∃ v6, cell? d6 ⟨p6, q6 + 1 + 1, none⟩ = some (.int .i64 v6) ∧
 Ec B 29 #[.agg #[.bool r6, .slice s6 t6 u6, .int .i64 v6], .int .i64 (0 : Int)] (retE (fun w6 x6 => ∃ y6 z6 a7, w6 = .tuple #[.int .i64 y6, .bool z6, .int .i64 a7] ∧
 Ec B 23 #[.int .i64 y6] (retE (fun b7 c7 => ∃ d7, b7 = .int .i64 d7 ∧
((decide (d7 = (0 : Int))) = true →
 F1341_j99 B R c3 d3 a0 b0 e6 f6 g6 y6 true (some ⟨c3, 0, none⟩) (some ⟨d3, 0, none⟩) c7) ∧
((decide (d7 = (0 : Int))) = false →
 F1341_j99 B R c3 d3 a0 b0 e6 f6 g6 y6 (decide (d7 = (3 : Int))) (some ⟨c3, 0, none⟩) (some ⟨d3, 0, none⟩) c7))
(fun e7 f7 => Enters Tryz.prog 17 ∧ FnD Tryz.prog B 17 #[.pointer (some ⟨c3, 0, none⟩), .pointer (some ⟨d3, 0, none⟩)] (.panicking e7) (dfE fun g7 i7 => lvW (fun j7 => isP f6 fun k7 l7 => ∃ m7 n7 o7, cS j7 k7 l7 m7 n7 o7 ∧
 isP g6 fun p7 q7 => ∃ r7, cI j7 p7 q7 .i64 r7 ∧
 R (.returned (.tuple #[.slice m7 n7 o7, .int .i64 r7])) j7) (pk R) g7 i7) f7)) x6)
(fun s7 t7 => Enters Tryz.prog 17 ∧ FnD Tryz.prog B 17 #[.pointer (some ⟨c3, 0, none⟩), .pointer (some ⟨d3, 0, none⟩)] (.panicking s7) (dfE fun u7 v7 => lvW (fun w7 => isP f6 fun x7 y7 => ∃ z7 a8 b8, cS w7 x7 y7 z7 a8 b8 ∧
 isP g6 fun c8 d8 => ∃ e8, cI w7 c8 d8 .i64 e8 ∧
 R (.returned (.tuple #[.slice z7 a8 b8, .int .i64 e8])) w7) (pk R) u7 v7) t7)) d6) ∧
((decide ((0 : Int) < (n6 : Int))) = false →
 isP f6 fun f8 g8 => ∃ i8 j8 k8, cS d6 f8 g8 i8 j8 k8 ∧
(2 : Int) ≠ 0 ∧
∃ g4 : Lp, ∃ l8, g4 l8 [.pointer f6, .pointer g6, .int .i64 (IntKind.i64.wrap (Int.tdiv (j8 : Int) (2 : Int))), .int .i64 (0 : Int)] d6 ∧
∀ (i4 : Nat) (m8 : Heap) (n8 o8 : OA) (p8 q8 : Int), g4 i4 [.pointer n8, .pointer o8, .int .i64 p8, .int .i64 q8] m8 → ∀ _r : Nat → Value,
((decide (q8 < p8)) = true →
 isP n8 fun r8 s8 => ∃ t8 u8 v8, cS m8 r8 s8 t8 u8 v8 ∧
 isP n8 fun w8 x8 => ∃ y8 z8 a9, cS m8 w8 x8 y8 z8 a9 ∧
 isP n8 fun b9 c9 => ∃ d9 e9 f9, cS m8 b9 c9 d9 e9 f9 ∧
 isP n8 fun g9 i9 => ∃ j9 k9 l9, cS m8 g9 i9 j9 k9 l9 ∧
 isP n8 fun m9 n9 => ∃ o9 p9 q9, cS m8 m9 n9 o9 p9 q9 ∧
 ixW j9 k9 (IntKind.i64.wrap ((IntKind.i64.wrap ((p9 : Int) - (1 : Int))) - q8)) 1 fun r9 s9 =>
 iP r9 s9 fun t9 u9 => ∃ v9, cI m8 t9 u9 .i64 v9 ∧
 isP n8 fun w9 x9 => ∃ y9 z9 a10, cS m8 w9 x9 y9 z9 a10 ∧
 ixW y9 z9 q8 1 fun b10 c10 =>
 iP b10 c10 fun d10 e10 => ∃ f10, cI m8 d10 e10 .i64 f10 ∧
 ixW t8 u8 q8 1 fun g10 i10 =>
 iP g10 i10 fun j10 k10 => stC m8 j10 k10 (.int .i64 v9) fun l10 =>
 ixW y8 z8 (IntKind.i64.wrap ((IntKind.i64.wrap ((e9 : Int) - (1 : Int))) - q8)) 1 fun m10 n10 =>
 iP m10 n10 fun o10 p10 => stC l10 o10 p10 (.int .i64 f10) fun q10 =>
 F1341_j241 B R c3 d3 a0 b0 g4 i4 n8 o8 p8 q8 (some ⟨c3, 0, none⟩) (some ⟨d3, 0, none⟩) q10) ∧
((decide (q8 < p8)) = false →
 isP n8 fun r10 s10 => ∃ t10 u10 v10, cS m8 r10 s10 t10 u10 v10 ∧
 Ec B 20 #[.slice t10 u10 v10] (retE (fun w10 x10 => ∃ y10 z10 a11 b11, w10 = .tuple #[.slice y10 z10 a11, .int .i64 b11] ∧
 isP n8 fun c11 d11 => stC x10 c11 d11 (.slice y10 z10 a11) fun e11 =>
 isP o8 fun f11 g11 => stC e11 f11 g11 (.int .i64 b11) fun i11 =>
 Enters Tryz.prog 17 ∧ FnD Tryz.prog B 17 #[.pointer (some ⟨c3, 0, none⟩), .pointer (some ⟨d3, 0, none⟩)] .returning (dfE fun j11 k11 => lvW (fun l11 => isP n8 fun m11 n11 => ∃ o11 p11 q11, cS l11 m11 n11 o11 p11 q11 ∧
 isP o8 fun r11 s11 => ∃ t11, cI l11 r11 s11 .i64 t11 ∧
 R (.returned (.tuple #[.slice o11 p11 q11, .int .i64 t11])) l11) (pk R) j11 k11) i11)
(fun u11 v11 => Enters Tryz.prog 17 ∧ FnD Tryz.prog B 17 #[.pointer (some ⟨c3, 0, none⟩), .pointer (some ⟨d3, 0, none⟩)] (.panicking u11) (dfE fun w11 x11 => lvW (fun y11 => isP n8 fun z11 a12 => ∃ b12 c12 d12, cS y11 z11 a12 b12 c12 d12 ∧
 isP o8 fun e12 f12 => ∃ g12, cI y11 e12 f12 .i64 g12 ∧
 R (.returned (.tuple #[.slice b12 c12 d12, .int .i64 g12])) y11) (pk R) w11 x11) v11)) m8))))
(fun i12 j12 => Enters Tryz.prog 17 ∧ FnD Tryz.prog B 17 #[.pointer (some ⟨c3, 0, none⟩), .pointer (some ⟨d3, 0, none⟩)] (.panicking i12) (dfE fun k12 l12 => lvW (fun m12 => iP c3 0 fun n12 o12 => ∃ p12 q12 r12, cS m12 n12 o12 p12 q12 r12 ∧
 iP d3 0 fun s12 t12 => ∃ u12, cI m12 s12 t12 .i64 u12 ∧
 R (.returned (.tuple #[.slice p12 q12 r12, .int .i64 u12])) m12) (pk R) k12 l12) j12)) z4
def F1341_L : Nat → List (Nat × TypeDesc) := fun i => match i with
  | 4 => [(1, .pointer 0), (2, .pointer 0), (3, .pointer 0)]
  | 13 => [(2, .pointer 0), (3, .pointer 0), (51, .int .i64), (52, .int .i64)]
  | _ => []
theorem F1341_ok {B : World} {R : Ending → Heap → Prop} (r4 : Bool) (s4 : OA) (t4 u4 : Nat) (v4 : Int) {h : Heap} (H : F1341 B R r4 s4 t4 u4 v4 h) : Ec B 12 #[.agg #[.bool r4, .slice s4 t4 u4, .int .i64 v4]] R h :=
 Ed Tryz.func12 (by kernel_rfl) (by kernel_rfl) (by kernel_rfl) F1341_L [] (by kernel_rfl) H
end Go.Proofs
set_option linter.unusedVariables false
/-! expansion.Parts. -/
namespace Go.Proofs
open Go Go.Eng
variable {B : World} {R : Ending → Heap → Prop} {h : Heap}
theorem num_nz {K : Nat} {neg : Bool} {p : Option Addr} {n : Nat} {e v : Int} (N : NumS K h neg p n e v) : n = 0 ↔ v = 0 := by
  obtain ⟨M, I, a1, a2⟩ := N
  have hl := I.d.len
  have hM : n = 0 ↔ M = 0 := by
    constructor
    · intro h0
      have := digs_val (b := B30) (by decide) M
      rw [List.length_eq_zero_iff.1 (hl.trans h0)] at this
      exact this.symm
    · intro h0
      rw [h0, digs_zero] at hl
      exact hl.symm
  rw [hM, a2]
  have hp : 0 < 2 ^ (e + (K : Int)).toNat := Nat.pow_pos (by decide)
  unfold Ieee.signed
  rw [Nat.shiftLeft_eq]
  constructor
  · intro h0; rw [h0, Nat.zero_mul]; cases neg <;> rfl
  · intro h0
    have : M * 2 ^ (e + (K : Int)).toNat = 0 := by
      generalize M * 2 ^ (e + (K : Int)).toNat = P at *
      cases neg <;> simp at h0 <;> omega
    rcases Nat.mul_eq_zero.1 this with k | k
    · exact k
    · omega
theorem num_lt {K : Nat} {neg : Bool} {p : Option Addr} {n : Nat} {e v : Int} (N : NumS K h neg p n e v) (h0 : v ≠ 0) : ∀ b o, p = some (⟨b, o, none⟩ : Addr) → b < h.size := by
  intro b o e
  have hn := (not_congr (num_nz N)).2 h0
  obtain ⟨M, I, _, _⟩ := N
  rcases I.d.sl with k | ⟨b', o', cs, k1, k2, _⟩
  · exact absurd (by have := I.d.len; rw [k] at this; exact this.symm) hn
  · rw [e] at k1; cases k1; exact k2.lt
/-- An element appended to a list behind g: the list's block alone changes. -/
theorem apJ3 {g h : Heap} {p : Option Addr} {n c r e : Nat} {x : Int} {ws : List Int} {K : Option Addr → Nat → Nat → Heap → Prop} (L : Lj g h p n c ws) (hg : g.size ≤ h.size) (hn : n ≤ 1099511627776) (hx : Own h r #[.int .i64 x]) (hI : I64 x)
    (hk : ∀ q c' h', Lj g h' q (n + 1) c' (ws ++ [x]) → Fr (fun b => g.size ≤ b ∧ ∃ o, p = some (⟨b, o, none⟩ : Addr)) h h' → (∀ b o, q = some (⟨b, o, none⟩ : Addr) → (∃ o, p = some (⟨b, o, none⟩ : Addr)) ∨ h.size ≤ b) → K q (n + 1) c' h') : apW h p n c (some ⟨r, 0, none⟩) 1 1 8 e #[.int .i64 0] K := by
  have hr : Room h p c (fun b => g.size ≤ b ∧ ∃ o, p = some (⟨b, o, none⟩ : Addr)) := by
    rcases L.room with k | ⟨b, o, cs, k1, k2, k3, k4⟩
    · exact .inl k
    · exact .inr ⟨b, o, cs, k1, k2, k3, k4, o, k1⟩
  refine apJ L.sl hr L.len L.le hx (by decide) (fun hlt => ?_) (by omega) rfl (fun _ => L.pt) fun q c' h' s r le f => ?_
  · have := nsc_le hlt
    omega
  · rcases r with e | ⟨b, o, cs, e, e2, e3, e4⟩
    · omega
    · have hgb : g.size ≤ b := by rcases e4 with k | k; exact k.1; omega
      refine hk q c' h' ⟨s, by simp [L.len], .inr ⟨b, o, cs, e, e2, e3, hgb⟩, le, .inr ⟨b, o, e⟩, fun b' o' e' => ?_, fun y hy => ?_⟩ f fun b' o' e' => ?_
      · rw [e] at e'; cases e'; exact hgb
      · rcases List.mem_append.1 hy with hy | hy
        · exact L.all y hy
        · rw [List.mem_singleton.1 hy]; exact hI
      · rw [e] at e'; cases e'
        rcases e4 with k | k
        · exact .inl k.2
        · exact .inr k
end Go.Proofs
set_option linter.unusedVariables false
/-! The nearest float of a number, taken off, leaves less: the parts of any number. -/
namespace Go.Eng
open Go
theorem magK_dbl {k : Nat} (h : 0 < k) : magK (k + 1) ≤ 2 * magK k := by
  unfold magK
  by_cases h1 : k % 4503599627370496 + 1 < 4503599627370496
  · rw [show (k + 1) / 4503599627370496 = k / 4503599627370496 by omega, show (k + 1) % 4503599627370496 = k % 4503599627370496 + 1 by omega]
    split
    · omega
    · rw [← Nat.mul_assoc]; exact Nat.mul_le_mul_right _ (by omega)
  · have e1 : (k + 1) / 4503599627370496 = k / 4503599627370496 + 1 := by omega
    have e2 : (k + 1) % 4503599627370496 = 0 := by omega
    have e3 : k % 4503599627370496 = 4503599627370495 := by omega
    rw [e1, e2, e3, if_neg (show ¬ k / 4503599627370496 + 1 = 0 by omega)]
    by_cases h0 : k / 4503599627370496 = 0
    · rw [if_pos h0, h0]; decide
    · rw [if_neg h0]
      obtain ⟨E, hE⟩ : ∃ E, k / 4503599627370496 = E + 1 := ⟨k / 4503599627370496 - 1, by omega⟩
      rw [hE, show E + 1 - 1 = E by omega, show E + 1 + 1 - 1 = E + 1 by omega, Nat.pow_succ]
      generalize 2 ^ E = p at *
      omega
theorem near_one {m K : Nat} (hK : 1074 ≤ K) (hm : m ≠ 0) (h1 : rung m (-(K : Int)) ≠ 0) (h2 : rung m (-(K : Int)) < 9218868437227405312) :
    ((m : Int) - ((magK (rung m (-(K : Int))) * 2 ^ (K - 1074) : Nat) : Int)).natAbs < m ∧ m < magK 9218868437227405312 * 2 ^ (K - 1074) ∧ 2 ^ (K - 1074) < 2 * m ∧
    (2 * ((m : Int) - ((magK (rung m (-(K : Int))) * 2 ^ (K - 1074) : Nat) : Int)).natAbs ≤ m ∨ 2 * ((m : Int) - ((magK (rung m (-(K : Int))) * 2 ^ (K - 1074) : Nat) : Int)).natAbs < 2 ^ (K - 1074)) := by
  obtain ⟨f1, f2, _⟩ := flo_val hK hm
  have hn := near_val hK hm
  have hs := rung_side m (-(K : Int))
  have hI := inf_lit
  generalize flo m (-(K : Int)) = f at *
  have hr : rung m (-(K : Int)) = f + (incN m (-(K : Int))).toNat := by
    rw [hs] at h2 ⊢
    rw [hI] at *
    omega
  have hfI : f + 1 ≤ 9218868437227405312 ∨ f + 1 = 9218868437227405312 + 1 := by omega
  have hf1 : f < 9218868437227405312 := by omega
  have hu : 0 < 2 ^ (K - 1074) := Nat.pow_pos (by decide)
  have hU : magK (f + 1) ≤ magK 9218868437227405312 := by
    rcases Nat.lt_or_ge (f + 1) 9218868437227405312 with x | x
    · exact Nat.le_of_lt (magK_lt x)
    · rw [show f + 1 = 9218868437227405312 by omega]; exact Nat.le_refl _
  have hb : m < magK 9218868437227405312 * 2 ^ (K - 1074) := Nat.lt_of_lt_of_le f2 (Nat.mul_le_mul_right _ hU)
  cases hi : incN m (-(K : Int))
  · rw [hi] at hr
    have hr : rung m (-(K : Int)) = f := hr
    rw [hr] at h1 ⊢
    have hp : 0 < magK f := by have := magK_lt (k := 0) (j := f) (by omega); rw [magK_zero] at this; exact this
    have hD : 2 ^ (K - 1074) ≤ magK f * 2 ^ (K - 1074) := Nat.le_mul_of_pos_left _ hp
    have hd := Nat.mul_le_mul_right (2 ^ (K - 1074)) (magK_dbl (k := f) (by omega))
    rw [Nat.mul_assoc] at hd
    generalize magK (f + 1) * 2 ^ (K - 1074) = U at *
    generalize magK f * 2 ^ (K - 1074) = D at *
    refine ⟨by omega, hb, by omega, .inl (by omega)⟩
  · rw [hi] at hr hn
    have hr : rung m (-(K : Int)) = f + 1 := hr
    rw [hr]
    have hn := of_decide_eq_true hn.symm
    rcases Nat.eq_zero_or_pos f with z | z
    · subst z
      rw [magK_zero, Nat.zero_mul] at f1 hn
      have e1 : magK (0 + 1) = 1 := by decide
      rw [e1, Nat.one_mul] at f2 hn ⊢
      generalize 2 ^ (K - 1074) = u at *
      refine ⟨by omega, hb, by omega, .inr (by omega)⟩
    · have hp : 0 < magK f := by have := magK_lt (k := 0) (j := f) z; rw [magK_zero] at this; exact this
      have hD : 2 ^ (K - 1074) ≤ magK f * 2 ^ (K - 1074) := Nat.le_mul_of_pos_left _ hp
      have hd := Nat.mul_le_mul_right (2 ^ (K - 1074)) (magK_dbl (k := f) z)
      rw [Nat.mul_assoc] at hd
      generalize magK f * 2 ^ (K - 1074) = D at *
      generalize magK (f + 1) * 2 ^ (K - 1074) = U at *
      refine ⟨by omega, hb, by omega, .inl (by omega)⟩
end Go.Eng
namespace Go.Proofs
open Go Go.Eng
theorem magK_inf {N : Nat} (hN : N = 2046) : magK 9218868437227405312 = 2 ^ (52 + N) := by
  unfold magK
  rw [if_neg (by decide), show (9218868437227405312 : Nat) % 4503599627370496 = 0 by decide, Nat.add_zero, Nat.pow_add, show (2 : Nat) ^ 52 = 4503599627370496 by decide]
  congr 2
  rw [hN]
/-- Taking off the nearest float. -/
theorem part_one {r : Int} {K : Nat} (hK : 1074 ≤ K) (h0 : r ≠ 0) (c0 : cls (toR 0 r K) ≠ 0) (c3 : cls (toR 0 r K) ≠ 3) :
    isFin (toR 0 r K) = true ∧ (r - fV (toR 0 r K) * ((2 ^ (K - 1074) : Nat) : Int)).natAbs < r.natAbs ∧ bl r.natAbs ≤ 1024 + K ∧ K ≤ 1074 + bl r.natAbs ∧ (fV (toR 0 r K) * ((2 ^ (K - 1074) : Nat) : Int)).natAbs ≤ 2 * r.natAbs ∧ 2 ^ (K - 1074) < 2 * r.natAbs ∧
    (2 * (r - fV (toR 0 r K) * ((2 ^ (K - 1074) : Nat) : Int)).natAbs ≤ r.natAbs ∨ 2 * (r - fV (toR 0 r K) * ((2 ^ (K - 1074) : Nat) : Int)).natAbs < 2 ^ (K - 1074)) := by
  obtain ⟨_, _, _, w4, w5⟩ := toR_wf 0 r K
  have hm : r.natAbs ≠ 0 := by omega
  have ed : dirV 0 r (-(K : Int)) = pat (decide (r < 0)) (rung r.natAbs (-(K : Int))) := by
    unfold dirV
    rw [if_neg h0, ← rung_dir]
  have hle := rung_le r.natAbs (-(K : Int))
  have hr0 : rung r.natAbs (-(K : Int)) ≠ 0 := fun e => by
    apply c0
    unfold toR
    rw [ed, e]
    cases decide (r < 0) <;> decide
  have hrI : rung r.natAbs (-(K : Int)) ≠ 9218868437227405312 := fun e => by
    apply c3
    unfold toR
    rw [ed, e]
    cases decide (r < 0) <;> decide
  have hlt : rung r.natAbs (-(K : Int)) < 9218868437227405312 := by omega
  obtain ⟨g1, g2, g3, g4⟩ := near_one hK hm hr0 hlt
  have hf : isFin (toR 0 r K) = true := by
    rw [w4, ed]
    unfold isFin
    rw [pat_fE _ (by omega)]
    exact decide_eq_true (by omega)
  have hv : fV (toR 0 r K) * ((2 ^ (K - 1074) : Nat) : Int) = if r < 0 then -((magK (rung r.natAbs (-(K : Int))) * 2 ^ (K - 1074) : Nat) : Int) else ((magK (rung r.natAbs (-(K : Int))) * 2 ^ (K - 1074) : Nat) : Int) := by
    rw [w5, ed, fV_mag hlt]
    by_cases hn : r < 0
    · rw [decide_eq_true hn, if_pos rfl, if_pos hn, Int.neg_mul, Int.natCast_mul]
    · rw [decide_eq_false hn, if_neg (by decide), if_neg hn, Int.natCast_mul]
  rw [hv]
  generalize magK (rung r.natAbs (-(K : Int))) * 2 ^ (K - 1074) = β at *
  refine ⟨hf, ?_, ?_, ?_, ?_, g3, ?_⟩
  · split <;> omega
  · obtain ⟨N, hN⟩ : ∃ N, N = 2046 := ⟨_, rfl⟩
    rw [magK_inf hN, ← Nat.pow_add] at g2
    exact bl_of_lt g2 (by omega)
  · have h1 : r.natAbs < 2 ^ bl r.natAbs := bl_le_iff.1 (Nat.le_refl _)
    have h2 : 2 ^ (K - 1074) < 2 ^ (bl r.natAbs + 1) := by rw [Nat.pow_succ]; omega
    have := (Nat.pow_lt_pow_iff_right (by decide)).1 h2
    omega
  · split <;> omega
  · rcases g4 with g4 | g4
    · left; split <;> omega
    · right; split <;> omega
def prtF (K : Nat) : Nat → Int → Option (List Int)
  | 0, _ => some []
  | k + 1, r => if r = 0 then some [] else if cls (toR 0 r K) = 0 ∨ cls (toR 0 r K) = 3 then none else (prtF K k (r - fV (toR 0 r K) * ((2 ^ (K - 1074) : Nat) : Int))).map (toR 0 r K :: ·)
/-- The floats of a number, the greatest one first. -/
def prt (K : Nat) (r : Int) : Option (List Int) := prtF K r.natAbs r
theorem prtF_eq {K : Nat} (hK : 1074 ≤ K) : ∀ (k j : Nat) (r : Int), r.natAbs ≤ k → r.natAbs ≤ j → prtF K k r = prtF K j r
  | 0, 0, r, _, _ => rfl
  | 0, j + 1, r, h, _ => by
    have : r = 0 := by omega
    show some [] = (if r = 0 then _ else _); rw [if_pos this]
  | k + 1, 0, r, _, h => by
    have : r = 0 := by omega
    show (if r = 0 then _ else _) = some []; rw [if_pos this]
  | k + 1, j + 1, r, h1, h2 => by
    show (if r = 0 then some [] else if cls (toR 0 r K) = 0 ∨ cls (toR 0 r K) = 3 then none else (prtF K k (r - fV (toR 0 r K) * ((2 ^ (K - 1074) : Nat) : Int))).map (toR 0 r K :: ·)) = (if r = 0 then some [] else if cls (toR 0 r K) = 0 ∨ cls (toR 0 r K) = 3 then none else (prtF K j (r - fV (toR 0 r K) * ((2 ^ (K - 1074) : Nat) : Int))).map (toR 0 r K :: ·))
    by_cases h0 : r = 0
    · rw [if_pos h0, if_pos h0]
    rw [if_neg h0, if_neg h0]
    by_cases hc : cls (toR 0 r K) = 0 ∨ cls (toR 0 r K) = 3
    · rw [if_pos hc, if_pos hc]
    rw [if_neg hc, if_neg hc]
    have hl := (part_one hK h0 (fun e => hc (.inl e)) (fun e => hc (.inr e))).2.1
    rw [prtF_eq hK k j _ (by omega) (by omega)]
theorem prt_zero (K : Nat) : prt K 0 = some [] := rfl
theorem prt_fail {K : Nat} {r : Int} (h0 : r ≠ 0) (hc : cls (toR 0 r K) = 0 ∨ cls (toR 0 r K) = 3) : prt K r = none := by
  unfold prt
  obtain ⟨k, hk⟩ : ∃ k, r.natAbs = k + 1 := ⟨r.natAbs - 1, by omega⟩
  rw [hk]
  show (if r = 0 then _ else _) = _
  rw [if_neg h0, if_pos hc]
theorem prt_step {K : Nat} {r : Int} (hK : 1074 ≤ K) (h0 : r ≠ 0) (hc : ¬ (cls (toR 0 r K) = 0 ∨ cls (toR 0 r K) = 3)) :
    prt K r = (prt K (r - fV (toR 0 r K) * ((2 ^ (K - 1074) : Nat) : Int))).map (toR 0 r K :: ·) := by
  have hl := (part_one hK h0 (fun e => hc (.inl e)) (fun e => hc (.inr e))).2.1
  unfold prt
  obtain ⟨k, hk⟩ : ∃ k, r.natAbs = k + 1 := ⟨r.natAbs - 1, by omega⟩
  rw [hk]
  show (if r = 0 then _ else _) = _
  rw [if_neg h0, if_neg hc, prtF_eq hK k _ _ (by omega) (Nat.le_refl _)]
theorem bl_half {a b : Nat} (h : 2 * a ≤ b) (h0 : a ≠ 0) : bl a + 1 ≤ bl b := by
  have h1 : b < 2 ^ bl b := bl_le_iff.1 (Nat.le_refl _)
  have h2 : 0 < bl b := bl_pos (by omega)
  obtain ⟨k, hk⟩ : ∃ k, bl b = k + 1 := ⟨bl b - 1, by omega⟩
  rw [hk, Nat.pow_succ] at h1
  have : bl a ≤ k := bl_le_iff.2 (by omega)
  omega
end Go.Proofs
set_option linter.unusedVariables false
namespace Go.Eng
open Go
/-- An interval around a finite float. -/
structure EncS (lo hi a : Int) : Prop where
  il : I64 lo
  ih : I64 hi
  nl : isNaN lo = false
  nh : isNaN hi = false
  l : rk lo ≤ rk a
  h : rk a ≤ rk hi
theorem EncS.v {lo hi a : Int} (E : EncS lo hi a) (ia : I64 a) (fa : isFin a = true) : vS lo hi = true := by
  have := fin_rk ia fa
  have := E.l
  have := E.h
  unfold vS
  rw [E.nl, E.nh, decide_eq_true (by omega), decide_eq_true (by omega), decide_eq_true (by omega)]; rfl
theorem PtS.enc {A a : Int} (P : PtS A a) : EncS A A a := ⟨P.i, P.i, P.n, P.n, by rw [P.r]; omega, by rw [P.r]; omega⟩
end Go.Eng
namespace Go.Proofs
open Go Go.Eng
variable {B : World} {R : Ending → Heap → Prop} {h : Heap}
theorem EncS.of {a lo hi : Int} {j k : Nat} (ia : I64 a) (fa : isFin a = true) (D : Dn a lo j) (U : Up a hi k) : EncS lo hi a := by
  have na := (fin_not fa).1
  obtain ⟨d1, d2⟩ := D.2 na
  obtain ⟨u1, u2⟩ := U.2 na
  have := fin_rk ia fa
  exact ⟨D.1, U.1, d1, u1, by omega, by omega⟩
end Go.Proofs
set_option linter.unusedVariables false
namespace Go.Proofs
open Go Go.Eng
variable {B : World} {R : Ending → Heap → Prop} {h : Heap}
theorem NumS.upK {K d : Nat} {neg : Bool} {p : Option Addr} {n : Nat} {e v : Int} (N : NumS 1074 h neg p n e v) (hd : K = 1074 + d) : NumS K h neg p n e (v * ((2 ^ (K - 1074) : Nat) : Int)) := by
  subst hd
  rw [show 1074 + d - 1074 = d by omega]
  exact N.up d
theorem bl_scale {v : Int} {L d : Nat} (h : bl v.natAbs ≤ L) : bl (v * ((2 ^ d : Nat) : Int)).natAbs ≤ L + d := by
  rw [bl_le_iff] at *
  rw [Int.natAbs_mul, Int.natAbs_natCast, Nat.pow_add]
  exact Nat.mul_lt_mul_of_pos_right h (Nat.pow_pos (by decide))
end Go.Proofs
