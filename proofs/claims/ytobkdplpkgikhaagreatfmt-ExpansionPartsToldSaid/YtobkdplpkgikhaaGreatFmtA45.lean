import Derived.Test.YtobkdplpkgikhaaGreatFmtA44
import Derived.Test.YtobkdplpkgikhaaGreatFmtA09
import Derived.Test.YtobkdplpkgikhaaGreatFmtA30
import Derived.Test.YtobkdplpkgikhaaGreatFmtA32
import Derived.Test.YtobkdplpkgikhaaGreatFmtA34
import Derived.Test.YtobkdplpkgikhaaGreatFmtA25
/- Here stand lemmas and contracts, in the order in which they are used. -/
set_option linter.unusedVariables false
set_option linter.unusedVariables false
namespace Go.Eng
open Go
theorem rn_exa (m d : Nat) : rn (m * 2 ^ d) d = m := by
  have := rn_scale m 0 d
  rw [Nat.zero_add, rn_zero] at this
  exact this
/-- A float's own rung. -/
theorem rung_mag {k : Nat} (hk : k ≤ 9218868437227405312) : rung (magK k) (-1074) = k := by
  by_cases h0 : k / 4503599627370496 = 0
  · have hm : magK k = k := by unfold magK; rw [if_pos h0]; omega
    rw [hm]
    by_cases hz : k = 0
    · subst hz; exact rung_zero
    have hl : k.log2 ≤ 51 := by
      have := (Nat.log2_lt (k := 52) hz).2 (by have e : (2 : Nat) ^ 52 = 4503599627370496 := by decide
                                               rw [e]; omega)
      omega
    have hL : lastP k (-1074) = -1074 := by unfold lastP; omega
    unfold rung kpt
    rw [hL]
    show min (0 * 4503599627370496 + rn (k * 2 ^ 0) 0) 9218868437227405312 = k
    rw [Nat.pow_zero, Nat.mul_one, rn_zero]
    omega
  · have hm : magK k = (4503599627370496 + k % 4503599627370496) * 2 ^ (k / 4503599627370496 - 1) := by unfold magK; rw [if_neg h0]
    have hl : (magK k).log2 = 52 + (k / 4503599627370496 - 1) := by
      rw [hm, log2_scale _ (by omega)]
      congr 1
      have e : (2 : Nat) ^ 52 = 4503599627370496 := by decide
      have e3 : (2 : Nat) ^ 53 = 9007199254740992 := by decide
      exact (Nat.log2_eq_iff (by omega)).2 ⟨by rw [e]; omega, by rw [e3]; omega⟩
    have hL : lastP (magK k) (-1074) = -1074 + ((k / 4503599627370496 - 1 : Nat) : Int) := by unfold lastP; rw [hl]; omega
    unfold rung kpt
    rw [hL, show (-1074 + ((k / 4503599627370496 - 1 : Nat) : Int) + 1074).toNat = k / 4503599627370496 - 1 by omega, show (-1074 - (-1074 + ((k / 4503599627370496 - 1 : Nat) : Int))).toNat = 0 by omega, show (-1074 + ((k / 4503599627370496 - 1 : Nat) : Int) - -1074).toNat = k / 4503599627370496 - 1 by omega, Nat.pow_zero, Nat.mul_one, hm, rn_exa]
    omega
/-- bits.Canon: the pattern of what is no NaN. -/
def cnP (a : Int) : Int := addP a 0
theorem cn_rk {a : Int} (ha : I64 a) (hn : isNaN a = false) : rk (cnP a) = rk a ∧ isNaN (cnP a) = false ∧ I64 (cnP a) := by
  obtain ⟨s, k, hk, rfl⟩ := as_pat ha hn
  have hz : isNaN 0 = false ∧ isInf 0 = false ∧ fW 0 = 0 ∧ decide ((0 : Int) < 0) = false := ⟨by decide, by decide, by decide, by decide⟩
  unfold cnP addP plusP
  rw [hn, hz.1, hz.2.1, hz.2.2.1, hz.2.2.2]
  by_cases h : k = 9218868437227405312
  · subst h
    have hi : isInf (pat s 9218868437227405312) = true := by cases s <;> decide +kernel
    rw [hi, pat_neg s (by omega)]
    simp only [Bool.or_self, Bool.and_false, Bool.false_and, Bool.false_eq_true, if_false, if_true]
    exact ⟨trivial, hn, ha⟩
  · have hf : isFin (pat s k) = true := pat_fin (by omega)
    have hi : isInf (pat s k) = false := (fin_not hf).2
    have hw : fW (pat s k) = if s then -(magK k : Int) else (magK k : Int) := by unfold fW; rw [if_pos hf, fV_mag (by omega)]
    rw [hi, hw, pat_neg s (by omega), Int.add_zero]
    simp only [Bool.or_self, Bool.and_false, Bool.false_and, Bool.false_eq_true, if_false]
    have hab : (if s then -(magK k : Int) else (magK k : Int)).natAbs = magK k := by cases s <;> simp
    rw [hab, rung_mag hk]
    by_cases h0 : magK k = 0
    · have hk0 : k = 0 := by
        rcases Nat.eq_zero_or_pos k with h1 | h1
        · exact h1
        · have := magK_lt h1; rw [magK_zero] at this; omega
      subst hk0
      refine ⟨?_, pat_nan (by omega), pat_I64 (by omega)⟩
      rw [rk_pat (by omega), rk_pat (by omega)]
      cases s <;> (split <;> rfl)
    · have e : (if (if s then -(magK k : Int) else (magK k : Int)) = 0 then false else decide ((if s then -(magK k : Int) else (magK k : Int)) < 0)) = s := by
        cases s
        · simp only [Bool.false_eq_true, if_false]; rw [if_neg (by omega), decide_eq_false (by omega)]
        · simp only [if_true]; rw [if_neg (by omega), decide_eq_true (by omega)]
      rw [e]
      exact ⟨rfl, hn, ha⟩
/-- span.Valid. -/
def vS (a b : Int) : Bool := !isNaN a && !isNaN b && decide (rk a ≤ rk b) && decide (rk a < 9218868437227405312) && decide (-9218868437227405312 < rk b)
end Go.Eng
namespace Go.Proofs
open Go Go.Eng
variable {B : World} {R : Ending → Heap → Prop} {h : Heap}
end Go.Proofs
set_option linter.unusedVariables false
namespace Go.Proofs
open Go Go.Eng
variable {B : World} {R : Ending → Heap → Prop} {h : Heap}
/-- The blank interval of package span. -/
def NoneH (h : Heap) : Prop := 0 < h.size ∧ cell? h ⟨0, 0, none⟩ = some (.int .i64 0) ∧ cell? h ⟨0, 1, none⟩ = some (.int .i64 0)
theorem NoneH.ext {h h' : Heap} (H : NoneH h) (f : Ext h h') : NoneH h' := by
  obtain ⟨a, b, c⟩ := H
  refine ⟨Nat.lt_of_lt_of_le a f.size, ?_, ?_⟩
  · unfold cell? at b ⊢; rw [f.same 0 a id]; exact b
  · unfold cell? at c ⊢; rw [f.same 0 a id]; exact c
theorem NoneH.c0 {h : Heap} (H : NoneH h) : cI h 0 0 .i64 0 := H.2.1
theorem NoneH.c1 {h : Heap} (H : NoneH h) : cell? h ⟨0, 0 + 1, none⟩ = some (.int .i64 0) := H.2.2
end Go.Proofs
set_option linter.unusedVariables false
namespace Go.Proofs
open Go Go.Eng
variable {B : World} {R : Ending → Heap → Prop} {h : Heap}
abbrev P1 : Int := 4607182418800017408
abbrev P2 : Int := 4611686018427387904
abbrev P3 : Int := 4613937818241073152
theorem pwOne : Pw P1 0 := ⟨by unfold I64 P1; omega, by decide +kernel, by decide +kernel, by omega⟩
theorem pwTwo : Pw P2 1 := ⟨by unfold I64 P2; omega, by decide +kernel, by decide +kernel, by omega⟩
theorem c11 : cls (addP P1 P1) ≠ 0 := by decide +kernel
theorem c12 : cls (addP P1 P2) ≠ 0 := by decide +kernel
theorem d11 : dirV (1 : Int).toNat (fV P1 + fV P1) (-1074) = P2 := by decide +kernel
theorem d12 : dirV (2 : Int).toNat (fV P1 + fV P2) (-1074) = P3 := by decide +kernel
theorem v11 : (vS P1 P1 && vS P1 P2) = true := by decide +kernel
theorem i1 : I64 P1 := pwOne.1
theorem i2 : I64 P2 := pwTwo.1
theorem i3 : I64 P3 := by unfold I64 P3; omega
end Go.Proofs
set_option linter.unusedVariables false
namespace Go.Eng
open Go
theorem rk_inf {p : Int} (ip : I64 p) (hn : isNaN p = false) (hf : isFin p = false) : rk p = 9218868437227405312 ∨ rk p = -9218868437227405312 := by
  obtain ⟨s, k, hk, rfl⟩ := as_pat ip hn
  by_cases h : k = 9218868437227405312
  · subst h
    rw [rk_pat (by omega)]
    cases s
    · exact .inl rfl
    · exact .inr rfl
  · rw [pat_fin (by omega)] at hf; cases hf
end Go.Eng
namespace Go.Proofs
open Go Go.Eng
variable {B : World} {R : Ending → Heap → Prop} {h : Heap}
end Go.Proofs
set_option linter.unusedVariables false
namespace Go.Eng
open Go
/-- What stands behind what was written stands as it stood. -/
theorem Wrote.rest {k : IntKind} {h0 h : Heap} {b o : Nat} {zs xs : List Nat} (W : Wrote k h0 h b o zs) (hx : Sl k h0 (some ⟨b, o, none⟩) xs) (hl : zs.length ≤ xs.length) : Wrote k h0 h b o (zs ++ xs.drop zs.length) := by
  rcases hx with hx | ⟨b', o', cs', e1, e2, e3⟩
  · subst hx
    have : zs = [] := List.eq_nil_of_length_eq_zero (by simpa using hl)
    subst this; exact W
  · cases e1
    obtain ⟨c0, cs, e, h1, h2, h3, h4, h5⟩ := W.blk
    have : cs' = c0 := e2.inj ⟨e, h1⟩
    subst this
    refine ⟨W.size, W.same, cs', cs, e, h1, h2, h3, fun j hj => h4 j ?_, fun j hj => ?_⟩
    · rw [List.length_append, List.length_drop] at hj; omega
    · rw [List.length_append, List.length_drop] at hj
      by_cases hz : j < zs.length
      · rw [List.getElem_append_left hz]; exact h5 j hz
      · rw [List.getElem_append_right (by omega), List.getElem_drop, h4 (o + j) (by omega), e3 j (by omega)]
        congr 4; omega
end Go.Eng
namespace Go.Proofs
open Go Go.Eng
variable {B : World} {R : Ending → Heap → Prop} {h : Heap}
end Go.Proofs
set_option linter.unusedVariables false
namespace Go.Proofs
open Go Go.Eng
variable {B : World} {R : Ending → Heap → Prop} {h : Heap}
theorem Dst.more {pz : Option Addr} {zc : Nat} {S T : Nat → Prop} (hz : Dst h pz zc S) (hs : ∀ b, S b → T b) : Dst h pz zc T :=
  ⟨hz.pt, hz.lim, by rcases hz.room with e | ⟨b, o, cs, e1, e2, e3, e4⟩; exact .inl e; exact .inr ⟨b, o, cs, e1, e2, e3, hs b e4⟩⟩
end Go.Proofs
namespace Go.Proofs.Wide
open Go Go.Eng
/-- (math/big.nat).mul -/
def F208_j55 (B : World) (R : Po) (a0 : OA) (b0 c0 : Nat) (d0 e0 : OA) (f0 g0 : Nat) (i0 : OA) (j0 k0 : Nat) (l0 m0 : Int) (n0 : Heap) : Prop :=
 Ec B 152 #[.slice a0 b0 c0, .int .i64 (IntKind.i64.wrap (l0 + m0))] (retE (fun o0 p0 => ∃ q0 r0 s0, o0 = .slice q0 r0 s0 ∧
 iP 6 0 fun t0 u0 => ∃ v0, cI p0 t0 u0 .i64 v0 ∧
((decide (m0 < v0)) = true →
 Ec B 191 #[.slice q0 r0 s0, .slice e0 f0 g0, .slice i0 j0 k0] (retE (fun w0 x0 => w0 = .tuple #[] ∧
 Ec B 162 #[.slice q0 r0 s0] (retE (fun y0 z0 => ∃ a1 b1 c1, y0 = .slice a1 b1 c1 ∧
 R (.returned (.slice a1 b1 c1)) z0)
(pk R)) x0)
(pk R)) p0) ∧
((decide (m0 < v0)) = false →
 pEq p0 d0 none fun d1 =>
(d1 = true →
 Ec B 192 #[] (retE (fun e1 f1 => ∃ g1, e1 = .pointer g1 ∧
 False)
(pk R)) p0) ∧
(d1 = false →
 False)))
(pk R)) n0
def F208_j46 (B : World) (R : Po) (i1 : OA) (j1 k1 : Nat) (l1 m1 : OA) (n1 o1 : Nat) (p1 : OA) (q1 r1 : Nat) (s1 t1 : Int) (u1 : Bool) (v1 : Heap) : Prop :=
(u1 = true →
 F208_j55 B R none 0 0 l1 m1 n1 o1 p1 q1 r1 s1 t1 v1) ∧
(u1 = false →
 F208_j55 B R i1 j1 k1 l1 m1 n1 o1 p1 q1 r1 s1 t1 v1)
def F208_j19 (B : World) (R : Po) (w1 : OA) (x1 y1 : Nat) (z1 a2 : OA) (b2 c2 : Nat) (d2 : OA) (e2 f2 : Nat) (g2 i2 : Int) (j2 : Bool) (k2 : Heap) : Prop :=
(j2 = true →
 slW x1 y1 none (some (.int .i64 (0 : Int))) none fun l2 m2 n2 =>
 R (.returned (.slice (slP w1 l2 n2 1) (m2 - l2) (n2 - l2))) k2) ∧
(j2 = false →
((decide (i2 = (1 : Int))) = true →
 ixW d2 e2 (0 : Int) 1 fun o2 p2 =>
 iP o2 p2 fun q2 r2 => ∃ s2, cI k2 q2 r2 .u64 s2 ∧
 Ec B 196 #[.slice w1 x1 y1, .slice a2 b2 c2, .int .u64 s2, .int .u64 (0 : Int)] (retE (fun t2 u2 => ∃ v2 w2 x2, t2 = .slice v2 w2 x2 ∧
 R (.returned (.slice v2 w2 x2)) u2)
(pk R)) k2) ∧
((decide (i2 = (1 : Int))) = false →
 Ec B 165 #[.slice w1 x1 y1, .slice a2 b2 c2] (retE (fun y2 z2 => ∃ a3, y2 = .bool a3 ∧
(a3 = true →
 F208_j46 B R w1 x1 y1 z1 a2 b2 c2 d2 e2 f2 g2 i2 true z2) ∧
(a3 = false →
 Ec B 165 #[.slice w1 x1 y1, .slice d2 e2 f2] (retE (fun b3 c3 => ∃ d3, b3 = .bool d3 ∧
 F208_j46 B R w1 x1 y1 z1 a2 b2 c2 d2 e2 f2 g2 i2 d3 c3)
(pk R)) z2))
(pk R)) k2))
def F208_j10 (B : World) (R : Po) (e3 : OA) (f3 g3 : Nat) (i3 j3 : OA) (k3 l3 : Nat) (m3 : OA) (n3 o3 : Nat) (p3 q3 : Int) (r3 : Bool) (s3 : Heap) : Prop :=
 F208_j19 B R e3 f3 g3 i3 j3 k3 l3 m3 n3 o3 p3 q3 r3 s3
def F208 (B : World) (R : Po) (t3 : OA) (u3 v3 : Nat) (w3 x3 : OA) (y3 z3 : Nat) (a4 : OA) (b4 c4 : Nat) (h : Heap) : Prop :=
((decide ((y3 : Int) < (b4 : Int))) = true →
 Ec B 188 #[.slice t3 u3 v3, .pointer w3, .slice a4 b4 c4, .slice x3 y3 z3] (retE (fun d4 e4 => ∃ f4 g4 i4, d4 = .slice f4 g4 i4 ∧
 R (.returned (.slice f4 g4 i4)) e4)
(pk R)) h) ∧
((decide ((y3 : Int) < (b4 : Int))) = false →
((decide ((y3 : Int) = (0 : Int))) = true →
 F208_j10 B R t3 u3 v3 w3 x3 y3 z3 a4 b4 c4 (y3 : Int) (b4 : Int) true h) ∧
((decide ((y3 : Int) = (0 : Int))) = false →
 F208_j10 B R t3 u3 v3 w3 x3 y3 z3 a4 b4 c4 (y3 : Int) (b4 : Int) (decide ((b4 : Int) = (0 : Int))) h))
def F208_L : Nat → List (Nat × TypeDesc) := fun _ => []
theorem F208_ok {B : World} {R : Ending → Heap → Prop} (t3 : OA) (u3 v3 : Nat) (w3 x3 : OA) (y3 z3 : Nat) (a4 : OA) (b4 c4 : Nat) {h : Heap} (H : F208 B R t3 u3 v3 w3 x3 y3 z3 a4 b4 c4 h) : Ec B 188 #[.slice t3 u3 v3, .pointer w3, .slice x3 y3 z3, .slice a4 b4 c4] R h :=
 Ek Tryz.func188 (by kernel_rfl) (by kernel_rfl) (by kernel_rfl) F208_L [17, 18, 19, 20, 21, 22, 23, 24, 25, 26, 27, 28] (by kernel_rfl) H
end Go.Proofs.Wide
set_option linter.unusedVariables false
namespace Go.Proofs
open Go Go.Eng
variable {B : World} {R : Ending → Heap → Prop} {h : Heap}
/-- The variable karatsubaThreshold. -/
def TabK (h : Heap) : Prop := 6 < h.size ∧ cell? h ⟨6, 0, none⟩ = some (.int .i64 40)
theorem TabK.ext {h h' : Heap} (H : TabK h) (f : Ext h h') : TabK h' :=
  ⟨Nat.lt_of_lt_of_le H.1 f.size, by have e := H.2; unfold cell? at e ⊢; rw [f.same _ H.1 id]; exact e⟩
end Go.Proofs
set_option linter.unusedVariables false
namespace Go.Proofs
open Go Go.Eng
variable {B : World} {R : Ending → Heap → Prop} {h : Heap}
theorem dirV_I64 (w : Nat) (m e : Int) : I64 (dirV w m e) := by
  unfold dirV; split
  · unfold I64; omega
  · have := dirP_le w (decide (m < 0)) m.natAbs e
    have hI : INF = 9218868437227405312 := rfl
    exact pat_I64 (by omega)
end Go.Proofs
set_option linter.unusedVariables false
namespace Go.Eng
open Go
theorem dirV_nan (w : Nat) (m e : Int) : isNaN (dirV w m e) = false := by
  unfold dirV; split
  · decide
  · exact pat_nan (dirP_le _ _ _ _)
end Go.Eng
namespace Go.Proofs
open Go Go.Eng
variable {B : World} {R : Ending → Heap → Prop} {h : Heap}
end Go.Proofs
set_option linter.unusedVariables false
namespace Go.Eng
open Go
theorem cn_nz {a : Int} (ha : I64 a) (hn : isNaN a = false) : cnP a ≠ -9223372036854775808 := by
  obtain ⟨s, k, hk, rfl⟩ := as_pat ha hn
  have hz : isNaN 0 = false ∧ isInf 0 = false ∧ fW 0 = 0 ∧ decide ((0 : Int) < 0) = false := ⟨by decide, by decide, by decide, by decide⟩
  unfold cnP addP plusP
  rw [hn, hz.1, hz.2.1, hz.2.2.1, hz.2.2.2]
  by_cases h : k = 9218868437227405312
  · subst h
    have hi : isInf (pat s 9218868437227405312) = true := by cases s <;> decide +kernel
    rw [hi, pat_neg s (by omega)]
    simp only [Bool.or_self, Bool.and_false, Bool.false_and, Bool.false_eq_true, if_false, if_true]
    cases s <;> decide
  · have hf : isFin (pat s k) = true := pat_fin (by omega)
    have hi : isInf (pat s k) = false := (fin_not hf).2
    have hw : fW (pat s k) = if s then -(magK k : Int) else (magK k : Int) := by unfold fW; rw [if_pos hf, fV_mag (by omega)]
    rw [hi, hw, pat_neg s (by omega), Int.add_zero]
    simp only [Bool.or_self, Bool.and_false, Bool.false_and, Bool.false_eq_true, if_false]
    have hab : (if s then -(magK k : Int) else (magK k : Int)).natAbs = magK k := by cases s <;> simp
    rw [hab, rung_mag hk]
    by_cases h0 : k = 0
    · subst h0
      rw [magK_zero]
      cases s <;> decide
    · unfold pat
      split <;> omega
/-- An interval that was told: ends that are no NaNs, canonical, in order. -/
structure TolS (lo hi : Int) : Prop where
  il : I64 lo
  ih : I64 hi
  nl : isNaN lo = false
  nh : isNaN hi = false
  zl : lo ≠ -9223372036854775808
  zh : hi ≠ -9223372036854775808
  v : vS lo hi = true
theorem TolS.mk' {x y : Int} (ix : I64 x) (iy : I64 y) (nx : isNaN x = false) (ny : isNaN y = false) (h1 : rk x ≤ rk y) (h2 : rk x < 9218868437227405312) (h3 : -9218868437227405312 < rk y) : TolS (cnP x) (cnP y) := by
  obtain ⟨a1, a2, a3⟩ := cn_rk ix nx
  obtain ⟨b1, b2, b3⟩ := cn_rk iy ny
  refine ⟨a3, b3, a2, b2, cn_nz ix nx, cn_nz iy ny, ?_⟩
  unfold vS
  rw [a2, b2, a1, b1, decide_eq_true h1, decide_eq_true h2, decide_eq_true h3]; rfl
end Go.Eng
namespace Go.Proofs
open Go Go.Eng
variable {B : World} {R : Ending → Heap → Prop} {h : Heap}
end Go.Proofs
set_option linter.unusedVariables false
namespace Go.Proofs
open Go Go.Eng
variable {B : World} {R : Ending → Heap → Prop} {h : Heap}
/-- So many places below, and above. -/
def Dn (b x : Int) (j : Nat) : Prop := I64 x ∧ (isNaN b = false → isNaN x = false ∧ rk x = max (rk b - j) (-9218868437227405312))
def Up (b x : Int) (j : Nat) : Prop := I64 x ∧ (isNaN b = false → isNaN x = false ∧ rk x = min (rk b + j) 9218868437227405312)
end Go.Proofs
set_option linter.unusedVariables false
/-! What is told of a number lies on its side of it. -/
namespace Go.Eng
open Go
theorem fin_pat {s : Bool} {k : Nat} (hk : k ≤ 9218868437227405312) (h : isFin (pat s k) = true) : k < 9218868437227405312 := by
  unfold isFin at h
  rw [pat_fE s (by omega), decide_eq_true_eq] at h
  omega
theorem inf_lit : INF = 9218868437227405312 := rfl
end Go.Eng
set_option linter.unusedVariables false
/-! Products of ends keep the order. -/
namespace Go.Eng
open Go
theorem fin_rk {a : Int} (ia : I64 a) (fa : isFin a = true) : -9218868437227405312 < rk a ∧ rk a < 9218868437227405312 := by
  obtain ⟨s, k, hk, rfl⟩ := as_pat ia (fin_not fa).1
  have hk := fin_pat hk fa
  rw [rk_pat (by omega)]
  cases s <;> simp only [Bool.false_eq_true, if_false, if_true] <;> omega
end Go.Eng
namespace Go.Proofs
open Go Go.Eng
theorem mid {r s t u : Int} (m : (0 ≤ r → s ≤ u) ∧ (r ≤ 0 → u ≤ s)) (n : (0 ≤ r → u ≤ t) ∧ (r ≤ 0 → t ≤ u)) : min s t ≤ u ∧ u ≤ max s t := by
  rcases Int.le_total 0 r with h | h
  · have := m.1 h; have := n.1 h; omega
  · have := m.2 h; have := n.2 h; omega
end Go.Proofs
set_option linter.unusedVariables false
/-! Sums of ends keep the order. -/
namespace Go.Eng
open Go
theorem fin_of_rk {a : Int} (ia : I64 a) (na : isNaN a = false) (h1 : -9218868437227405312 < rk a) (h2 : rk a < 9218868437227405312) : isFin a = true := by
  cases hf : isFin a
  · rcases rk_inf ia na hf with h | h <;> omega
  · rfl
end Go.Eng
namespace Go.Proofs
open Go Go.Eng
theorem rk_pz (a : Int) : rk (pz a) = rk a := by
  unfold pz
  by_cases h : a = -9223372036854775808
  · rw [if_pos h, h]; rfl
  · rw [if_neg h]
end Go.Proofs
set_option linter.unusedVariables false
/-! What is told of single floats; what an exact number lies in. -/
namespace Go.Eng
open Go
/-- What is told of a float: one that is no nought below 0. -/
structure PtS (A a : Int) : Prop where
  i : I64 A
  n : isNaN A = false
  z : A ≠ -9223372036854775808
  r : rk A = rk a
theorem PtS.fin {A a : Int} (P : PtS A a) (ia : I64 a) (fa : isFin a = true) : isFin A = true :=
  fin_of_rk P.i P.n (by rw [P.r]; exact (fin_rk ia fa).1) (by rw [P.r]; exact (fin_rk ia fa).2)
theorem PtS.val {A a : Int} (P : PtS A a) (ia : I64 a) (fa : isFin a = true) : fV A = fV a := (fV_rk P.i ia (P.fin ia fa) fa).2.2 P.r
theorem PtS.of {x a : Int} (ix : I64 x) (nx : isNaN x = false) (h : rk x = rk a) : PtS (cnP x) a := by
  obtain ⟨h1, h2, h3⟩ := cn_rk ix nx
  exact ⟨h3, h2, cn_nz ix nx, by rw [h1, h]⟩
end Go.Eng
namespace Go.Proofs
open Go Go.Eng
end Go.Proofs
set_option linter.unusedVariables false
namespace Go.Eng
open Go
theorem Dv.mul {i j : Nat} {x y : Int} (a : Dv i x) (b : Dv j y) : Dv (i + j) (x * y) := by
  obtain ⟨z, rfl⟩ := a; obtain ⟨w, rfl⟩ := b
  exact ⟨z * w, by rw [Nat.pow_add, Int.natCast_mul]; ac_rfl⟩
theorem Dv.split {i W : Nat} {x : Int} (a : Dv (i + W) x) : ∃ z, x = z * ((2 ^ W : Nat) : Int) ∧ Dv i z := by
  obtain ⟨z, rfl⟩ := a
  exact ⟨z * ((2 ^ i : Nat) : Int), by rw [Nat.pow_add, Int.natCast_mul, Int.mul_assoc], ⟨z, rfl⟩⟩
end Go.Eng
namespace Go.Proofs
open Go Go.Eng
end Go.Proofs
set_option linter.unusedVariables false
namespace Go.Eng
open Go
theorem rk_pz (x : Int) : rk (Go.Proofs.pz x) = rk x := by
  unfold Go.Proofs.pz
  split
  · rename_i h; subst h; decide
  · rfl
end Go.Eng
namespace Go.Eng
open Go
end Go.Eng
namespace Go.Proofs
open Go Go.Eng
end Go.Proofs
set_option linter.unusedVariables false
/-! Rounding in four ways: neighbours around the number, the nearest, signs, order. -/
namespace Go.Proofs
open Go Go.Eng
theorem pz_wf {a : Int} (ia : I64 a) (na : isNaN a = false) : I64 (pz a) ∧ isNaN (pz a) = false ∧ isFin (pz a) = isFin a ∧ fV (pz a) = fV a := by
  unfold pz
  split
  · rename_i h
    subst h
    exact ⟨by unfold I64; omega, by decide, by decide, by decide⟩
  · exact ⟨ia, na, rfl, rfl⟩
/-- What round.To tells. -/
def toR (w : Nat) (v : Int) (K : Nat) : Int := pz (dirV w v (-(K : Int)))
theorem toR_wf (w : Nat) (v : Int) (K : Nat) : I64 (toR w v K) ∧ isNaN (toR w v K) = false ∧ rk (toR w v K) = rk (dirV w v (-(K : Int))) ∧ isFin (toR w v K) = isFin (dirV w v (-(K : Int))) ∧ fV (toR w v K) = fV (dirV w v (-(K : Int))) := by
  obtain ⟨a, b, c, d⟩ := pz_wf (dirV_I64 w v (-(K : Int))) (dirV_nan w v (-(K : Int)))
  exact ⟨a, b, rk_pz _, c, d⟩
end Go.Proofs
namespace Go.Proofs
open Go Go.Eng
/-- plumb/dyadic.Sub -/
def F44_j64 (B : World) (R : Po) (a0 b0 c0 : OA) (d0 e0 : Nat) (f0 : OA) (g0 : Heap) : Prop :=
 Ec B 57 #[.slice c0 d0 e0] (retE (fun i0 j0 => ∃ k0 l0, i0 = .agg #[.pointer k0, .int .i64 l0] ∧
 Ec B 56 #[.agg #[.pointer k0, .int .i64 l0]] (retE (fun m0 n0 => ∃ o0 p0 q0 r0 s0, m0 = .agg #[.bool o0, .slice p0 q0 r0, .int .i64 s0] ∧
 isP a0 fun t0 u0 => stC n0 t0 u0 (.bool o0) fun v0 =>
 stC v0 t0 (u0 + 1) (.slice p0 q0 r0) fun w0 =>
 stC w0 t0 (u0 + 1 + 1) (.int .i64 s0) fun x0 =>
 isP b0 fun y0 z0 => stC x0 y0 z0 (.int .i64 (0 : Int)) fun a1 =>
 Enters Tryz.prog 52 ∧ FnD Tryz.prog B 52 #[.pointer f0] .returning (dfE fun b1 c1 => lvW (fun d1 => isP a0 fun e1 f1 =>
∃ g1, cell? d1 ⟨e1, f1, none⟩ = some (.bool g1) ∧
∃ i1 j1 k1, cell? d1 ⟨e1, f1 + 1, none⟩ = some (.slice i1 j1 k1) ∧
∃ l1, cell? d1 ⟨e1, f1 + 1 + 1, none⟩ = some (.int .i64 l1) ∧
 isP b0 fun m1 n1 => ∃ o1, cI d1 m1 n1 .i64 o1 ∧
 R (.returned (.tuple #[.agg #[.bool g1, .slice i1 j1 k1, .int .i64 l1], .int .i64 o1])) d1) (pk R) b1 c1) a1)
(fun p1 q1 => Enters Tryz.prog 52 ∧ FnD Tryz.prog B 52 #[.pointer f0] (.panicking p1) (dfE fun r1 s1 => lvW (fun t1 => isP a0 fun u1 v1 =>
∃ w1, cell? t1 ⟨u1, v1, none⟩ = some (.bool w1) ∧
∃ x1 y1 z1, cell? t1 ⟨u1, v1 + 1, none⟩ = some (.slice x1 y1 z1) ∧
∃ a2, cell? t1 ⟨u1, v1 + 1 + 1, none⟩ = some (.int .i64 a2) ∧
 isP b0 fun b2 c2 => ∃ d2, cI t1 b2 c2 .i64 d2 ∧
 R (.returned (.tuple #[.agg #[.bool w1, .slice x1 y1 z1, .int .i64 a2], .int .i64 d2])) t1) (pk R) r1 s1) q1)) j0)
(fun e2 f2 => Enters Tryz.prog 52 ∧ FnD Tryz.prog B 52 #[.pointer f0] (.panicking e2) (dfE fun g2 i2 => lvW (fun j2 => isP a0 fun k2 l2 =>
∃ m2, cell? j2 ⟨k2, l2, none⟩ = some (.bool m2) ∧
∃ n2 o2 p2, cell? j2 ⟨k2, l2 + 1, none⟩ = some (.slice n2 o2 p2) ∧
∃ q2, cell? j2 ⟨k2, l2 + 1 + 1, none⟩ = some (.int .i64 q2) ∧
 isP b0 fun r2 s2 => ∃ t2, cI j2 r2 s2 .i64 t2 ∧
 R (.returned (.tuple #[.agg #[.bool m2, .slice n2 o2 p2, .int .i64 q2], .int .i64 t2])) j2) (pk R) g2 i2) f2)) g0
def F44 (B : World) (R : Po) (u2 : Bool) (v2 : OA) (w2 x2 : Nat) (y2 : Int) (z2 : Bool) (a3 : OA) (b3 c3 : Nat) (d3 : Int) (h : Heap) : Prop :=
 alW h (.cells #[.bool u2, .slice v2 w2 x2, .int .i64 y2] 24) fun e3 f3 =>
 alW f3 (.cells #[.bool z2, .slice a3 b3 c3, .int .i64 d3] 24) fun g3 i3 =>
 alW i3 (.cells #[.bool false, .slice none 0 0, .int .i64 0] 24) fun j3 k3 =>
 alW k3 (.cells #[.int .i64 0] 32) fun l3 m3 =>
 iP e3 0 fun n3 o3 =>
∃ p3, cell? m3 ⟨n3, o3, none⟩ = some (.bool p3) ∧
∃ q3 r3 s3, cell? m3 ⟨n3, o3 + 1, none⟩ = some (.slice q3 r3 s3) ∧
∃ t3, cell? m3 ⟨n3, o3 + 1 + 1, none⟩ = some (.int .i64 t3) ∧
 iP g3 0 fun u3 v3 =>
∃ w3, cell? m3 ⟨u3, v3, none⟩ = some (.bool w3) ∧
∃ x3 y3 z3, cell? m3 ⟨u3, v3 + 1, none⟩ = some (.slice x3 y3 z3) ∧
∃ a4, cell? m3 ⟨u3, v3 + 1 + 1, none⟩ = some (.int .i64 a4) ∧
 alW m3 (.cells #[.bool p3, .slice q3 r3 s3, .int .i64 t3, .bool w3, .slice x3 y3 z3, .int .i64 a4] 24) fun b4 c4 =>
 Ec B 54 #[.slice (some ⟨b4, 0, none⟩) 2 2] (retE (fun d4 e4 => ∃ f4 g4 i4, d4 = .slice f4 g4 i4 ∧
 ixW f4 g4 (1 : Int) 2 fun j4 k4 =>
 iP j4 k4 fun l4 m4 =>
 iP l4 m4 fun n4 o4 => ∃ p4, cell? e4 ⟨n4, o4, none⟩ = some (.pointer p4) ∧
 ixW f4 g4 (1 : Int) 2 fun q4 r4 =>
 iP q4 r4 fun s4 t4 =>
 iP s4 t4 fun u4 v4 => ∃ w4, cell? e4 ⟨u4, v4, none⟩ = some (.pointer w4) ∧
 Ec B 55 #[.pointer p4, .pointer w4] (retE (fun x4 y4 => ∃ z4, x4 = .pointer z4 ∧
 F44_j64 B R (some ⟨j3, 0, none⟩) (some ⟨l3, 0, none⟩) f4 g4 i4 (some ⟨l3, 0, none⟩) y4)
(fun _ _ => False)) e4)
(fun a5 b5 => Enters Tryz.prog 52 ∧ FnD Tryz.prog B 52 #[.pointer (some ⟨l3, 0, none⟩)] (.panicking a5) (dfE fun c5 d5 => lvW (fun e5 => iP j3 0 fun f5 g5 =>
∃ i5, cell? e5 ⟨f5, g5, none⟩ = some (.bool i5) ∧
∃ j5 k5 l5, cell? e5 ⟨f5, g5 + 1, none⟩ = some (.slice j5 k5 l5) ∧
∃ m5, cell? e5 ⟨f5, g5 + 1 + 1, none⟩ = some (.int .i64 m5) ∧
 iP l3 0 fun n5 o5 => ∃ p5, cI e5 n5 o5 .i64 p5 ∧
 R (.returned (.tuple #[.agg #[.bool i5, .slice j5 k5 l5, .int .i64 m5], .int .i64 p5])) e5) (pk R) c5 d5) b5)) c4
def F44_L : Nat → List (Nat × TypeDesc) := fun _ => []
theorem F44_ok {B : World} {R : Ending → Heap → Prop} (u2 : Bool) (v2 : OA) (w2 x2 : Nat) (y2 : Int) (z2 : Bool) (a3 : OA) (b3 c3 : Nat) (d3 : Int) {h : Heap} (H : F44 B R u2 v2 w2 x2 y2 z2 a3 b3 c3 d3 h) : Ec B 31 #[.agg #[.bool u2, .slice v2 w2 x2, .int .i64 y2], .agg #[.bool z2, .slice a3 b3 c3, .int .i64 d3]] R h :=
 Ed Tryz.func31 (by kernel_rfl) (by kernel_rfl) (by kernel_rfl) F44_L [] (by kernel_rfl) H
end Go.Proofs
set_option linter.unusedVariables false
namespace Go.Proofs
open Go Go.Eng
variable {B : World} {R : Ending → Heap → Prop} {h : Heap}
/-- dyadic.Sub. -/
theorem K44 {K n c n2 c2 : Nat} {neg neg2 : Bool} {p p2 : Option Addr} {e e2 v w : Int} (ht : TabH h) (N1 : NumS K h neg p n e v) (N2 : NumS K h neg2 p2 n2 e2 w) (hK : K ≤ 1048576) (hv : bl v.natAbs ≤ 50000) (hw : bl w.natAbs ≤ 50000)
    (H : ∀ neg' p' n' c' e' h', Ext h h' → Fresh h p' → NumS K h' neg' p' n' e' (v - w) → R (.returned (.tuple #[.agg #[.bool neg', .slice p' n' c', .int .i64 e'], .int .i64 (0 : Int)])) h') :
    Ent Tryz.prog B 31 #[.agg #[.bool neg, .slice p n c, .int .i64 e], .agg #[.bool neg2, .slice p2 n2 c2, .int .i64 e2]] R h := by
  refine F44_ok _ _ _ _ _ _ _ _ _ _ (alK fun r7 h8 e7 f7 o7 z7 => alK fun r9 h10 e9 f9 o9 z9 => alK fun r11 h12 e11 f11 o11 z11 => alK fun r13 h14 e13 f13 o13 z13 => ?_)
  have O7 := ((o7.ext f9).ext f11).ext f13
  have O9 := (o9.ext f11).ext f13
  refine ⟨r7, 0, rfl, _, O7.cell _, _, _, _, O7.cell _, _, O7.cell _, r9, 0, rfl, _, O9.cell _, _, _, _, O9.cell _, _, O9.cell _, alK fun r23 h24 e23 f23 o23 z23 => ?_⟩
  have F := Ext.trans f7 (Ext.trans f9 (Ext.trans f11 (Ext.trans f13 f23)))
  refine K67 (numL2 o23 (N1.ext F) (N2.ext F)) rfl (by decide) fun xs h26 f26 X => ⟨_, _, _, rfl, ?_⟩
  obtain ⟨x0, x1, rfl⟩ := two_of X.len
  obtain ⟨cs, Ob, hc⟩ := X.own
  obtain ⟨c10, c11⟩ := hc 1 (by simp)
  obtain ⟨⟨I0, y1, y2, y3, y5⟩, b0, b1⟩ := X.at_ 0 (by simp) (by simp)
  obtain ⟨⟨I1, w1, w2, w3, w5⟩, d0, d1⟩ := X.at_ 1 (by simp) (by simp)
  obtain ⟨a1, a2, a3, a4⟩ := X.apart 0 1 (by decide) (by simp)
  simp only [List.getElem_cons_zero, List.getElem_cons_succ] at c10 c11 I0 y1 y2 y3 y5 b0 b1 I1 w1 w2 w3 w5 d0 d1 a1 a2 a3 a4
  refine ⟨h24.size, 0, rfl, by decide, by decide, h24.size, _, rfl, h24.size, _, rfl, _, by rw [Ob.cell]; exact c10, h24.size, 0, rfl, by decide, by decide, h24.size, _, rfl, h24.size, _, rfl, _, by rw [Ob.cell]; exact c10, ?_⟩
  refine K74i I1 fun q' h53 f53 d53 I53 => ⟨_, rfl, ?_⟩
  have l1 := I1.lt
  have lq := I1.lq
  have lb := Ob.lt
  have nS : ∀ x, x < x1.r → x < x1.q → ¬ (x = x1.r ∨ Rm x1.r x1.q x) := fun x h1 h2 hh => by
    rcases hh with hh | hh
    · omega
    · have := hh.1; omega
  have hq' : x1.r ≤ q' ∨ x1.q ≤ q' := by
    rcases d53 with e | e | e
    · omega
    · have := e.1; omega
    · omega
  have X' : ExL K h53 h24.size [x0, ⟨x1.r, q', -x1.m, x1.e⟩] [v, -w] := by
    refine ⟨rfl, ⟨cs, Ob.fr f53 (nS _ d0 d1), fun i hi => ?_⟩, fun i hi hv => ?_, fun i j hij hj => ?_⟩
    · have hi' : i < 2 := hi
      rcases (by omega : i = 0 ∨ i = 1) with rfl | rfl
      · exact hc 0 (by simp)
      · exact hc 1 (by simp)
    · have hi' : i < 2 := hi
      rcases (by omega : i = 0 ∨ i = 1) with rfl | rfl
      · exact ⟨⟨I0.fr f53 (nS _ a1 a3) (nS _ a2 a4), y1, y2, y3, y5⟩, b0, b1⟩
      · refine ⟨⟨I53, w1, w2, ?_, ?_⟩, d0, by show h24.size < q'; rcases hq' with e | e <;> omega⟩
        · show -w = -x1.m * 2 ^ (x1.e + (K : Int)).toNat
          rw [Int.neg_mul, ← w3]
        · show -x1.m = 0 ∨ (-x1.m).natAbs % 2 = 1
          rw [Int.natAbs_neg]; omega
    · have hj' : j < 2 := hj
      have hi0 : i = 0 := by omega
      have hj1 : j = 1 := by omega
      subst hi0 hj1
      exact ⟨a1, a2, by show x0.r < q'; rcases hq' with e | e <;> omega, by show x0.q < q'; rcases hq' with e | e <;> omega⟩
  have hw' : bl (-w).natAbs ≤ 50000 := by rw [Int.natAbs_neg]; exact hw
  refine K66 X' rfl (by decide) hK (fun i _ => Nat.le_trans (take2_bl hv hw' i) (by decide)) (fun x hx => ?_) fun r q m e' h64 f64 I he hs => ⟨_, _, rfl, ?_⟩
  · rcases List.mem_cons.1 hx with e | hx
    · rw [e]; omega
    · rw [List.mem_singleton.1 hx, Int.natAbs_neg]; omega
  have hsum : [v, -w].sum = v - w := by simp; omega
  rw [hsum] at hs
  have s24 := F.size
  have F53 : Ext h h53 := Fr.trans (S := fun _ => False) (Ext.trans F f26) f53 fun x hx k => nS x (by omega) (by omega) k
  have FF := Ext.trans F53 f64
  have o11b : Own h64 r11 #[.bool false, .slice none 0 0, .int .i64 0] := ((((o11.ext f13).ext f23).ext f26).fr f53 (nS _ (by omega) (by omega))).ext f64
  have o13b : Own h64 r13 #[.int .i64 0] := (((o13.ext f23).ext f26).fr f53 (nS _ (by omega) (by omega))).ext f64
  refine K65 (ht.ext FF) I he hs (by rw [Int.sub_eq_add_neg]; exact Nat.le_trans (bl_add hv hw') (by decide)) hK fun neg' p' n' c' e' h65 f65 fr65 N => ⟨_, _, _, _, _, rfl, ?_⟩
  have l11 := o11b.lt
  have l13 := o13b.lt
  refine numEnd (o11b.ext f65) (o13b.ext f65) (by omega) fun h' f => ?_
  exact H neg' p' n' c' e' h' (Fr.trans (Ext.trans FF f65) f fun x hx e => by omega) (fr65.mono FF.size) (N.fr f fun b o e e3 => by have := fr65 b o e; omega)
/-- A number laid into a variable of its own. -/
theorem lay3 {h : Heap} {neg : Bool} {q : Option Addr} {m c : Nat} {e : Int} {K : Nat → Heap → Prop} (k : ∀ r h', Ext h h' → h.size ≤ r → Own h' r #[.bool neg, .slice q m c, .int .i64 e] → K r h') :
    alW h (.cells #[.bool false, .slice none 0 0, .int .i64 0] 24) fun r h1 => isP (some ⟨r, 0, none⟩) fun b o => stC h1 b o (.bool neg) fun h2 => stC h2 b (o + 1) (.slice q m c) fun h3 => stC h3 b (o + 1 + 1) (.int .i64 e) fun h4 => K r h4 := by
  refine alK fun r h1 e1 f1 o1 z1 => ⟨r, 0, rfl, o1.stC (by simp) rfl fun oa fa => oa.stC (by simp) rfl fun ob fb => ob.stC (by simp) rfl fun oc fc => ?_⟩
  have fabc := Fr.trans (S := fun x => x = r) (Fr.trans (S := fun x => x = r) fa fb fun _ _ e => e) fc fun _ _ e => e
  exact k r _ (Fr.trans (S := fun _ => False) f1 fabc fun x hx e => by omega) (by omega) oc
end Go.Proofs
