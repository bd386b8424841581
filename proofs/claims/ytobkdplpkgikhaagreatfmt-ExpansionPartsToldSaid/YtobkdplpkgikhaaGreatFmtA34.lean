import Derived.Test.YtobkdplpkgikhaaGreatFmtA33
import Derived.Test.YtobkdplpkgikhaaGreatFmtA09
import Derived.Test.YtobkdplpkgikhaaGreatFmtA23
import Derived.Test.YtobkdplpkgikhaaGreatFmtA32
/- Here stand lemmas and contracts, in the order in which they are used. -/
set_option linter.unusedVariables false
namespace Go.Proofs
open Go Go.Eng
variable {B : World} {R : Ending → Heap → Prop} {h : Heap}
theorem pwP_law {e : Int} (h1 : -1074 ≤ e) (h2 : e ≤ 1023) : I64 (pwP e) ∧ isFin (pwP e) = true ∧ fV (pwP e) = ((2 ^ (e + 1074).toNat : Nat) : Int) := by
  have e52 : (2 : Nat) ^ 52 = 4503599627370496 := by decide
  unfold pwP
  by_cases hc : -1022 ≤ e
  · rw [if_pos hc]
    obtain ⟨j, hj⟩ : ∃ j : Nat, e + 1022 = (j : Int) := ⟨(e + 1022).toNat, by omega⟩
    have hr : (e + 1023) * 4503599627370496 = pat false (j * 4503599627370496 + 4503599627370496) := by
      show _ = ((j * 4503599627370496 + 4503599627370496 : Nat) : Int)
      omega
    obtain ⟨a1, a2⟩ := fV_pat false (j := j) (k := 4503599627370496) (by omega) (by omega) (by omega)
    rw [hr]
    refine ⟨pat_I64 (by omega), a1, ?_⟩
    rw [a2, signed_nat, ← e52, ← Nat.pow_add, show 52 + j = (e + 1074).toNat by omega]; rfl
  · rw [if_neg hc]
    obtain ⟨d, hd⟩ : ∃ d : Nat, (e + 1074).toNat = d ∧ d < 52 := ⟨_, rfl, by omega⟩
    rw [hd.1]
    have hlt : 2 ^ d < 4503599627370496 := by rw [← e52]; exact Nat.pow_lt_pow_right (by decide) hd.2
    obtain ⟨a1, a2⟩ := fV_pat false (j := 0) (k := 2 ^ d) (by omega) (by omega) (by omega)
    rw [Nat.zero_mul, Nat.zero_add] at a1 a2
    refine ⟨by unfold I64; generalize 2 ^ d = q at *; omega, a1, ?_⟩
    have : fV ((2 ^ d : Nat) : Int) = Ieee.signed false (2 ^ d) 0 := a2
    rw [this, signed_nat, Nat.pow_zero, Nat.mul_one]; rfl
/-- A slice of whole numbers that only is read. -/
def IntsH (h : Heap) (p : Option Addr) (xs : List Int) : Prop :=
  (∀ x ∈ xs, I64 x) ∧ (xs = [] ∨ ∃ r q, p = some ⟨r, q, none⟩ ∧ r < h.size ∧ ∀ i (hi : i < xs.length), cell? h ⟨r, q + i, none⟩ = some (.int .i64 xs[i]))
theorem IntsH.ext {h h' : Heap} {p : Option Addr} {xs : List Int} (H : IntsH h p xs) (f : Ext h h') : IntsH h' p xs := by
  refine ⟨H.1, ?_⟩
  rcases H.2 with e | ⟨r, q, e, hr, g⟩
  · exact .inl e
  · exact .inr ⟨r, q, e, Nat.lt_of_lt_of_le hr f.size, fun i hi => (cell_ext f hr).trans (g i hi)⟩
theorem IntsH.get {p : Option Addr} {xs : List Int} {n : Nat} (H : IntsH h p xs) (hn : xs.length = n) {j : Nat} (hj : j < xs.length) {K : Int → Prop} (k : K xs[j]) :
    ixW p n (j : Int) 1 fun b o => isP (some ⟨b, o, none⟩) fun b o => ∃ x, cell? h ⟨b, o, none⟩ = some (.int .i64 x) ∧ K x := by
  rcases H.2 with e | ⟨r, q, e, hr, g⟩
  · subst e; cases hj
  · refine ⟨r, q, e, by omega, by omega, r, _, rfl, xs[j], ?_, k⟩
    rw [Int.toNat_natCast, Nat.mul_one]; exact g j hj
/-- The worth of the lowest bit that is set, in units of 2^-1074. -/
def lowN (b : Int) : Nat := 2 ^ (Lib.ctz 64 (fM b) + (fX b + 1074).toNat)
/-- An expansion, behind what is below it. -/
def vOk (below : Nat) : List Int → Bool
  | [] => true
  | b :: r => (decide (cls b = 1) || decide (cls b = 2)) && (decide (below < lowN b) && vOk (fV b).natAbs r)
def validP (xs : List Int) : Bool := decide (xs.length ≤ 4096) && vOk 0 xs
theorem cls_pos {b : Int} (h : cls b = 1 ∨ cls b = 2) : isFin b = true ∧ fM b ≠ 0 := by
  have := fE_lt b
  refine ⟨by rw [← cls_fin]; exact decide_eq_true (by omega), ?_⟩
  unfold cls at h
  unfold fM
  by_cases h0 : fE b = 0
  · rw [if_pos h0]
    intro hT
    rw [h0, hT] at h
    simp at h
  · rw [if_neg h0]; omega
theorem low_and {m : Nat} (h0 : m ≠ 0) (hm : m < 9007199254740992) : bitsI .and .i64 (m : Int) (IntKind.i64.wrap (0 - (m : Int))) = ((2 ^ Lib.ctz 64 m : Nat) : Int) ∧ Lib.ctz 64 m < 53 := by
  have e64 : (2 : Nat) ^ 64 = 18446744073709551616 := by decide
  obtain ⟨l1, l2⟩ := Lib.lowest_bit 64 m h0 (by rw [e64]; omega)
  have hle : 2 ^ Lib.ctz 64 m ≤ m := by rw [← l1]; exact Nat.and_le_left
  have hc : Lib.ctz 64 m < 53 := by
    apply Nat.lt_of_not_le
    intro h
    have : 2 ^ 53 ≤ 2 ^ Lib.ctz 64 m := Nat.pow_le_pow_right (by decide) h
    have e53 : (2 : Nat) ^ 53 = 9007199254740992 := by decide
    omega
  refine ⟨?_, hc⟩
  rw [i64_in (by omega) (by omega)]
  have h1 : bitsI .and .i64 (m : Int) (0 - (m : Int)) = IntKind.i64.wrap (((BitVec.ofInt 64 (m : Int) &&& BitVec.ofInt 64 (0 - (m : Int))).toNat : Nat) : Int) := rfl
  rw [h1, BitVec.toNat_and, BitVec.toNat_ofInt, BitVec.toNat_ofInt]
  have e1 : ((m : Int) % ((2 ^ 64 : Nat) : Int)).toNat = m := by rw [e64]; omega
  have e2 : ((0 - (m : Int)) % ((2 ^ 64 : Nat) : Int)).toNat = 2 ^ 64 - m := by rw [e64]; omega
  rw [e1, e2, l1, i64_nat (by omega)]
end Go.Proofs
namespace Go.Proofs
open Go Go.Eng
/-- plumb/plumbref3.Valid -/
def F1049_j21 (B : World) (R : Po) (a0 : Bool) (b0 : Heap) : Prop :=
 R (.returned (.bool a0)) b0
def F1049_j62 (B : World) (R : Po) (c0 : Bool) (d0 : Heap) : Prop :=
 R (.returned (.bool c0)) d0
def F1049_j53 (B : World) (R : Po) (e0 : OA) (f0 : Bool) (g0 : Heap) : Prop :=
(f0 = true →
 isP e0 fun i0 j0 =>
 isP (some ⟨i0, j0 + 2, none⟩) fun k0 l0 => ∃ m0, cI g0 k0 l0 .i64 m0 ∧
 F1049_j62 B R (decide (m0 ≤ (1048576 : Int))) g0) ∧
(f0 = false →
 F1049_j62 B R false g0)
def F1049_j44 (B : World) (R : Po) (n0 : OA) (o0 : Bool) (p0 : Heap) : Prop :=
(o0 = true →
 isP n0 fun q0 r0 =>
 isP (some ⟨q0, r0 + 2, none⟩) fun s0 t0 => ∃ u0, cI p0 s0 t0 .i64 u0 ∧
 F1049_j53 B R n0 (decide ((-1048576 : Int) ≤ u0)) p0) ∧
(o0 = false →
 F1049_j53 B R n0 false p0)
def F1049 (B : World) (R : Po) (v0 : Bool) (w0 : OA) (x0 y0 : Nat) (z0 : Int) (h : Heap) : Prop :=
 alW h (.cells #[.bool v0, .slice w0 x0 y0, .int .i64 z0] 24) fun a1 b1 =>
 iP a1 0 fun c1 d1 =>
 isP (some ⟨c1, d1 + 1, none⟩) fun e1 f1 => ∃ g1 i1 j1, cS b1 e1 f1 g1 i1 j1 ∧
((decide ((i1 : Int) = (0 : Int))) = true →
 iP a1 0 fun k1 l1 =>
 iP k1 l1 fun m1 n1 => ∃ o1, cell? b1 ⟨m1, n1, none⟩ = some (.bool o1) ∧
((!o1) = true →
 iP a1 0 fun p1 q1 =>
 isP (some ⟨p1, q1 + 2, none⟩) fun r1 s1 => ∃ t1, cI b1 r1 s1 .i64 t1 ∧
 F1049_j21 B R (decide (t1 = (0 : Int))) b1) ∧
((!o1) = false →
 F1049_j21 B R false b1)) ∧
((decide ((i1 : Int) = (0 : Int))) = false →
 iP a1 0 fun u1 v1 =>
 isP (some ⟨u1, v1 + 1, none⟩) fun w1 x1 => ∃ y1 z1 a2, cS b1 w1 x1 y1 z1 a2 ∧
 Ec B 32 #[.slice y1 z1 a2] (retE (fun b2 c2 => ∃ d2, b2 = .bool d2 ∧
(d2 = true →
 iP a1 0 fun e2 f2 =>
 isP (some ⟨e2, f2 + 1, none⟩) fun g2 i2 => ∃ j2 k2 l2, cS c2 g2 i2 j2 k2 l2 ∧
 ixW j2 k2 (0 : Int) 1 fun m2 n2 =>
 iP m2 n2 fun o2 p2 => ∃ q2, cI c2 o2 p2 .i64 q2 ∧
(2 : Int) ≠ 0 ∧
 F1049_j44 B R (some ⟨a1, 0, none⟩) (decide ((Int.tmod q2 (2 : Int)) = (1 : Int))) c2) ∧
(d2 = false →
 F1049_j44 B R (some ⟨a1, 0, none⟩) false c2))
(pk R)) b1)
def F1049_L : Nat → List (Nat × TypeDesc) := fun _ => []
theorem F1049_ok {B : World} {R : Ending → Heap → Prop} (v0 : Bool) (w0 : OA) (x0 y0 : Nat) (z0 : Int) {h : Heap} (H : F1049 B R v0 w0 x0 y0 z0 h) : Ec B 14 #[.agg #[.bool v0, .slice w0 x0 y0, .int .i64 z0]] R h :=
 Ek Tryz.func14 (by kernel_rfl) (by kernel_rfl) (by kernel_rfl) F1049_L [] (by kernel_rfl) H

/-- plumb/plumbref2.Valid -/
def F1073_j7 (B : World) (R : Po) (a0 : Lp) (b0 : Nat) (c0 : OA) (d0 e0 : Nat) (f0 : Int) (g0 : Bool) (i0 : Heap) : Prop :=
(g0 = true →
 R (.returned (.bool false)) i0) ∧
(g0 = false →
 ∃ j0, j0 < b0 ∧ a0 j0 [.slice c0 d0 e0, .int .i64 (IntKind.i64.wrap (f0 + (1 : Int)))] i0)
def F1073_j2 (B : World) (R : Po) (k0 : OA) (l0 m0 : Nat) (n0 : Bool) (o0 : Heap) : Prop :=
(n0 = true →
 R (.returned (.bool false)) o0) ∧
(n0 = false →
 ∃ a0 : Lp, ∃ p0, a0 p0 [.slice k0 l0 m0, .int .i64 (0 : Int)] o0 ∧
∀ (b0 : Nat) (q0 : Heap) (r0 : OA) (s0 t0 : Nat) (u0 : Int), a0 b0 [.slice r0 s0 t0, .int .i64 u0] q0 → ∀ _r : Nat → Value,
((decide (u0 < (s0 : Int))) = true →
 ixW r0 s0 u0 1 fun v0 w0 =>
 iP v0 w0 fun x0 y0 => ∃ z0, cI q0 x0 y0 .i64 z0 ∧
((decide (z0 < (0 : Int))) = true →
 F1073_j7 B R a0 b0 r0 s0 t0 u0 true q0) ∧
((decide (z0 < (0 : Int))) = false →
 ixW r0 s0 u0 1 fun a1 b1 =>
 iP a1 b1 fun c1 d1 => ∃ e1, cI q0 c1 d1 .i64 e1 ∧
 F1073_j7 B R a0 b0 r0 s0 t0 u0 (decide ((1073741824 : Int) ≤ e1)) q0)) ∧
((decide (u0 < (s0 : Int))) = false →
 R (.returned (.bool true)) q0))
def F1073 (B : World) (R : Po) (f1 : OA) (g1 i1 : Nat) (h : Heap) : Prop :=
((decide ((2000 : Int) < (g1 : Int))) = true →
 F1073_j2 B R f1 g1 i1 true h) ∧
((decide ((2000 : Int) < (g1 : Int))) = false →
((decide ((0 : Int) < (g1 : Int))) = true →
 ixW f1 g1 (IntKind.i64.wrap ((g1 : Int) - (1 : Int))) 1 fun j1 k1 =>
 iP j1 k1 fun l1 m1 => ∃ n1, cI h l1 m1 .i64 n1 ∧
 F1073_j2 B R f1 g1 i1 (decide (n1 = (0 : Int))) h) ∧
((decide ((0 : Int) < (g1 : Int))) = false →
 F1073_j2 B R f1 g1 i1 false h))
def F1073_L : Nat → List (Nat × TypeDesc) := fun i => match i with
  | 4 => [(0, .slice 0), (3, .int .i64)]
  | _ => []
def F1073_J (B : World) (R : Po) : Nat → Option JT := fun i => match i with
  | 2 => some ⟨[(0, .slice 0), (20, .bool)], fun s v h => match s, v with
    | [], [.slice k0 l0 m0, .bool n0] => F1073_j2 B R k0 l0 m0 n0 h
    | _, _ => False⟩
  | 7 => some ⟨[(0, .slice 0), (3, .int .i64), (38, .bool)], fun s v h => match s, v with
    | [(a0, b0)], [.slice c0 d0 e0, .int _ f0, .bool g0] => F1073_j7 B R a0 b0 c0 d0 e0 f0 g0 h
    | _, _ => False⟩
  | _ => none
theorem F1073_ok {B : World} {R : Ending → Heap → Prop} (f1 : OA) (g1 i1 : Nat) {h : Heap} (H : F1073 B R f1 g1 i1 h) : Ec B 32 #[.slice f1 g1 i1] R h :=
 Ej Tryz.func32 (by kernel_rfl) (by kernel_rfl) (by kernel_rfl) F1073_L (F1073_J B R) [] (by kernel_rfl) (by kernel_rfl) H
end Go.Proofs
set_option linter.unusedVariables false
/-! dyadic.Valid and plumbref3.Valid of whatever number. -/
namespace Go.Proofs
open Go Go.Eng
variable {B : World} {R : Ending → Heap → Prop} {h : Heap}
/-- Is it a digit? -/
def dgO (d : Int) : Bool := !(decide (d < 0) || decide (1073741824 ≤ d))
theorem dgO_iff (d : Int) : dgO d = true ↔ 0 ≤ d ∧ d < 1073741824 := by
  unfold dgO
  simp
/-- Is a list a natural number? -/
def natOk (xs : List Int) : Bool := xs.all dgO && (decide (xs.length ≤ 2000) && !decide (xs.getLast? = some 0))
/-- Is it an exact number in its one form? -/
def numOk (neg : Bool) (xs : List Int) (e : Int) : Bool :=
  if xs = [] then !neg && decide (e = 0) else natOk xs && (decide (xs.headD 0 % 2 = 1) && (decide (-1048576 ≤ e) && decide (e ≤ 1048576)))
theorem ints_last {p : Option Addr} {n : Nat} {xs : List Int} (I : IntsH h p xs) (hn : xs.length = n) (h0 : 0 < n) (hl : n ≤ 4611686018427387904) {K : Int → Prop} (k : ∀ x, xs.getLast? = some x → K x) :
    ixW p n (IntKind.i64.wrap ((n : Int) - (1 : Int))) 1 fun j1 k1 => iP j1 k1 fun l1 m1 => ∃ n1, cI h l1 m1 .i64 n1 ∧ K n1 := by
  have e1 : IntKind.i64.wrap ((n : Int) - (1 : Int)) = ((n - 1 : Nat) : Int) := by rw [i64_in (by omega) (by omega)]; omega
  rw [e1]
  refine I.get hn (j := n - 1) (by omega) (k _ ?_)
  rw [List.getLast?_eq_getElem?, List.getElem?_eq_getElem (by omega)]
  congr 2
  omega
theorem all_take {xs : List Int} {j : Nat} (hj : j < xs.length) : (xs.take (j + 1)).all dgO = ((xs.take j).all dgO && dgO xs[j]) := by
  rw [List.take_succ_eq_append_getElem hj, List.all_append]; simp
theorem all_bad {xs : List Int} {j : Nat} (hj : j < xs.length) (h : dgO xs[j] = false) : xs.all dgO = false := by
  rw [List.all_eq_false]
  exact ⟨xs[j], List.getElem_mem _, by rw [h]; decide⟩
/-- nat.Valid. -/
theorem K174x {p : Option Addr} {n c : Nat} {xs : List Int} (I : IntsH h p xs) (hn : xs.length = n) (hl : n ≤ 100000) (H : R (.returned (.bool (natOk xs))) h) : Ent Tryz.prog B 48 #[.slice p n c] R h := by
  refine F174_ok _ _ _ ⟨fun m vs h' => match vs with
    | [.slice p1 n1 c1, .slice p2 n2 c2, .int _ nn, .int _ i] => p = p1 ∧ n = n1 ∧ p = p2 ∧ n = n2 ∧ nn = (n : Int) ∧ h = h' ∧ ∃ j : Nat, i = (j : Int) ∧ j ≤ n ∧ m = n - j ∧ (xs.take j).all dgO = true
    | _ => False, n, ⟨rfl, rfl, rfl, rfl, rfl, rfl, 0, rfl, by omega, rfl, rfl⟩, ?_⟩
  rintro m h' _ _ c1 _ _ c2 _ _ ⟨rfl, rfl, rfl, rfl, rfl, rfl, j, rfl, hj, rfl, ha⟩ _
  refine ⟨fun e => ?_, fun e => ?_⟩
  · have hjl : j < xs.length := by have := of_decide_eq_true e; omega
    refine I.get hn hjl ?_
    have j15 : ∀ b : Bool, b = !dgO xs[j] → F174_j15 B R (fun m vs h' => match vs with
        | [.slice p1 n1 c1, .slice p2 n2 c2, .int _ nn, .int _ i] => p = p1 ∧ n = n1 ∧ p = p2 ∧ n = n2 ∧ nn = (n : Int) ∧ h = h' ∧ ∃ j : Nat, i = (j : Int) ∧ j ≤ n ∧ m = n - j ∧ (xs.take j).all dgO = true
        | _ => False) (n - j) p n c1 p n c2 (n : Int) (j : Int) b h := fun b hb => by
      refine ⟨fun eb => ?_, fun eb => ⟨n - (j + 1), by omega, rfl, rfl, rfl, rfl, rfl, rfl, j + 1, ?_, by omega, rfl, ?_⟩⟩
      · rw [eb] at hb
        have hd : dgO xs[j] = false := by cases hx : dgO xs[j] <;> rw [hx] at hb <;> first | rfl | cases hb
        have : natOk xs = false := by unfold natOk; rw [all_bad hjl hd]; rfl
        rw [this] at H; exact H
      · rw [i64_in (by omega) (by omega)]; rfl
      · rw [eb] at hb
        have hd : dgO xs[j] = true := by cases hx : dgO xs[j] <;> rw [hx] at hb <;> first | rfl | cases hb
        rw [all_take hjl, ha, hd]; rfl
    refine ⟨fun e1 => j15 true ?_, fun e1 => j15 _ ?_⟩
    · unfold dgO; rw [e1]; rfl
    · unfold dgO; rw [e1]; simp
  · have hjn : j = n := by have := of_decide_eq_false e; omega
    rw [hjn, List.take_of_length_le (by omega)] at ha
    have hd : ∀ x : Bool, x = (decide (xs.length ≤ 2000) && !decide (xs.getLast? = some 0)) → R (.returned (.bool x)) h := fun x hx => by
      have : natOk xs = x := by unfold natOk; rw [ha, hx]; rfl
      rw [← this]; exact H
    refine ⟨fun e1 => ⟨fun e2 => ?_, fun e2 => ?_⟩, fun e1 => ?_⟩
    · have h0 : n = 0 := by have := of_decide_eq_true e2; omega
      have : xs = [] := List.eq_nil_of_length_eq_zero (by omega)
      refine hd true ?_
      subst this; rfl
    · have h0 := of_decide_eq_false e2
      refine ints_last I hn (by omega) (by omega) fun x hx => hd _ ?_
      have h1 := of_decide_eq_true e1
      rw [decide_eq_true (show xs.length ≤ 2000 by omega), hx]
      simp
    · have h1 := of_decide_eq_false e1
      refine hd false ?_
      rw [decide_eq_false (show ¬ xs.length ≤ 2000 by omega)]; rfl
/-- plumbref2.Valid. -/
theorem K1073 {p : Option Addr} {n c : Nat} {xs : List Int} (I : IntsH h p xs) (hn : xs.length = n) (hl : n ≤ 100000) (H : R (.returned (.bool (natOk xs))) h) : Ent Tryz.prog B 32 #[.slice p n c] R h := by
  have j2 : ∀ b : Bool, b = !(decide (xs.length ≤ 2000) && !decide (xs.getLast? = some 0)) → F1073_j2 B R p n c b h := fun b hb => by
    refine ⟨fun eb => ?_, fun eb => ⟨fun m vs h' => match vs with
      | [.slice p1 n1 c1, .int _ i] => p = p1 ∧ n = n1 ∧ h = h' ∧ ∃ j : Nat, i = (j : Int) ∧ j ≤ n ∧ m = n - j ∧ (xs.take j).all dgO = true
      | _ => False, n, ⟨rfl, rfl, rfl, 0, rfl, by omega, rfl, rfl⟩, ?_⟩⟩
    · have : natOk xs = false := by
        unfold natOk
        rw [eb] at hb
        have : (decide (xs.length ≤ 2000) && !decide (xs.getLast? = some 0)) = false := by
          cases hx : (decide (xs.length ≤ 2000) && !decide (xs.getLast? = some 0)) <;> rw [hx] at hb <;> first | rfl | cases hb
        rw [this, Bool.and_false]
      rw [this] at H; exact H
    rw [eb] at hb
    have hb : (decide (xs.length ≤ 2000) && !decide (xs.getLast? = some 0)) = true := by
      cases hx : (decide (xs.length ≤ 2000) && !decide (xs.getLast? = some 0)) <;> rw [hx] at hb <;> first | rfl | cases hb
    rintro m h' _ _ c1 _ ⟨rfl, rfl, rfl, j, rfl, hj, rfl, ha⟩ _
    refine ⟨fun e => ?_, fun e => ?_⟩
    · have hjl : j < xs.length := by have := of_decide_eq_true e; omega
      have j7 : ∀ b : Bool, b = !dgO xs[j] → F1073_j7 B R (fun m vs h' => match vs with
          | [.slice p1 n1 c1, .int _ i] => p = p1 ∧ n = n1 ∧ h = h' ∧ ∃ j : Nat, i = (j : Int) ∧ j ≤ n ∧ m = n - j ∧ (xs.take j).all dgO = true
          | _ => False) (n - j) p n c1 (j : Int) b h := fun b hb => by
        refine ⟨fun eb => ?_, fun eb => ⟨n - (j + 1), by omega, rfl, rfl, rfl, j + 1, ?_, by omega, rfl, ?_⟩⟩
        · rw [eb] at hb
          have hd : dgO xs[j] = false := by cases hx : dgO xs[j] <;> rw [hx] at hb <;> first | rfl | cases hb
          have : natOk xs = false := by unfold natOk; rw [all_bad hjl hd]; rfl
          rw [this] at H; exact H
        · rw [i64_in (by omega) (by omega)]; rfl
        · rw [eb] at hb
          have hd : dgO xs[j] = true := by cases hx : dgO xs[j] <;> rw [hx] at hb <;> first | rfl | cases hb
          rw [all_take hjl, ha, hd]; rfl
      refine I.get hn hjl ⟨fun e1 => j7 true ?_, fun e1 => I.get hn hjl (j7 _ ?_)⟩
      · unfold dgO; rw [e1]; rfl
      · unfold dgO; rw [e1]; simp
    · have hjn : j = n := by have := of_decide_eq_false e; omega
      rw [hjn, List.take_of_length_le (by omega)] at ha
      have : natOk xs = true := by unfold natOk; rw [ha, hb]; rfl
      rw [this] at H; exact H
  refine F1073_ok _ _ _ ⟨fun e => j2 true ?_, fun e => ⟨fun e1 => ?_, fun e1 => j2 false ?_⟩⟩
  · have := of_decide_eq_true e
    rw [decide_eq_false (show ¬ xs.length ≤ 2000 by omega)]; rfl
  · have h1 := of_decide_eq_false e
    have h2 := of_decide_eq_true e1
    refine ints_last I hn (by omega) (by omega) fun x hx => j2 _ ?_
    rw [decide_eq_true (show xs.length ≤ 2000 by omega), hx]
    simp
  · have h2 := of_decide_eq_false e1
    have : xs = [] := List.eq_nil_of_length_eq_zero (by omega)
    subst this; rfl
theorem and1_digit {x : Int} (h : dgO x = true) : bitsI .and .i64 x (1 : Int) = x % 2 := by
  obtain ⟨h1, h2⟩ := (dgO_iff x).1 h
  obtain ⟨a, rfl⟩ : ∃ a : Nat, x = (a : Int) := ⟨x.toNat, by omega⟩
  rw [and1_i64 (by omega)]; rfl
theorem head_ok {xs : List Int} (hx : xs ≠ []) : ∃ h0 : 0 < xs.length, xs[0] = xs.headD 0 := by
  match xs with
  | a :: r => exact ⟨by simp, rfl⟩
theorem nat_head {xs : List Int} (hn : natOk xs = true) (h0 : 0 < xs.length) : dgO xs[0] = true := by
  unfold natOk at hn
  have := (Bool.and_eq_true_iff.1 hn).1
  exact List.all_eq_true.1 this _ (List.getElem_mem _)
/-- dyadic.Valid, of whatever number. -/
theorem K129x {neg : Bool} {p : Option Addr} {n c : Nat} {e : Int} {xs : List Int} (I : IntsH h p xs) (hn : xs.length = n) (hl : n ≤ 100000) (H : ∀ h', Ext h h' → R (.returned (.bool (numOk neg xs e))) h') : Ent Tryz.prog B 28 #[.agg #[.bool neg, .slice p n c, .int .i64 e]] R h := by
  refine F129_ok _ _ _ _ _ (alK fun r h1 e1 f o z => ?_)
  have HH := H h1 f
  unfold numOk at HH
  refine ⟨r, 0, rfl, r, 0 + 1, rfl, _, _, _, o.cell _, fun e0 => ?_, fun e0 => ?_⟩
  · have : xs = [] := List.eq_nil_of_length_eq_zero (by have := of_decide_eq_true e0; omega)
    rw [if_pos this] at HH
    refine ⟨r, 0, rfl, r, 0, rfl, neg, (o.cell _).trans rfl, fun e2 => ?_, fun e2 => ?_⟩
    · refine ⟨r, 0, rfl, r, 0 + 2, rfl, _, (o.cell _).trans rfl, ?_⟩
      rw [e2] at HH; exact HH
    · rw [e2] at HH; exact HH
  · have hx : xs ≠ [] := fun e2 => by have := of_decide_eq_false e0; rw [e2] at hn; exact this (by rw [← hn]; rfl)
    obtain ⟨h0, hh⟩ := head_ok hx
    rw [if_neg hx, ← hh] at HH
    refine ⟨r, 0, rfl, r, 0 + 1, rfl, _, _, _, o.cell _, K174x (I.ext f) hn hl ⟨_, rfl, fun e2 => ?_, fun e2 => ?_⟩⟩
    · rw [e2, Bool.true_and] at HH
      refine ⟨r, 0, rfl, r, 0 + 1, rfl, _, _, _, o.cell _, (I.ext f).get hn (j := 0) h0 ?_⟩
      rw [and1_digit (nat_head e2 h0)]
      refine ⟨fun e3 => ⟨r, 0, rfl, r, 0 + 2, rfl, e, (o.cell _).trans rfl, fun e4 => ⟨r, 0, rfl, r, 0 + 2, rfl, e, (o.cell _).trans rfl, ?_⟩, fun e4 => ?_⟩, fun e3 => ⟨fun e4 => (by cases e4), fun _ => ?_⟩⟩
      · rw [e3, e4] at HH; exact HH
      · rw [e3, e4] at HH; exact HH
      · rw [e3] at HH; exact HH
    · rw [e2] at HH
      exact ⟨fun e4 => (by cases e4), fun _ => ⟨fun e4 => (by cases e4), fun _ => HH⟩⟩
/-- plumbref3.Valid, of whatever number. -/
theorem K1049 {neg : Bool} {p : Option Addr} {n c : Nat} {e : Int} {xs : List Int} (I : IntsH h p xs) (hn : xs.length = n) (hl : n ≤ 100000) (H : ∀ h', Ext h h' → R (.returned (.bool (numOk neg xs e))) h') : Ent Tryz.prog B 14 #[.agg #[.bool neg, .slice p n c, .int .i64 e]] R h := by
  refine F1049_ok _ _ _ _ _ (alK fun r h1 e1 f o z => ?_)
  have HH := H h1 f
  unfold numOk at HH
  refine ⟨r, 0, rfl, r, 0 + 1, rfl, _, _, _, o.cell _, fun e0 => ?_, fun e0 => ?_⟩
  · have : xs = [] := List.eq_nil_of_length_eq_zero (by have := of_decide_eq_true e0; omega)
    rw [if_pos this] at HH
    refine ⟨r, 0, rfl, r, 0, rfl, neg, (o.cell _).trans rfl, fun e2 => ?_, fun e2 => ?_⟩
    · refine ⟨r, 0, rfl, r, 0 + 2, rfl, _, (o.cell _).trans rfl, ?_⟩
      rw [e2] at HH; exact HH
    · rw [e2] at HH; exact HH
  · have hx : xs ≠ [] := fun e2 => by have := of_decide_eq_false e0; rw [e2] at hn; exact this (by rw [← hn]; rfl)
    obtain ⟨h0, hh⟩ := head_ok hx
    rw [if_neg hx, ← hh] at HH
    have j53 : ∀ b : Bool, R (.returned (.bool (b && decide (e ≤ 1048576)))) h1 → F1049_j53 B R (some ⟨r, 0, none⟩) b h1 := fun b k => by
      refine ⟨fun eb => ⟨r, 0, rfl, r, 0 + 2, rfl, e, (o.cell _).trans rfl, ?_⟩, fun eb => ?_⟩
      · rw [eb] at k; exact k
      · rw [eb] at k; exact k
    have j44 : ∀ b : Bool, R (.returned (.bool (b && (decide (-1048576 ≤ e) && decide (e ≤ 1048576))))) h1 → F1049_j44 B R (some ⟨r, 0, none⟩) b h1 := fun b k => by
      refine ⟨fun eb => ⟨r, 0, rfl, r, 0 + 2, rfl, e, (o.cell _).trans rfl, j53 _ ?_⟩, fun eb => j53 false ?_⟩
      · rw [eb] at k; exact k
      · rw [eb] at k; exact k
    refine ⟨r, 0, rfl, r, 0 + 1, rfl, _, _, _, o.cell _, K1073 (I.ext f) hn hl ⟨_, rfl, fun e2 => ?_, fun e2 => j44 false ?_⟩⟩
    · rw [e2, Bool.true_and] at HH
      refine ⟨r, 0, rfl, r, 0 + 1, rfl, _, _, _, o.cell _, (I.ext f).get hn (j := 0) h0 ⟨by decide, j44 _ ?_⟩⟩
      obtain ⟨d1, d2⟩ := (dgO_iff _).1 (nat_head e2 h0)
      rw [Int.tmod_eq_emod_of_nonneg d1]
      exact HH
    · rw [e2] at HH; exact HH
/-- What is valid is a number in its one form. -/
theorem numI_of {neg : Bool} {p : Option Addr} {n : Nat} {e : Int} {xs : List Int} (I : IntsH h p xs) (hn : xs.length = n) (hp : Pt p) (hok : numOk neg xs e = true) : NumI h neg p n e (xs.map Int.toNat) := by
  unfold numOk at hok
  by_cases hx : xs = []
  · rw [if_pos hx] at hok
    obtain ⟨a, b⟩ := Bool.and_eq_true_iff.1 hok
    subst hx
    have h0 : n = 0 := hn.symm
    refine ⟨⟨hp, .inl rfl, by simp [h0], fun w hw => (by cases hw), fun h => (by simp at h)⟩, by omega, fun _ => ⟨?_, of_decide_eq_true b⟩, fun h => absurd h (by omega)⟩
    cases neg
    · rfl
    · cases a
  · rw [if_neg hx] at hok
    obtain ⟨a1, a2⟩ := Bool.and_eq_true_iff.1 hok
    obtain ⟨a3, a4⟩ := Bool.and_eq_true_iff.1 a2
    obtain ⟨a5, a6⟩ := Bool.and_eq_true_iff.1 a4
    unfold natOk at a1
    obtain ⟨b1, b2⟩ := Bool.and_eq_true_iff.1 a1
    obtain ⟨b3, b4⟩ := Bool.and_eq_true_iff.1 b2
    have dg : ∀ x ∈ xs, 0 ≤ x ∧ x < 1073741824 := fun x hx => (dgO_iff x).1 (List.all_eq_true.1 b1 x hx)
    have hlen := of_decide_eq_true b3
    obtain ⟨h0, hh⟩ := head_ok hx
    refine ⟨⟨hp, ?_, by rw [List.length_map]; exact hn, fun w hw => ?_, fun ht => ?_⟩, by omega, fun z => absurd z (by omega), fun _ => ⟨?_, of_decide_eq_true a5, of_decide_eq_true a6⟩⟩
    · rcases I.2 with k | ⟨b, o, e1, e2, e3⟩
      · exact absurd k hx
      · have q0 := e3 0 h0
        unfold cell? at q0
        cases hh2 : h[b]? with
        | none => simp only [hh2] at q0; cases q0
        | some ob =>
          cases ob with
          | cells cs et z =>
            refine .inr ⟨b, o, cs, e1, ⟨et, z, hh2⟩, fun i hi => ?_⟩
            rw [List.length_map] at hi
            have q := e3 i hi
            rw [OwnR.cell ⟨et, z, hh2⟩] at q
            rw [q, List.getElem_map]
            have := dg _ (List.getElem_mem hi)
            congr 2
            omega
          | _ => simp only [hh2] at q0; cases q0
    · obtain ⟨x, hx', rfl⟩ := List.mem_map.1 hw
      have := dg x hx'
      unfold B30; omega
    · have hl : xs.getLast? ≠ some 0 := by
        intro h2; rw [h2] at b4; cases b4
      rw [List.getLast?_map] at ht
      cases hq : xs.getLast? with
      | none => rw [hq] at ht; cases ht
      | some y =>
        rw [hq] at ht
        have hy : y.toNat = 0 := Option.some.inj ht
        have := dg y (List.mem_of_getLast? hq)
        exact hl (by rw [hq]; congr 1; omega)
    · have hd := dg _ (List.getElem_mem h0)
      have h3 := of_decide_eq_true a3
      rw [← hh] at h3
      rw [val_mod2 (by rw [List.length_map]; exact h0), List.getElem_map]
      omega
end Go.Proofs
set_option linter.unusedVariables false
namespace Go.Eng
open Go
/-- A whole number of at most 53 bits, with noughts behind. -/
def Fl (v : Int) : Prop := ∃ m t : Nat, v.natAbs = m * 2 ^ t ∧ m ≤ 9007199254740992
/-- 2^k divides. -/
def Dv (k : Nat) (x : Int) : Prop := ∃ z : Int, x = z * ((2 ^ k : Nat) : Int)
theorem Dv.zero {k : Nat} : Dv k 0 := ⟨0, by rw [Int.zero_mul]⟩
theorem Dv.add {k : Nat} {x y : Int} (a : Dv k x) (b : Dv k y) : Dv k (x + y) := by
  obtain ⟨z, rfl⟩ := a; obtain ⟨w, rfl⟩ := b; exact ⟨z + w, by rw [Int.add_mul]⟩
theorem Dv.neg {k : Nat} {x : Int} (a : Dv k x) : Dv k (-x) := by
  obtain ⟨z, rfl⟩ := a; exact ⟨-z, by rw [Int.neg_mul]⟩
theorem Dv.sub {k : Nat} {x y : Int} (a : Dv k x) (b : Dv k y) : Dv k (x - y) := by
  rw [Int.sub_eq_add_neg]; exact a.add b.neg
theorem Dv.mono {j k : Nat} {x : Int} (a : Dv k x) (h : j ≤ k) : Dv j x := by
  obtain ⟨z, rfl⟩ := a
  obtain ⟨d, rfl⟩ : ∃ d, k = j + d := ⟨k - j, by omega⟩
  exact ⟨z * ((2 ^ d : Nat) : Int), by rw [Nat.pow_add, Int.natCast_mul, Int.mul_assoc, Int.mul_comm ((2 ^ j : Nat) : Int)]⟩
theorem Dv.abs {k : Nat} {x : Int} (a : Dv k x) : ∃ m : Nat, x.natAbs = m * 2 ^ k := by
  obtain ⟨z, rfl⟩ := a
  exact ⟨z.natAbs, by rw [Int.natAbs_mul, Int.natAbs_natCast]⟩
theorem Dv.of_abs {k m : Nat} {x : Int} (h : x.natAbs = m * 2 ^ k) : Dv k x := by
  by_cases hx : x < 0
  · exact ⟨-(m : Int), by rw [Int.neg_mul, ← Int.natCast_mul, ← h]; omega⟩
  · exact ⟨(m : Int), by rw [← Int.natCast_mul, ← h]; omega⟩
theorem Dv.ge {k : Nat} {x : Int} (a : Dv k x) (h : x ≠ 0) : 2 ^ k ≤ x.natAbs := by
  obtain ⟨m, e⟩ := a.abs
  have : m ≠ 0 := by intro k; rw [k, Nat.zero_mul] at e; omega
  rw [e]
  exact Nat.le_mul_of_pos_left _ (by omega)
theorem Fl.zero : Fl 0 := ⟨0, 0, rfl, by decide⟩
theorem Fl.neg {v : Int} (h : Fl v) : Fl (-v) := by
  obtain ⟨m, t, a, b⟩ := h; exact ⟨m, t, by rw [Int.natAbs_neg]; exact a, b⟩
theorem Fl.of {k : Nat} {x : Int} (a : Dv k x) (h : x.natAbs ≤ 9007199254740992 * 2 ^ k) : Fl x := by
  obtain ⟨m, e⟩ := a.abs
  refine ⟨m, k, e, ?_⟩
  rw [e] at h
  exact Nat.le_of_mul_le_mul_right h (Nat.pow_pos (by decide))
/-- A great float is a multiple of its last place. -/
theorem Fl.big {v : Int} (h : Fl v) {k : Nat} (hk : 4503599627370496 * 2 ^ k ≤ v.natAbs) : Dv k v := by
  obtain ⟨m, t, a, b⟩ := h
  rcases Nat.lt_or_ge t k with hlt | hge
  · obtain ⟨d, rfl⟩ : ∃ d, k = t + (d + 1) := ⟨k - t - 1, by omega⟩
    have hp : 0 < 2 ^ t := Nat.pow_pos (by decide)
    rw [a, Nat.pow_add, Nat.mul_comm (2 ^ t), ← Nat.mul_assoc] at hk
    have h1 := Nat.le_of_mul_le_mul_right hk hp
    have hd : 0 < 2 ^ d := Nat.pow_pos (by decide)
    rw [Nat.pow_succ] at h1
    have h2 : 2 ^ d = 1 := by omega
    have hd0 : d = 0 := by
      rcases Nat.eq_zero_or_pos d with e | e
      · exact e
      · have : 2 ^ 1 ≤ 2 ^ d := Nat.pow_le_pow_right (by decide) e
        omega
    subst hd0
    have hm : m = 4503599627370496 * 2 := by omega
    refine Dv.of_abs (m := 4503599627370496) ?_
    rw [a, hm, Nat.zero_add, Nat.pow_succ, Nat.mul_assoc, Nat.mul_comm 2]
  · exact (Dv.of_abs a).mono hge
theorem rnd_cases (v : Int) : rndI v = v ∨ ∃ j : Nat, 9007199254740992 * 2 ^ j ≤ v.natAbs ∧ v.natAbs < 18014398509481984 * 2 ^ j ∧ Dv (j + 1) (rndI v) ∧ (rndI v - v).natAbs ≤ 2 ^ j := by
  obtain ⟨s, hs⟩ := sgv_of v
  generalize hn : v.natAbs = n at *
  have e52 : (2 : Nat) ^ 52 = 4503599627370496 := by decide
  have e53 : (2 : Nat) ^ 53 = 9007199254740992 := by decide
  rcases Nat.lt_or_ge n (2 ^ 53) with h | h
  · left; rw [hs, rndI_sgv, R53_small h]
  right
  have h0 : n ≠ 0 := by omega
  have hl := (Nat.log2_eq_iff h0).1 rfl
  have h53 : 53 ≤ n.log2 := by
    apply Nat.le_of_not_lt
    intro k
    have := (Nat.log2_lt h0).1 k
    omega
  obtain ⟨j, hj⟩ : ∃ j, n.log2 = 53 + j := ⟨n.log2 - 53, by omega⟩
  rw [hj] at hl
  have hn1 := rn_near n (j + 1)
  have hR := R53_at (n := n) (j := j + 1) (by rw [show 52 + (j + 1) = 53 + j by omega]; exact hl.1) (by rw [show 53 + (j + 1) = 53 + j + 1 by omega]; exact hl.2)
  rw [Nat.pow_succ, Nat.pow_add, e53] at hl
  have hD : rndI v = sgv s (R53 n) := by rw [hs, rndI_sgv]
  refine ⟨j, hl.1, by omega, ?_, ?_⟩
  · rw [hD]
    refine Dv.of_abs (m := rn n (j + 1)) ?_
    rw [sgv_abs, hR]
  · have ha : (sgv s (R53 n) - sgv s n).natAbs = ((R53 n : Int) - (n : Int)).natAbs := by
      unfold sgv; cases s
      · rfl
      · simp only [if_true]; omega
    rw [hD, hs, ha]
    rw [← hR, Nat.pow_succ] at hn1
    omega
end Go.Eng
set_option linter.unusedVariables false
namespace Go.Eng
open Go
/-- An expansion of whole numbers, behind what is below it. -/
def vZ (below : Nat) : List Int → Prop
  | [] => True
  | v :: r => v ≠ 0 ∧ (∃ k, below < 2 ^ k ∧ Dv k v) ∧ vZ v.natAbs r
theorem vZ.mono {a b : Nat} {xs : List Int} (h : vZ b xs) (hab : a ≤ b) : vZ a xs := by
  cases xs with
  | nil => trivial
  | cons v r => exact ⟨h.1, let ⟨k, h1, h2⟩ := h.2.1; ⟨k, by omega, h2⟩, h.2.2⟩
theorem vZ.lt {b : Nat} {v : Int} {r : List Int} (h : vZ b (v :: r)) : b < v.natAbs := by
  obtain ⟨h0, ⟨k, h1, h2⟩, _⟩ := h
  have := h2.ge h0
  omega
theorem vZ.tail {b : Nat} {v : Int} {r : List Int} (h : vZ b (v :: r)) : vZ b r := h.2.2.mono (by have := h.lt; omega)
end Go.Eng
namespace Go.Proofs
open Go Go.Eng
variable {B : World} {R : Ending → Heap → Prop} {h : Heap}
theorem wd_abs {b : Int} (hb : I64 b) : wd b % 9223372036854775808 = wd (absP b) := by
  unfold I64 at hb
  unfold wd absP
  split <;> omega
theorem wd_natP {m : Nat} (hm : m < 53) : FloatKind.f64.nearest ((2 ^ m : Nat) : Int) = pw2 m := near_tab m hm
/-- expansion.Valid. -/
theorem K37 {p : Option Addr} {n c : Nat} {xs : List Int} (I : IntsH h p xs) (hn : xs.length = n) (H : R (.returned (.bool (validP xs))) h) : Ent Tryz.prog B 10 #[.slice p n c] R h := by
  unfold validP at H
  refine F37_ok _ _ _ ⟨fun e => ?_, fun e => ?_⟩
  · have hb := of_decide_eq_true e
    rw [decide_eq_false (show ¬ xs.length ≤ 4096 by omega)] at H
    exact H
  have hb := of_decide_eq_false e
  rw [decide_eq_true (show xs.length ≤ 4096 by omega), Bool.true_and] at H
  refine ⟨fun m vs h' => match vs with
    | [.slice p1 n1 c1, .float _ w, .int _ y, .int _ i] => p = p1 ∧ n = n1 ∧ c = c1 ∧ h = h' ∧ y = (n : Int) ∧ ∃ j : Nat, i = (j : Int) ∧ j ≤ n ∧ m = n - j ∧ ∃ (b : Int) (v : Nat), w = wd b ∧ I64 b ∧ isFin b = true ∧ fV b = (v : Int) ∧ vOk v (xs.drop j) = vOk 0 xs
    | _ => False, n, ⟨rfl, rfl, rfl, rfl, rfl, 0, rfl, by omega, rfl, 0, 0, rfl, ⟨by decide, by decide⟩, by decide, by decide, rfl⟩, ?_⟩
  rintro m h1 _ _ _ _ _ _ ⟨rfl, rfl, rfl, rfl, rfl, j, rfl, hj, rfl, b, v, rfl, hb1, hb2, hb3, hv⟩ _
  refine ⟨fun e => ?_, fun e => ?_⟩
  · have hjn : j < xs.length := by have := of_decide_eq_true e; omega
    have hd : xs.drop j = xs[j] :: xs.drop (j + 1) := List.drop_eq_getElem_cons hjn
    rw [hd] at hv
    have hI : I64 xs[j] := I.1 _ (List.getElem_mem hjn)
    refine I.get hn hjn (K17 ⟨_, rfl, ?_⟩)
    have no : vOk v (xs[j] :: xs.drop (j + 1)) = false → R (.returned (.bool false)) h := by
      intro e0
      rw [← hv, e0] at H; exact H
    have go : (cls xs[j] = 1 ∨ cls xs[j] = 2) → F37_j20 B R (fun m vs h' => match vs with
        | [.slice p1 n1 c1, .float _ w, .int _ y, .int _ i] => p = p1 ∧ n = n1 ∧ c = c1 ∧ h = h' ∧ y = (n : Int) ∧ ∃ j : Nat, i = (j : Int) ∧ j ≤ n ∧ m = n - j ∧ ∃ (b : Int) (v : Nat), w = wd b ∧ I64 b ∧ isFin b = true ∧ fV b = (v : Int) ∧ vOk v (xs.drop j) = vOk 0 xs
        | _ => False) (n - j) p n c (wd b) (j : Int) (n : Int) (j : Int) false h := by
      intro hc
      obtain ⟨fx, m0⟩ := cls_pos hc
      obtain ⟨la, lb⟩ := low_and m0 (fM_lt xs[j])
      have g1 := fX_ge xs[j]
      have g2 := fX_lt fx
      refine ⟨fun e => (by cases e), fun _ => I.get hn hjn (K63 fx ⟨_, _, _, _, rfl, ?_⟩)⟩
      rw [la, wd_natP lb]
      refine K93p lb g1 g2 ⟨_, rfl, ?_⟩
      obtain ⟨q1, q2, q3⟩ := pwP_law (e := ((Lib.ctz 64 (fM xs[j]) : Nat) : Int) + fX xs[j]) (by omega) (by omega)
      rw [order_fin hb1 q1 hb2 q2, q3, hb3]
      have hlow : decide ((v : Int) < ((2 ^ (((Lib.ctz 64 (fM xs[j]) : Nat) : Int) + fX xs[j] + 1074).toNat : Nat) : Int)) = decide (v < lowN xs[j]) := by
        unfold lowN
        rw [show Lib.ctz 64 (fM xs[j]) + (fX xs[j] + 1074).toNat = (((Lib.ctz 64 (fM xs[j]) : Nat) : Int) + fX xs[j] + 1074).toNat by omega]
        rw [decide_eq_decide]; exact Int.ofNat_lt
      rw [hlow]
      have hvk : vOk v (xs[j] :: xs.drop (j + 1)) = (decide (v < lowN xs[j]) && vOk (fV xs[j]).natAbs (xs.drop (j + 1))) := by
        have : (decide (cls xs[j] = 1) || decide (cls xs[j] = 2)) = true := by
          rcases hc with hc | hc <;> rw [hc] <;> rfl
        show ((decide (cls xs[j] = 1) || decide (cls xs[j] = 2)) && _) = _
        rw [this, Bool.true_and]
      refine ⟨fun e => no ?_, fun e => ?_⟩
      · rw [hvk]
        have : decide (v < lowN xs[j]) = false := by revert e; cases decide (v < lowN xs[j]) <;> simp
        rw [this]; rfl
      · have hl : decide (v < lowN xs[j]) = true := by revert e; cases decide (v < lowN xs[j]) <;> simp
        rw [hl, Bool.true_and] at hvk
        refine I.get hn hjn (K54 ⟨_, rfl, F94_ok _ (E117 ⟨_, rfl, ?_⟩)⟩)
        rw [andNot_top (wd_lt _), wd_abs hI]
        refine E116 ⟨_, rfl, _, rfl, n - (j + 1), by omega, rfl, rfl, rfl, rfl, rfl, j + 1, ?_, by omega, rfl, absP xs[j], (fV xs[j]).natAbs, rfl, abs_I64 hI, (abs_fV hI).1.trans fx, (abs_fV hI).2, ?_⟩
        · rw [i64_in (by omega) (by omega)]; rfl
        · rw [← hvk]; exact hv
    refine ⟨fun e => ?_, fun e => ?_⟩
    · have h1 : cls xs[j] ≠ 1 := by intro h1; rw [h1] at e; cases e
      by_cases h2 : cls xs[j] = 2
      · rw [show (!decide (cls xs[j] = 2)) = false by rw [h2]; rfl]
        exact go (.inr h2)
      · rw [show (!decide (cls xs[j] = 2)) = true by rw [decide_eq_false h2]; rfl]
        refine ⟨fun _ => no ?_, fun e => (by cases e)⟩
        show ((decide (cls xs[j] = 1) || decide (cls xs[j] = 2)) && _) = _
        rw [decide_eq_false h1, decide_eq_false h2]; rfl
    · have h1 : cls xs[j] = 1 := by
        by_cases h1 : cls xs[j] = 1
        · exact h1
        · rw [decide_eq_false h1] at e; cases e
      exact go (.inl h1)
  · have hjn : j = n := by have := of_decide_eq_false e; omega
    rw [List.drop_of_length_le (by omega)] at hv
    rw [← hv] at H
    exact H
end Go.Proofs
namespace Go.Eng
open Go
/-- The cells from p on hold ws, of kind k. -/
def Sj (k : IntKind) (h : Heap) (p : Option Addr) (ws : List Int) : Prop :=
  ws = [] ∨ ∃ b o cs, p = some ⟨b, o, none⟩ ∧ Own h b cs ∧ ∀ i (hi : i < ws.length), cs[o + i]? = some (.int k ws[i])
theorem Sj.nil {k : IntKind} {h : Heap} {p : Option Addr} : Sj k h p [] := .inl rfl
theorem Sj.fr {k : IntKind} {h h' : Heap} {p : Option Addr} {ws : List Int} {S : Nat → Prop} (H : Sj k h p ws) (f : Fr S h h') (hp : ∀ b o, p = some ⟨b, o, none⟩ → b < h.size → ¬ S b) : Sj k h' p ws := by
  rcases H with H | ⟨b, o, cs, h1, h2, h3⟩
  · exact .inl H
  · exact .inr ⟨b, o, cs, h1, h2.fr f (hp b o h1 h2.lt), h3⟩
theorem Sj.ext {k : IntKind} {h h' : Heap} {p : Option Addr} {ws : List Int} (H : Sj k h p ws) (f : Ext h h') : Sj k h' p ws := H.fr f fun _ _ _ _ => id
/-- An element appended. -/
theorem apJ {k : IntKind} {h : Heap} {p : Option Addr} {n c r e : Nat} {ws : List Int} {x : Int} {S : Nat → Prop} {zero : Array Value} {bytes : Nat} {K : Option Addr → Nat → Nat → Heap → Prop}
    (hs : Sj k h p ws) (hr : Room h p c S) (hn : ws.length = n) (hc : n ≤ c) (hx : Own h r #[.int k x]) (hb : 0 < bytes) (hlim : c < n + 1 → Builtin.nextslicecap (n + 1) c * bytes ≤ 281474976710656) (hlim2 : n + 1 ≤ 281474976710656)
    (hz : zero.size = 1) (hp : c = 0 → p = none ∨ ∃ b o, p = some ⟨b, o, none⟩)
    (hk : ∀ q c' h', Sj k h' q (ws ++ [x]) → Room h' q c' (fun b => S b ∨ h.size ≤ b) → n + 1 ≤ c' → Fr S h h' → K q (n + 1) c' h') :
    apW h p n c (some ⟨r, 0, none⟩) 1 1 bytes e zero K := by
  have hrow : rowAt h (some ⟨r, 0, none⟩) (1 * 1) [.int k x] := by
    refine ⟨rfl, r, 0, rfl, fun i hi => ?_⟩
    have : i = 0 := by simp at hi; exact hi
    subst this
    rw [hx.cell]; rfl
  refine ⟨fun hle => ?_, fun hlt => ⟨hb, hlim2, hlim hlt, ws.map (fun w : Int => Value.int k w), [.int k x], ?_, hrow, fun cap h1 h2 => ?_⟩⟩
  · refine ⟨_, hrow, ?_⟩
    rcases hr with hr | ⟨b, o, cs, e1, e2, e3, e4⟩
    · omega
    subst e1
    have hsz : o + n < cs.size := by omega
    refine ⟨b, o, rfl, fun y hy => ?_, fun i hi => ?_, ?_⟩
    · rw [List.mem_singleton] at hy; subst hy; rfl
    · have : i = 0 := by simp at hi; exact hi
      subst this
      exact ⟨⟨_, by rw [e2.cell, Array.getElem?_eq_getElem (by omega)]⟩, e2.frozen _⟩
    · simp only [setRow, Nat.mul_one]
      have H' := own_set (o := o + n) (v := .int k x) e2
      refine hk _ _ _ (.inr ⟨b, o, _, rfl, H', fun i hi => ?_⟩) (.inr ⟨b, o, _, rfl, H', by simpa using e3, .inl e4⟩) (by omega) (Fr.mono fr_setCell fun y _ hy => hy ▸ e4)
      rw [List.length_append, List.length_singleton] at hi
      by_cases hil : i < ws.length
      · rw [Array.getElem?_setIfInBounds_ne (by omega), List.getElem_append_left hil]
        rcases hs with hs | ⟨b', o', cs', f1, f2, f3⟩
        · subst hs; exact absurd hil (by simp)
        · cases f1; rw [e2.inj f2]; exact f3 i hil
      · have : i = ws.length := by omega
        subst this
        simp only [hn, List.getElem_concat_length]
        rw [Array.getElem?_setIfInBounds_self_of_lt hsz]
  · cases p with
    | none =>
      rcases hs with hs | ⟨b, o, cs, h1, _⟩
      · subst hs; rfl
      · cases h1
    | some a =>
      by_cases hn0 : ws = []
      · subst hn0
        refine ⟨by simp [← hn], ?_⟩
        have : ∃ b o, some a = some (⟨b, o, none⟩ : Addr) := by
          rcases hr with hr | ⟨b, o, cs, e1, _⟩
          · rcases hp hr with h | h
            · cases h
            · exact h
          · exact ⟨b, o, e1⟩
        obtain ⟨b, o, hbo⟩ := this
        exact ⟨b, o, hbo, fun i hi => absurd hi (by simp)⟩
      · rcases hs with hs | ⟨b, o, cs, h1, h2, h3⟩
        · exact absurd hs hn0
        · refine ⟨by simp [hn], b, o, h1, fun i hi => ?_⟩
          rw [List.length_map] at hi
          rw [h2.cell, h3 i hi, List.getElem_map]
  · have H' : Own (h.push (.cells (ws.map (fun w : Int => Value.int k w) ++ [Value.int k x] ++ zerosL zero (cap - (n + 1))).toArray e)) h.size _ := own_new
    refine hk _ _ _ (.inr ⟨_, 0, _, rfl, H', fun i hi => ?_⟩) (.inr ⟨_, 0, _, rfl, H', ?_, .inr (Nat.le_refl _)⟩) h1 (Ext.push.to)
    · simp only [Nat.zero_add, List.getElem?_toArray]
      rw [List.getElem?_append_left (by simp at hi ⊢; omega), ← List.map_singleton (f := fun w : Int => Value.int k w), ← List.map_append, List.getElem?_map, List.getElem?_eq_getElem hi]; rfl
    · simp [zerosL, hn, hz]
      omega
/-- A list of whole numbers that is being made, in blocks that h0 has not. -/
structure Lj (h0 h : Heap) (p : Option Addr) (n c : Nat) (ws : List Int) : Prop where
  sl : Sj .i64 h p ws
  len : ws.length = n
  room : Room h p c (fun b => h0.size ≤ b)
  le : n ≤ c
  pt : Pt p
  fresh : Fresh h0 p
  all : ∀ x ∈ ws, I64 x
theorem Lj.nil {h0 h : Heap} : Lj h0 h none 0 0 [] := ⟨Sj.nil, rfl, .inl rfl, Nat.le_refl _, .inl rfl, Fresh.nil, fun _ hx => by cases hx⟩
theorem Lj.ext {h0 h h' : Heap} {p : Option Addr} {n c : Nat} {ws : List Int} (L : Lj h0 h p n c ws) (f : Ext h h') : Lj h0 h' p n c ws := ⟨L.sl.ext f, L.len, L.room.ext f, L.le, L.pt, L.fresh, L.all⟩
theorem apJ2 {h0 h : Heap} {p : Option Addr} {n c r e : Nat} {x : Int} {ws : List Int} {K : Option Addr → Nat → Nat → Heap → Prop} (L : Lj h0 h p n c ws) (F : Ext h0 h) (hn : n ≤ 1099511627776) (hx : Own h r #[.int .i64 x]) (hI : I64 x)
    (hk : ∀ q c' h', Lj h0 h' q (n + 1) c' (ws ++ [x]) → Ext h0 h' → K q (n + 1) c' h') : apW h p n c (some ⟨r, 0, none⟩) 1 1 8 e #[.int .i64 0] K := by
  have hs := F.size
  refine apJ L.sl L.room L.len L.le hx (by decide) (fun hlt => ?_) (by omega) rfl (fun _ => L.pt) fun q c' h' s r le f => ?_
  · have := nsc_le hlt
    omega
  · have r' : Room h' q c' (fun b => h0.size ≤ b) := r.mono fun b hb => by rcases hb with e | e; exact e; omega
    rcases r' with e | ⟨b, o, cs, e, e2, e3, e4⟩
    · omega
    · refine hk q c' h' ⟨s, by simp [L.len], .inr ⟨b, o, cs, e, e2, e3, e4⟩, le, .inr ⟨b, o, e⟩, fun b' o' e' => ?_, fun y hy => ?_⟩ (Fr.trans F f fun x hx e => by omega)
      · rw [e] at e'; cases e'; exact e4
      · rcases List.mem_append.1 hy with hy | hy
        · exact L.all y hy
        · rw [List.mem_singleton.1 hy]; exact hI
end Go.Eng
