import Derived.Test.YtobkdplpkgikhaaGreatFmtA25
import Derived.WalkKit
import Derived.Test.YtobkdplpkgikhaaGreatFmtA12
import Derived.Test.YtobkdplpkgikhaaGreatFmtA31
import Derived.Test.YtobkdplpkgikhaaGreatFmtA09
import Derived.Test.YtobkdplpkgikhaaGreatFmtA24
import Derived.Test.YtobkdplpkgikhaaGreatFmtA30
/- Here stand lemmas and contracts, in the order in which they are used. -/
set_option linter.unusedVariables false
namespace Go.Proofs
open Go Go.Eng
variable {B : World} {R : Ending → Heap → Prop} {h : Heap}
theorem gu_nil (e : Int) (w : World) : (binOp .eql 20 (.iface 143 (.agg #[.int .i64 e])) Value.nilIface).run Tryz.prog w = .ok (.bool false) w :=
  pureRun_run (P := Tryz.prog) _ (by kernel_rfl) w
theorem gu_as (e : Int) (w : World) : Sem.run Tryz.prog (Instr.typeAssert (Value.iface 143 (Value.agg #[Value.int IntKind.i64 e])) 20 143 true) w = .ok (.tuple #[.agg #[.int .i64 e], .bool true]) w :=
  pureRun_run (P := Tryz.prog) _ (by kernel_rfl) w
theorem K62p {r : Nat} {e : Int} {K : FrameMode → Heap → Prop} (O : Own h r #[.int .i64 0]) (H : ∀ h', Fr (fun x => x = r) h h' → Own h' r #[.int .i64 e] → K .returning h') :
    FnD Tryz.prog B 52 #[.pointer (some ⟨r, 0, none⟩)] (.panicking [{ v := .iface 143 (.agg #[.int .i64 e]), recovered := false }]) (dfE K) h := by
  intro n
  refine callsD_of_wpS Tryz.func52 rfl fun c₀ cs hu => ?_
  have hr : recoverD (c₀ :: cs) = some (.iface 143 (.agg #[.int .i64 e]), { c₀ with mode := .panicking [{ v := .iface 143 (.agg #[.int .i64 e]), recovered := true }] } :: cs) := by simp [recoverD, hu]
  apply wpS_seq
  apply wpS_region
  simp [wpOpsS, go_sem, hr, Exit.thenS, Tryz.f52]
  generalize hQ : bodyPostS Tryz.prog _ c₀ cs _ = Q
  apply wpS_seq
  apply wpS_seq
  apply wpS_region
  simp [wpOpsS, go_sem, Exit.thenS, gu_nil]
  refine wpS_cond (t := false) (by simp [Act.eval, Array.replicate]) ?_
  simp only [Bool.false_eq_true, if_false]
  refine wpS_of_wp (wp_skip ?_)
  simp only [Exit.thenS]
  apply wpS_seq
  apply wpS_region
  simp [wpOpsS, go_sem, Exit.thenS, gu_as]
  apply wpS_seq
  apply wpS_seq
  apply wpS_region
  simp [wpOpsS, go_sem, Exit.thenS]
  refine wpS_cond (t := false) (by simp [Act.eval, Array.replicate]) ?_
  simp only [Bool.false_eq_true, if_false]
  refine wpS_of_wp (wp_skip ?_)
  simp only [Exit.thenS]
  apply wpS_region
  have hsz : (mk B h n).heap.size = h.size := rfl
  have hc1 : ((mk B h n).alloc (Obj.cells #[Value.int IntKind.i64 e] 143)).cell? ⟨(mk B h n).heap.size, 0, none⟩ = some (.int .i64 e) := by
    have := (own_new (h := h) (cs := #[Value.int IntKind.i64 e]) (e := 143)).cell 0
    exact this
  have hr0 : r < h.size := O.lt
  have hc0 : ((mk B h n).alloc (Obj.cells #[Value.int IntKind.i64 e] 143)).cell? ⟨r, 0, none⟩ = some (.int .i64 0) := by
    have := (own_push (o := Obj.cells #[Value.int IntKind.i64 e] 143) O).cell 0
    exact this
  have hf0 : ((mk B h n).alloc (Obj.cells #[Value.int IntKind.i64 e] 143)).frozen? ⟨r, 0, none⟩ = false := by
    have := (own_push (o := Obj.cells #[Value.int IntKind.i64 e] 143) O).frozen 0
    exact this
  simp [wpOpsS, go_sem, hc1, hc0, hf0]
  rw [← hQ]
  have O1 := own_push (o := Obj.cells #[Value.int IntKind.i64 e] 143) O
  refine ⟨rfl, .panicking [{ v := .iface 143 (.agg #[.int .i64 e]), recovered := true }], rfl, .tuple #[], ?_, ?_⟩
  · simp [results, go_sem]
  · refine ⟨setCell (h.push (Obj.cells #[Value.int IntKind.i64 e] 143)) ⟨r, 0, none⟩ (.int .i64 e), ⟨n, rfl⟩, ?_⟩
    refine H _ (Fr.trans (Ext.push (o := Obj.cells #[Value.int IntKind.i64 e] 143)).to fr_setCell fun x _ e => e) ?_
    exact own_set O1
end Go.Proofs
namespace Go.Proofs
open Go Go.Eng
variable {B : World} {R : Ending → Heap → Prop} {h : Heap}
/-- bits.Parts, of what is not finite. -/
theorem K63n {b : Int} (hf : isFin b = false) (H : R (.returned (.tuple #[.bool false, .int .i64 (0 : Int), .int .i64 (0 : Int), .bool false])) h) : Ent Tryz.prog B 24 #[.int .i64 b] R h := by
  refine F63_ok _ ?_
  unfold F63
  rw [and_fE]
  have hE : fE b = 2047 := by unfold isFin at hf; have := of_decide_eq_false hf; have := fE_lt b; omega
  rw [hE]
  exact ⟨by decide, fun _ => H, fun e => absurd e (by decide)⟩
/-- dyadic.Of, of what is not finite. -/
theorem K21n {b : Int} (hf : isFin b = false) (H : ∀ h', Ext h h' → R (.returned (.tuple #[.agg #[.bool false, .slice none 0 0, .int .i64 (0 : Int)], .int .i64 (10 : Int)])) h') :
    Ent Tryz.prog B 30 #[.int .i64 b] R h := by
  refine F21_ok _ (alK fun r2 h3 e2 f2 o2 z2 => alK fun r4 h5 e4 f4 o4 z4 => K63n hf ⟨_, _, _, _, rfl, F64_ok _ _ _ _ (alK fun r5 h6 e5 f5 o5 z5 => ⟨fun _ => ⟨Ent62, ?_⟩, fun e => (by cases e)⟩)⟩)
  refine K62p (o4.ext f5) fun h7 f7 O4 => ?_
  have O2 : Own h7 r2 #[.bool false, .slice none 0 0, .int .i64 (0 : Int)] := ((o2.ext f4).ext f5).fr f7 (by omega)
  refine ⟨r2, 0, rfl, _, O2.cell _, _, _, _, O2.cell _, _, O2.cell _, r4, 0, rfl, _, O4.cell _, H h7 ?_⟩
  exact Fr.trans (Ext.trans f2 (Ext.trans f4 f5)) f7 fun x hx e => by omega
/-- dyadic.Of. -/
theorem K21g {b : Int} (ht : TabH h) (H : ∀ neg p n c e err h', Ext h h' → (isFin b = true → err = 0 ∧ NumS 1074 h' neg p n e (fV b)) → (isFin b = false → err = 10) → R (.returned (.tuple #[.agg #[.bool neg, .slice p n c, .int .i64 e], .int .i64 err])) h') :
    Ent Tryz.prog B 30 #[.int .i64 b] R h := by
  cases hf : isFin b
  · exact K21n hf fun h' f => H _ _ _ _ _ _ h' f (fun e => by rw [hf] at e; cases e) fun _ => rfl
  · exact K21 ht hf fun neg p n c e h' f _ N => H neg p n c e 0 h' f (fun _ => ⟨rfl, N⟩) fun e => by rw [hf] at e; cases e
end Go.Proofs
namespace Go.Proofs
open Go Go.Eng
/-- math.Copysign -/
def F137 (B : World) (R : Po) (a0 b0 : Nat) (h : Heap) : Prop :=
 Ec B 47 #[.float .f64 a0] (retE (fun c0 d0 => ∃ e0, c0 = .int .u64 e0 ∧
 Ec B 47 #[.float .f64 b0] (retE (fun f0 g0 => ∃ i0, f0 = .int .u64 i0 ∧
 Ec B 46 #[.int .u64 (bitsI .or .u64 (bitsI .andNot .u64 e0 (9223372036854775808 : Int)) (bitsI .and .u64 i0 (9223372036854775808 : Int)))] (retE (fun j0 k0 => ∃ l0, j0 = .float .f64 l0 ∧
 R (.returned (.float .f64 l0)) k0)
(pk R)) g0)
(pk R)) d0)
(pk R)) h
def F137_L : Nat → List (Nat × TypeDesc) := fun _ => []
theorem F137_ok {B : World} {R : Ending → Heap → Prop} (a0 b0 : Nat) {h : Heap} (H : F137 B R a0 b0 h) : Ec B 78 #[.float .f64 a0, .float .f64 b0] R h :=
 Ek Tryz.func78 (by kernel_rfl) (by kernel_rfl) (by kernel_rfl) F137_L [] (by kernel_rfl) H

/-- math.Ldexp -/
def F93 (B : World) (R : Po) (a0 : Nat) (b0 : Int) (h : Heap) : Prop :=
(false = true →
 Ec B 44 #[.float .f64 a0, .int .i64 b0] (retE (fun c0 d0 => ∃ e0, c0 = .float .f64 e0 ∧
 R (.returned (.float .f64 e0)) d0)
(pk R)) h) ∧
(false = false →
 Ec B 45 #[.float .f64 a0, .int .i64 b0] (retE (fun f0 g0 => ∃ i0, f0 = .float .f64 i0 ∧
 R (.returned (.float .f64 i0)) g0)
(pk R)) h)
def F93_L : Nat → List (Nat × TypeDesc) := fun _ => []
theorem F93_ok {B : World} {R : Ending → Heap → Prop} (a0 : Nat) (b0 : Int) {h : Heap} (H : F93 B R a0 b0 h) : Ec B 25 #[.float .f64 a0, .int .i64 b0] R h :=
 Ek Tryz.func25 (by kernel_rfl) (by kernel_rfl) (by kernel_rfl) F93_L [] (by kernel_rfl) H
end Go.Proofs
namespace Go.Proofs
open Go Go.Eng
/-- math.ldexp -/
def F152_j39 (B : World) (R : Po) (a0 b0 : Int) (c0 : Nat) (d0 : Heap) : Prop :=
  0 ≤ (52 : Int) ∧
 Ec B 46 #[.int .u64 (bitsI .or .u64 (bitsI .andNot .u64 b0 (9218868437227405312 : Int)) (IntKind.u64.wrap ((IntKind.u64.wrap (IntKind.i64.wrap (a0 + (1023 : Int)))) * 2 ^ min (Int.toNat (52 : Int)) IntKind.u64.bits)))] (retE (fun e0 f0 => ∃ g0, e0 = .float .f64 g0 ∧
 flW .f64 (FloatKind.f64.format.mul c0 g0) c0 g0 fun i0 =>
 R (.returned (.float .f64 i0)) f0)
(pk R)) d0
def F152_j8 (B : World) (R : Po) (j0 : Nat) (k0 : Int) (l0 : Bool) (m0 : Heap) : Prop :=
(l0 = true →
 R (.returned (.float .f64 j0)) m0) ∧
(l0 = false →
 Ec B 77 #[.float .f64 j0] (retE (fun n0 o0 => ∃ p0 q0, n0 = .tuple #[.float .f64 p0, .int .i64 q0] ∧
 Ec B 47 #[.float .f64 p0] (retE (fun r0 s0 => ∃ t0, r0 = .int .u64 t0 ∧
0 ≤ (52 : Int) ∧
((decide ((IntKind.i64.wrap ((IntKind.i64.wrap (k0 + q0)) + (IntKind.i64.wrap ((bitsI .and .i64 (IntKind.i64.wrap (Int.fdiv t0 (2 ^ min (Int.toNat (52 : Int)) IntKind.u64.bits))) (2047 : Int)) - (1023 : Int))))) < (-1075 : Int))) = true →
 Ec B 78 #[.float .f64 0, .float .f64 p0] (retE (fun u0 v0 => ∃ w0, u0 = .float .f64 w0 ∧
 R (.returned (.float .f64 w0)) v0)
(pk R)) s0) ∧
((decide ((IntKind.i64.wrap ((IntKind.i64.wrap (k0 + q0)) + (IntKind.i64.wrap ((bitsI .and .i64 (IntKind.i64.wrap (Int.fdiv t0 (2 ^ min (Int.toNat (52 : Int)) IntKind.u64.bits))) (2047 : Int)) - (1023 : Int))))) < (-1075 : Int))) = false →
((decide ((1023 : Int) < (IntKind.i64.wrap ((IntKind.i64.wrap (k0 + q0)) + (IntKind.i64.wrap ((bitsI .and .i64 (IntKind.i64.wrap (Int.fdiv t0 (2 ^ min (Int.toNat (52 : Int)) IntKind.u64.bits))) (2047 : Int)) - (1023 : Int))))))) = true →
((FloatKind.f64.format.order p0 0 == some .lt) = true →
 Ec B 79 #[.int .i64 (-1 : Int)] (retE (fun x0 y0 => ∃ z0, x0 = .float .f64 z0 ∧
 R (.returned (.float .f64 z0)) y0)
(pk R)) s0) ∧
((FloatKind.f64.format.order p0 0 == some .lt) = false →
 Ec B 79 #[.int .i64 (1 : Int)] (retE (fun a1 b1 => ∃ c1, a1 = .float .f64 c1 ∧
 R (.returned (.float .f64 c1)) b1)
(pk R)) s0)) ∧
((decide ((1023 : Int) < (IntKind.i64.wrap ((IntKind.i64.wrap (k0 + q0)) + (IntKind.i64.wrap ((bitsI .and .i64 (IntKind.i64.wrap (Int.fdiv t0 (2 ^ min (Int.toNat (52 : Int)) IntKind.u64.bits))) (2047 : Int)) - (1023 : Int))))))) = false →
((decide ((IntKind.i64.wrap ((IntKind.i64.wrap (k0 + q0)) + (IntKind.i64.wrap ((bitsI .and .i64 (IntKind.i64.wrap (Int.fdiv t0 (2 ^ min (Int.toNat (52 : Int)) IntKind.u64.bits))) (2047 : Int)) - (1023 : Int))))) < (-1022 : Int))) = true →
 F152_j39 B R (IntKind.i64.wrap ((IntKind.i64.wrap ((IntKind.i64.wrap (k0 + q0)) + (IntKind.i64.wrap ((bitsI .and .i64 (IntKind.i64.wrap (Int.fdiv t0 (2 ^ min (Int.toNat (52 : Int)) IntKind.u64.bits))) (2047 : Int)) - (1023 : Int))))) + (53 : Int))) t0 4368491638549381120 s0) ∧
((decide ((IntKind.i64.wrap ((IntKind.i64.wrap (k0 + q0)) + (IntKind.i64.wrap ((bitsI .and .i64 (IntKind.i64.wrap (Int.fdiv t0 (2 ^ min (Int.toNat (52 : Int)) IntKind.u64.bits))) (2047 : Int)) - (1023 : Int))))) < (-1022 : Int))) = false →
 F152_j39 B R (IntKind.i64.wrap ((IntKind.i64.wrap (k0 + q0)) + (IntKind.i64.wrap ((bitsI .and .i64 (IntKind.i64.wrap (Int.fdiv t0 (2 ^ min (Int.toNat (52 : Int)) IntKind.u64.bits))) (2047 : Int)) - (1023 : Int))))) t0 4607182418800017408 s0))))
(pk R)) o0)
(pk R)) m0)
def F152 (B : World) (R : Po) (d1 : Nat) (e1 : Int) (h : Heap) : Prop :=
((FloatKind.f64.format.order d1 0 == some .eq) = true →
 R (.returned (.float .f64 d1)) h) ∧
((FloatKind.f64.format.order d1 0 == some .eq) = false →
 Ec B 75 #[.float .f64 d1, .int .i64 (0 : Int)] (retE (fun f1 g1 => ∃ i1, f1 = .bool i1 ∧
(i1 = true →
 F152_j8 B R d1 e1 true g1) ∧
(i1 = false →
 Ec B 76 #[.float .f64 d1] (retE (fun j1 k1 => ∃ l1, j1 = .bool l1 ∧
 F152_j8 B R d1 e1 l1 k1)
(pk R)) g1))
(pk R)) h)
def F152_L : Nat → List (Nat × TypeDesc) := fun _ => []
theorem F152_ok {B : World} {R : Ending → Heap → Prop} (d1 : Nat) (e1 : Int) {h : Heap} (H : F152 B R d1 e1 h) : Ec B 45 #[.float .f64 d1, .int .i64 e1] R h :=
 Ek Tryz.func45 (by kernel_rfl) (by kernel_rfl) (by kernel_rfl) F152_L [] (by kernel_rfl) H

/-- math.IsNaN -/
def F183 (B : World) (R : Po) (a0 : Nat) (h : Heap) : Prop :=
 R (.returned (.bool (FloatKind.f64.format.order a0 a0 != some .eq))) h
def F183_L : Nat → List (Nat × TypeDesc) := fun _ => []
theorem F183_ok {B : World} {R : Ending → Heap → Prop} (a0 : Nat) {h : Heap} (H : F183 B R a0 h) : Ec B 76 #[.float .f64 a0] R h :=
 Ek Tryz.func76 (by kernel_rfl) (by kernel_rfl) (by kernel_rfl) F183_L [] (by kernel_rfl) H

/-- math.normalize -/
def F184 (B : World) (R : Po) (a0 : Nat) (h : Heap) : Prop :=
 Ec B 26 #[.float .f64 a0] (retE (fun b0 c0 => ∃ d0, b0 = .float .f64 d0 ∧
((FloatKind.f64.format.order d0 4503599627370496 == some .lt) = true →
 flW .f64 (FloatKind.f64.format.mul a0 4841369599423283200) a0 4841369599423283200 fun e0 =>
 R (.returned (.tuple #[.float .f64 e0, .int .i64 (-52 : Int)])) c0) ∧
((FloatKind.f64.format.order d0 4503599627370496 == some .lt) = false →
 R (.returned (.tuple #[.float .f64 a0, .int .i64 (0 : Int)])) c0))
(pk R)) h
def F184_L : Nat → List (Nat × TypeDesc) := fun _ => []
theorem F184_ok {B : World} {R : Ending → Heap → Prop} (a0 : Nat) {h : Heap} (H : F184 B R a0 h) : Ec B 77 #[.float .f64 a0] R h :=
 Ek Tryz.func77 (by kernel_rfl) (by kernel_rfl) (by kernel_rfl) F184_L [] (by kernel_rfl) H

/-- math.Inf -/
def F185_j2 (B : World) (R : Po) (a0 : Int) (b0 : Heap) : Prop :=
 Ec B 46 #[.int .u64 a0] (retE (fun c0 d0 => ∃ e0, c0 = .float .f64 e0 ∧
 R (.returned (.float .f64 e0)) d0)
(pk R)) b0
def F185 (B : World) (R : Po) (f0 : Int) (h : Heap) : Prop :=
((decide ((0 : Int) ≤ f0)) = true →
 F185_j2 B R (9218868437227405312 : Int) h) ∧
((decide ((0 : Int) ≤ f0)) = false →
 F185_j2 B R (18442240474082181120 : Int) h)
def F185_L : Nat → List (Nat × TypeDesc) := fun _ => []
theorem F185_ok {B : World} {R : Ending → Heap → Prop} (f0 : Int) {h : Heap} (H : F185 B R f0 h) : Ec B 79 #[.int .i64 f0] R h :=
 Ek Tryz.func79 (by kernel_rfl) (by kernel_rfl) (by kernel_rfl) F185_L [] (by kernel_rfl) H
end Go.Proofs
namespace Go.Proofs
open Go Go.Eng
variable {B : World} {R : Ending → Heap → Prop} {h : Heap}
theorem order_fin {a b : Int} (ha : I64 a) (hb : I64 b) (fa : isFin a = true) (fb : isFin b = true) : (FloatKind.f64.format.order (wd a) (wd b) == some .lt) = decide (fV a < fV b) := by
  have ea : Ieee.double.read (wd a) = .number (decide (a < 0)) (fM a) (fX a) := by
    rw [read_wd ha, if_pos]; unfold isFin at fa; exact of_decide_eq_true fa
  have eb : Ieee.double.read (wd b) = .number (decide (b < 0)) (fM b) (fX b) := by
    rw [read_wd hb, if_pos]; unfold isFin at fb; exact of_decide_eq_true fb
  have e0 : FloatKind.f64.format.order (wd a) (wd b) = (Ieee.double.read (wd a)).order (Ieee.double.read (wd b)) := rfl
  have ho : ∀ s m i t n j, Ieee.Datum.order (.number s m i) (.number t n j) = some (compare (Ieee.signed s m (i - min i j).toNat) (Ieee.signed t n (j - min i j).toNat)) := fun _ _ _ _ _ _ => rfl
  rw [e0, ea, eb, ho]
  have ga := fX_ge a
  have gb := fX_ge b
  rw [fV_at, fV_at]
  obtain ⟨b0, h0, h1, h2, h3⟩ : ∃ z, min (fX a) (fX b) = z ∧ z ≤ fX a ∧ z ≤ fX b ∧ -1074 ≤ z := ⟨_, rfl, by omega, by omega, by omega⟩
  rw [h0, show (fX a - (-1074)).toNat = (fX a - b0).toNat + (b0 + 1074).toNat by omega, show (fX b - (-1074)).toNat = (fX b - b0).toNat + (b0 + 1074).toNat by omega, signed_add, signed_add]
  generalize Ieee.signed (decide (a < 0)) (fM a) (fX a - b0).toNat = x
  generalize Ieee.signed (decide (b < 0)) (fM b) (fX b - b0).toNat = y
  generalize (b0 + 1074).toNat = kk
  have hk : (0 : Int) < ((2 ^ kk : Nat) : Int) := Int.natCast_pos.2 (Nat.pow_pos (by decide))
  generalize ((2 ^ kk : Nat) : Int) = k at hk
  have e : (x * k < y * k) ↔ (x < y) := Int.mul_lt_mul_right hk
  rw [show decide (x * k < y * k) = decide (x < y) by rw [decide_eq_decide]; exact e]
  show (some (compareOfLessAndEq x y) == some Ordering.lt) = _
  unfold compareOfLessAndEq
  by_cases hlt : x < y
  · rw [if_pos hlt, decide_eq_true hlt]; rfl
  · rw [if_neg hlt, decide_eq_false hlt]
    split <;> rfl
def absP (b : Int) : Int := if b < 0 then b + 9223372036854775808 else b
end Go.Proofs
namespace Go.Eng
open Go
/-- n rounded to 53 bits. -/
def R53 (n : Nat) : Nat := rn n (n.log2 - 52) * 2 ^ (n.log2 - 52)
theorem R53_zero : R53 0 = 0 := by decide
theorem log2_of {n k : Nat} (h1 : 2 ^ k ≤ n) (h2 : n < 2 ^ (k + 1)) : n.log2 = k := by
  have h0 : n ≠ 0 := by have : 0 < 2 ^ k := Nat.pow_pos (by decide); omega
  exact (Nat.log2_eq_iff h0).2 ⟨h1, h2⟩
theorem R53_at {n j : Nat} (h1 : 2 ^ (52 + j) ≤ n) (h2 : n < 2 ^ (53 + j)) : R53 n = rn n j * 2 ^ j := by
  have : n.log2 = 52 + j := log2_of h1 (by rw [show 52 + j + 1 = 53 + j by omega]; exact h2)
  unfold R53
  rw [this, Nat.add_sub_cancel_left]
theorem R53_small {n : Nat} (h : n < 2 ^ 53) : R53 n = n := by
  unfold R53
  have : n.log2 - 52 = 0 := by
    by_cases h0 : n = 0
    · subst h0; decide
    · have := (Nat.log2_lt h0).2 h; omega
  rw [this, rn_zero, Nat.pow_zero, Nat.mul_one]
theorem rn_near (n d : Nat) : 2 * (rn n d * 2 ^ d) ≤ 2 * n + 2 ^ d ∧ 2 * n ≤ 2 * (rn n d * 2 ^ d) + 2 ^ d := by
  have hd := Nat.div_add_mod n (2 ^ d)
  have hm := Nat.mod_lt n (Nat.pow_pos (by decide : 0 < 2) : 0 < 2 ^ d)
  unfold rn
  rw [Nat.mul_comm] at hd
  split
  · rw [Nat.add_mul, Nat.one_mul]; omega
  · rw [Nat.add_zero]; omega
end Go.Eng
namespace Go.Eng
open Go
/-- A whole number rounded to 53 bits. -/
def rndI (v : Int) : Int := Ieee.signed (decide (v < 0)) (R53 v.natAbs) 0
theorem signed_nat (s : Bool) (m j : Nat) : Ieee.signed s m j = if s then -((m * 2 ^ j : Nat) : Int) else ((m * 2 ^ j : Nat) : Int) := by
  unfold Ieee.signed; rw [Nat.shiftLeft_eq]
theorem pat_neg (neg : Bool) {r : Nat} (hr : r < 9223372036854775808) : decide (pat neg r < 0) = neg := by
  cases neg
  · show decide (((r : Nat) : Int) < 0) = false
    exact decide_eq_false (by omega)
  · show decide (((r : Nat) : Int) - 9223372036854775808 < 0) = true
    exact decide_eq_true (by omega)
theorem pat_fE (neg : Bool) {r : Nat} (hr : r < 9223372036854775808) : fE (pat neg r) = r / 4503599627370496 := by
  unfold fE
  cases neg
  · show ((((r : Nat) : Int)) / 4503599627370496 % 2048).toNat = _
    omega
  · show ((((r : Nat) : Int) - 9223372036854775808) / 4503599627370496 % 2048).toNat = _
    omega
theorem pat_fT (neg : Bool) {r : Nat} (hr : r < 9223372036854775808) : fT (pat neg r) = r % 4503599627370496 := by
  unfold fT
  cases neg
  · show ((((r : Nat) : Int)) % 4503599627370496).toNat = _
    omega
  · show ((((r : Nat) : Int) - 9223372036854775808) % 4503599627370496).toNat = _
    omega
theorem fV_pat (neg : Bool) {j k : Nat} (hk : k ≤ 9007199254740992) (hn : j ≠ 0 → 4503599627370496 ≤ k) (hr : j * 4503599627370496 + k < 9218868437227405312) :
    isFin (pat neg (j * 4503599627370496 + k)) = true ∧ fV (pat neg (j * 4503599627370496 + k)) = Ieee.signed neg k j := by
  have h63 : j * 4503599627370496 + k < 9223372036854775808 := by omega
  have e1 := pat_fE neg h63
  have e2 := pat_fT neg h63
  have e3 := pat_neg neg h63
  refine ⟨?_, ?_⟩
  · unfold isFin; rw [e1]; exact decide_eq_true (by omega)
  unfold fV fM fX
  rw [e1, e2, e3]
  rcases Nat.lt_or_ge k 4503599627370496 with h | h
  · have hj : j = 0 := by
      rcases Nat.eq_zero_or_pos j with h0 | h0
      · exact h0
      · have := hn (by omega); omega
    subst hj
    have a1 : (0 * 4503599627370496 + k) / 4503599627370496 = 0 := by omega
    have a2 : (0 * 4503599627370496 + k) % 4503599627370496 = k := by omega
    rw [a1, a2]; rfl
  · rcases Nat.lt_or_ge k 9007199254740992 with h' | h'
    · have a1 : (j * 4503599627370496 + k) / 4503599627370496 = j + 1 := by omega
      have a2 : (j * 4503599627370496 + k) % 4503599627370496 = k - 4503599627370496 := by omega
      rw [a1, a2, if_neg (by omega), if_neg (by omega), show 4503599627370496 + (k - 4503599627370496) = k by omega, show (((j + 1 : Nat) : Int) - 1075 + 1074).toNat = j by omega]
    · have hk' : k = 9007199254740992 := by omega
      subst hk'
      have a1 : (j * 4503599627370496 + 9007199254740992) / 4503599627370496 = j + 2 := by omega
      have a2 : (j * 4503599627370496 + 9007199254740992) % 4503599627370496 = 0 := by omega
      rw [a1, a2, if_neg (by omega), if_neg (by omega), show (((j + 2 : Nat) : Int) - 1075 + 1074).toNat = j + 1 by omega, signed_nat, signed_nat, Nat.pow_succ]
      have : (4503599627370496 + 0) * (2 ^ j * 2) = 9007199254740992 * 2 ^ j := by omega
      rw [this]
theorem fin_not {a : Int} (h : isFin a = true) : isNaN a = false ∧ isInf a = false := by
  unfold isFin at h
  have := of_decide_eq_true h
  unfold isNaN isInf
  have : decide (fE a = 2047) = false := decide_eq_false (by omega)
  rw [this]; exact ⟨rfl, rfl⟩
end Go.Eng
namespace Go.Eng
open Go
/-- A sign and a size. -/
def sgv (s : Bool) (n : Nat) : Int := if s then -(n : Int) else (n : Int)
theorem rndI_sgv (s : Bool) (n : Nat) : rndI (sgv s n) = sgv s (R53 n) := by
  unfold rndI sgv
  cases s
  · simp only [Bool.false_eq_true, if_false]
    rw [decide_eq_false (by omega), Int.natAbs_natCast]
    show Ieee.signed false (R53 n) 0 = _
    rw [signed_nat, Nat.pow_zero, Nat.mul_one]; rfl
  · simp only [if_true]
    by_cases h : n = 0
    · subst h; rw [R53_zero]; rfl
    · rw [decide_eq_true (by omega), Int.natAbs_neg, Int.natAbs_natCast, signed_nat, Nat.pow_zero, Nat.mul_one]; rfl
theorem sgv_abs (s : Bool) (n : Nat) : (sgv s n).natAbs = n := by unfold sgv; cases s <;> simp
theorem sgv_of (X : Int) : ∃ s, X = sgv s X.natAbs := by
  by_cases h : X < 0
  · exact ⟨true, by unfold sgv; simp only [if_true]; omega⟩
  · exact ⟨false, by unfold sgv; simp only [Bool.false_eq_true, if_false]; omega⟩
end Go.Eng
namespace Go.Proofs
open Go Go.Eng
variable {B : World} {R : Ending → Heap → Prop} {h : Heap}
abbrev ONE : Nat := 4607182418800017408
theorem abs_I64 {b : Int} (hb : I64 b) : I64 (absP b) := by unfold I64 at *; unfold absP; split <;> omega
theorem abs_fields (b : Int) : fE (absP b) = fE b ∧ fT (absP b) = fT b := by
  unfold absP fE fT
  split
  · constructor <;> omega
  · exact ⟨rfl, rfl⟩
theorem abs_fV {b : Int} (hb : I64 b) : isFin (absP b) = isFin b ∧ fV (absP b) = ((fV b).natAbs : Int) := by
  obtain ⟨e1, e2⟩ := abs_fields b
  refine ⟨by unfold isFin; rw [e1], ?_⟩
  have hn : decide (absP b < 0) = false := by
    unfold I64 at hb
    apply decide_eq_false; unfold absP; split <;> omega
  have hm : fM (absP b) = fM b := by unfold fM; rw [e1, e2]
  have hx : fX (absP b) = fX b := by unfold fX; rw [e1]
  unfold fV
  rw [signed_abs, hn, hm, hx, signed_nat]; rfl
end Go.Proofs
