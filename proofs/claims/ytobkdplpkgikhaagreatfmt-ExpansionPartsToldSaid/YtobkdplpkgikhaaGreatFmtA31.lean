import Derived.Test.YtobkdplpkgikhaaGreatFmtA30
import Derived.Test.YtobkdplpkgikhaaGreatFmtA09
/- Here stand lemmas and contracts, in the order in which they are used. -/
set_option linter.unusedVariables false
namespace Go.Proofs
open Go Go.Eng
variable {B : World} {R : Ending → Heap → Prop} {h : Heap}
/-- A word that is told as the pattern i. -/
def WI (w : Nat) (i : Int) : Prop := w < 18446744073709551616 ∧ nrm (sg w) = i
theorem wi_wd {a : Int} (ha : I64 a) : WI (wd a) (nrm a) := ⟨wd_lt a, by rw [sg_wd ha]⟩
theorem WI.add {x y : Nat} {i j : Int} {K : Nat → Prop} (hx : WI x i) (hy : WI y j) (H : ∀ z, WI z (addP i j) → K z) : flW .f64 (FloatKind.f64.format.add x y) x y K :=
  fadd_in hx.1 hy.1 fun z h1 h2 => H z ⟨h1, by rw [h2, hx.2, hy.2]⟩
theorem WI.sub {x y : Nat} {i j : Int} {K : Nat → Prop} (hx : WI x i) (hy : WI y j) (H : ∀ z, WI z (subP i j) → K z) : flW .f64 (FloatKind.f64.format.sub x y) x y K :=
  fsub_in hx.1 hy.1 fun z h1 h2 => H z ⟨h1, by rw [h2, hx.2, hy.2]⟩
theorem WI.mul {x y : Nat} {i j : Int} {K : Nat → Prop} (hx : WI x i) (hy : WI y j) (H : ∀ z, WI z (mulP i j) → K z) : flW .f64 (FloatKind.f64.format.mul x y) x y K :=
  fmul_in hx.1 hy.1 fun z h1 h2 => H z ⟨h1, by rw [h2, hx.2, hy.2]⟩
theorem nrm_nan (a : Int) : isNaN (nrm a) = isNaN a := by
  unfold nrm; split
  · rename_i h; rw [h]; exact isNaN_NaNP
  · rfl
theorem nrm_inf (a : Int) : isInf (nrm a) = isInf a := by
  unfold nrm; split
  · rename_i h; rw [nan_inf h]; exact isInf_NaNP
  · rfl
theorem fin_eq (a : Int) : isFin a = (!isNaN a && !isInf a) := by
  have := fE_lt a
  unfold isFin isNaN isInf
  by_cases h1 : fE a = 2047
  · by_cases h2 : fT a = 0 <;> simp [h1, h2]
  · have h3 : fE a < 2047 := by omega
    simp [h1, h3]
theorem nrm_fin (a : Int) : isFin (nrm a) = isFin a := by rw [fin_eq, fin_eq, nrm_nan, nrm_inf]
theorem fin_nrm {a : Int} (h : isFin a = true) : nrm a = a := by
  rw [fin_eq] at h
  unfold nrm
  cases hn : isNaN a
  · simp
  · rw [hn] at h; simp at h
theorem WI.fin {w : Nat} {i : Int} (h : WI w i) : isFin (sg w) = isFin i := by rw [← h.2, nrm_fin]
theorem WI.nan {w : Nat} {i : Int} (h : WI w i) : isNaN (sg w) = isNaN i := by rw [← h.2, nrm_nan]
theorem WI.eq {w : Nat} {i : Int} (h : WI w i) (hn : isNaN i = false) : sg w = i := by
  have := h.2
  unfold nrm at this
  rw [h.nan, hn] at this
  exact this
theorem WI.i64 {w : Nat} {i : Int} (h : WI w i) : I64 i := by
  have := h.2
  unfold nrm at this
  split at this
  · rw [← this]; exact NaNP_I64
  · rw [← this]; exact sg_I64 h.1
/-- bits.Float. -/
theorem K54 {a : Int} (H : R (.returned (.float .f64 (wd a))) h) : Ent Tryz.prog B 27 #[.int .i64 a] R h := by
  have e : IntKind.u64.wrap a = ((wd a : Nat) : Int) := by
    have e0 : IntKind.u64.wrap a = a % 18446744073709551616 := rfl
    rw [e0]; unfold wd; omega
  refine F54_ok _ ?_
  unfold F54
  rw [e]
  exact E116 ⟨_, rfl, H⟩
/-- bits.Of. -/
theorem K56 {w : Nat} {i : Int} (hw : WI w i) (H : R (.returned (.int .i64 i)) h) : Ent Tryz.prog B 68 #[.float .f64 w] R h := by
  have ho : (FloatKind.f64.format.order w w != some .eq) = isNaN (sg w) := order_self hw.1
  refine F56_ok _ ⟨fun e => ?_, fun e => ?_⟩
  · rw [ho] at e
    have : i = NaNP := by rw [← hw.2]; unfold nrm; rw [if_pos e]
    rw [this] at H; exact H
  · rw [ho] at e
    refine E117 ⟨_, rfl, ?_⟩
    have : IntKind.i64.wrap (w : Int) = sg w := by
      have e0 : IntKind.i64.wrap (w : Int) = if (true && decide ((w : Int) % 18446744073709551616 ≥ 9223372036854775808)) = true then (w : Int) % 18446744073709551616 - 18446744073709551616 else (w : Int) % 18446744073709551616 := rfl
      have := hw.1
      rw [e0]
      unfold sg
      simp only [Bool.true_and, decide_eq_true_eq]
      split <;> split <;> omega
    rw [this, hw.eq (by rw [← hw.nan]; exact e)]
    exact H
theorem andNot_top {w : Nat} (hw : w < 18446744073709551616) : bitsI .andNot .u64 (w : Int) (9223372036854775808 : Int) = ((w % 9223372036854775808 : Nat) : Int) := by
  have h1 : bitsI .andNot .u64 (w : Int) (9223372036854775808 : Int) = IntKind.u64.wrap (((BitVec.ofInt 64 (w : Int) &&& ~~~(BitVec.ofInt 64 (9223372036854775808 : Int))).toNat : Nat) : Int) := rfl
  have h2 : ~~~(BitVec.ofInt 64 (9223372036854775808 : Int)) = BitVec.ofNat 64 9223372036854775807 := by decide
  rw [h1, h2, ofInt_nat, BitVec.toNat_and, BitVec.toNat_ofNat, BitVec.toNat_ofNat, Nat.mod_eq_of_lt (by omega : w < 2 ^ 64), Nat.mod_eq_of_lt (by omega : 9223372036854775807 < 2 ^ 64)]
  rw [show w &&& 9223372036854775807 = w % 2 ^ 63 from Nat.and_two_pow_sub_one_eq_mod w 63, wrap_u64_nat]
  omega
/-- math.IsInf, of either sign. -/
theorem K118 {w : Nat} (hw : w < 18446744073709551616) (H : R (.returned (.bool (isInf (sg w)))) h) : Ent Tryz.prog B 75 #[.float .f64 w, .int .i64 (0 : Int)] R h := by
  refine F118_ok _ _ ⟨fun _ => F94_ok _ (E117 ⟨_, rfl, ?_⟩), fun e => by cases e⟩
  rw [andNot_top hw]
  refine E116 ⟨_, rfl, _, rfl, ?_⟩
  have hi : isInf ((w % 9223372036854775808 : Nat) : Int) = isInf (sg w) := by
    have key : fE ((w % 9223372036854775808 : Nat) : Int) = fE (sg w) ∧ fT ((w % 9223372036854775808 : Nat) : Int) = fT (sg w) := by
      unfold fE fT sg
      split <;> omega
    unfold isInf
    rw [key.1, key.2]
  have := isInf_rung (r := w % 9223372036854775808) (Nat.mod_lt _ (by decide))
  show R (.returned (.bool (Ieee.double.order (w % 9223372036854775808) 9218868437227405311 == some .gt))) h
  rw [this, hi]; exact H
/-- Floats in a block. -/
def Fv (l : List Nat) : List Value := l.map fun w : Nat => Value.float .f64 w
/-- eft.finite. -/
theorem K59 {r n c : Nat} {ws : List Nat} (O : Own h r (Fv ws).toArray) (hn : ws.length = n) (hl : n ≤ 1000000) (hw : ∀ w ∈ ws, w < 18446744073709551616)
    (H : R (.returned (.bool (ws.all fun w => isFin (sg w)))) h) : Ent Tryz.prog B 71 #[.slice (some ⟨r, 0, none⟩) n c] R h := by
  refine F59_ok _ _ _ ⟨fun m vs h' => match vs with
    | [.slice p n1 c1, .int _ nn, .int _ i] => p = some (⟨r, 0, none⟩ : Addr) ∧ n = n1 ∧ c = c1 ∧ nn = (n : Int) ∧ h = h' ∧ ∃ j : Nat, i = (j : Int) ∧ j ≤ n ∧ m = n - j ∧ ((ws.take j).all fun w => isFin (sg w)) = true
    | _ => False, n, ⟨rfl, rfl, rfl, rfl, rfl, 0, rfl, by omega, rfl, rfl⟩, ?_⟩
  rintro m h' _ _ _ _ _ ⟨rfl, rfl, rfl, rfl, rfl, j, rfl, hj, rfl, ha⟩ _
  refine ⟨fun e => ?_, fun e => ?_⟩
  · have hjn : j < n := by have := of_decide_eq_true e; omega
    have hwj : ws[j]'(by omega) < 18446744073709551616 := hw _ (List.getElem_mem _)
    refine ⟨r, 0, rfl, by omega, by omega, r, _, rfl, ws[j]'(by omega), ?_, ?_⟩
    · rw [Int.toNat_natCast, Nat.zero_add, Nat.mul_one, O.cell]
      unfold Fv
      rw [List.getElem?_toArray, List.getElem?_map, List.getElem?_eq_getElem (by omega)]; rfl
    have ho : (FloatKind.f64.format.order (ws[j]'(by omega)) (ws[j]'(by omega)) != some .eq) = isNaN (sg (ws[j]'(by omega))) := order_self hwj
    have fls : isFin (sg (ws[j]'(by omega))) = false → R (.returned (.bool false)) h := by
      intro hf
      have : (ws.all fun w => isFin (sg w)) = false := by
        rw [List.all_eq_false]
        exact ⟨_, List.getElem_mem (show j < ws.length by omega), by rw [hf]; decide⟩
      rw [this] at H; exact H
    rw [ho]
    refine ⟨fun e1 => ⟨fun _ => fls ?_, fun e => (by cases e)⟩, fun e1 => K118 hwj ⟨_, rfl, fun e2 => fls ?_, fun e2 => ?_⟩⟩
    · rw [fin_eq, e1]; rfl
    · rw [fin_eq, e2]; simp
    · refine ⟨n - (j + 1), by omega, rfl, rfl, rfl, rfl, rfl, j + 1, by rw [i64_in (by omega) (by omega)]; rfl, by omega, rfl, ?_⟩
      rw [List.take_succ_eq_append_getElem (by omega), List.all_append, ha, List.all_cons, List.all_nil, fin_eq, e1, e2]; rfl
  · have hjn : j = n := by have := of_decide_eq_false e; omega
    rw [hjn, List.take_of_length_le (by omega)] at ha
    rw [ha] at H; exact H
/-- eft.num. -/
theorem K60 {w : Nat} {i : Int} (ht : TabH h) (hw : WI w i) (hf : isFin i = true) (H : ∀ neg p n c e h', Ext h h' → Fresh h p → NumS 1074 h' neg p n e (fV i) → R (.returned (.agg #[.bool neg, .slice p n c, .int .i64 e])) h') :
    Ent Tryz.prog B 73 #[.float .f64 w] R h := by
  refine F60_ok _ (alK fun r2 h3 e2 f2 o2 z2 => K56 hw ⟨_, rfl, K21 (ht.ext f2) hf fun neg p n c e h10 f10 fr N => ⟨_, _, _, _, _, _, rfl, alK fun r17 h18 e17 f17 o17 z17 => ⟨r17, 0, rfl, ?_⟩⟩⟩)
  refine o17.stL (by simp) rfl fun _ a1 g1 => a1.stL (by simp) rfl fun _ a2 g2 => a2.stL (by simp) rfl fun h23 a3 g3 => ?_
  have k := Fr.trans (S := fun x => x = r17) (Fr.trans (S := fun x => x = r17) g1 g2 fun _ _ e => e) g3 fun _ _ e => e
  have A3 : Own h23 r17 #[.bool neg, .slice p n c, .int .i64 e] := a3
  have F23 : Ext h10 h23 := Fr.trans f17 k fun x hx e => by omega
  have s10 := f10.size
  refine ⟨r17, 0, rfl, _, A3.cell _, _, _, _, A3.cell _, _, A3.cell _, ret3 (o2.ext (Ext.trans f10 F23)) fun h' f => ?_⟩
  exact H neg p n c e h' (Fr.trans (Ext.trans f2 (Ext.trans f10 F23)) f fun x hx e => by omega) (fr.mono (by omega)) ((N.ext F23).fr f fun b o e e3 => by have := fr b o e; omega)
/-- eft.just. -/
theorem K61 {wh wl : Nat} {ih il : Int} {K n c : Nat} {neg : Bool} {p : Option Addr} {e x : Int} (ht : TabH h) (hh : WI wh ih) (hl : WI wl il) (N : NumS K h neg p n e x) (hK1 : 1074 ≤ K) (hK : K ≤ 10000) (hx : bl x.natAbs ≤ 50000)
    (H : ∀ h', Ext h h' → R (.returned (.bool (justP K ih il x))) h') : Ent Tryz.prog B 74 #[.float .f64 wh, .float .f64 wl, .agg #[.bool neg, .slice p n c, .int .i64 e]] R h := by
  refine F61_ok _ _ _ _ _ _ _ (alK fun r6 h7 e6 f6 o6 z6 => alK fun r8 h9 e8 f8 o8 z8 => ?_)
  have F := Ext.trans f6 f8
  have hall : ([wh, wl].all fun w => isFin (sg w)) = (isFin ih && isFin il) := by simp [hh.fin, hl.fin]
  refine K59 (ws := [wh, wl]) o8 rfl (by decide) (fun w hw => ?_) ⟨_, rfl, fun e0 => ?_, fun e0 => ?_⟩
  · rcases List.mem_cons.1 hw with e | hw
    · rw [e]; exact hh.1
    · rw [List.mem_singleton.1 hw]; exact hl.1
  · rw [hall] at e0
    have := H _ F
    unfold justP at this
    have e1 : (isFin ih && isFin il) = false := by revert e0; cases (isFin ih && isFin il) <;> simp
    rw [e1] at this
    exact this
  · rw [hall] at e0
    have e1 : (isFin ih && isFin il) = true := by revert e0; cases (isFin ih && isFin il) <;> simp
    obtain ⟨fh, fl⟩ := Bool.and_eq_true_iff.1 e1
    refine K60 (ht.ext F) hh fh fun n1 p1 l1 c1 e3 h16 f16 _ N1 => ⟨_, _, _, _, _, rfl, K60 (ht.ext (Ext.trans F f16)) hl fl fun n2 p2 l2 c2 e4 h23 f23 _ N2 => ⟨_, _, _, _, _, rfl, alK fun r29 h30 e29 f29 o29 z29 => ?_⟩⟩
    have b1 := fV_bl fh
    have b2 := fV_bl fl
    refine K119 (ht.ext (Ext.trans F (Ext.trans f16 (Ext.trans f23 f29)))) (numL2 o29 ((N1.ext f23).ext f29) (N2.ext f29)) (by decide) (by omega) (by omega) fun n3 p3 l3 c3 e5 h32 f32 _ N3 => ⟨_, _, _, _, _, _, rfl, alK fun r39 h40 e39 f39 o39 z39 => ⟨r39, 0, rfl, ?_⟩⟩
    refine o39.stL (by simp) rfl fun _ a1 g1 => a1.stL (by simp) rfl fun _ a2 g2 => a2.stL (by simp) rfl fun h45 a3 g3 => ?_
    have k := Fr.trans (S := fun x => x = r39) (Fr.trans (S := fun x => x = r39) g1 g2 fun _ _ e => e) g3 fun _ _ e => e
    have A3 : Own h45 r39 #[.bool n3, .slice p3 l3 c3, .int .i64 e5] := a3
    have F45 : Ext h32 h45 := Fr.trans f39 k fun x hx e => by omega
    have FX := Ext.trans f8 (Ext.trans f16 (Ext.trans f23 (Ext.trans f29 (Ext.trans f32 F45))))
    have O6 := o6.ext FX
    refine ⟨r39, 0, rfl, _, A3.cell _, _, _, _, A3.cell _, _, A3.cell _, r6, 0, rfl, _, O6.cell _, _, _, _, O6.cell _, _, O6.cell _, ?_⟩
    have N3' := (N3.ext F45).up (K - 1074)
    rw [show 1074 + (K - 1074) = K by omega] at N3'
    have FA := Ext.trans f6 FX
    have hbig : bl ((fV ih + fV il) * ((2 ^ (K - 1074) : Nat) : Int)).natAbs ≤ 50000 := by
      rw [Int.natAbs_mul, Int.natAbs_natCast]
      by_cases h0 : (fV ih + fV il).natAbs = 0
      · rw [h0, Nat.zero_mul]; decide
      · rw [bl_scale _ h0]
        have := bl_add b1 b2
        omega
    refine K28 N3' (N.ext FA) (by omega) hbig hx fun h57 f57 => ⟨_, _, rfl, fun _ => ?_, fun e => (by cases e)⟩
    have H' := H h57 (Ext.trans FA f57)
    unfold justP at H'
    rw [e1, Bool.true_and] at H'
    have hd : decide (((fV ih + fV il) * ((2 ^ (K - 1074) : Nat) : Int) - x).sign = 0) = decide ((fV ih + fV il) * ((2 ^ (K - 1074) : Nat) : Int) = x) := by
      rw [decide_eq_decide, Int.sign_eq_zero_iff_zero]; omega
    show R (.returned (.bool (decide (_ = (0 : Int))))) h57
    rw [hd]; exact H'
/-- eft.sum. -/
theorem K57 {wh wl wa wb : Nat} {ih il ia ib : Int} (ht : TabH h) (hh : WI wh ih) (hl : WI wl il) (ha : WI wa ia) (hb : WI wb ib) (H : ∀ h', Ext h h' → R (.returned (.bool (sumOk ih il ia ib))) h') :
    Ent Tryz.prog B 69 #[.float .f64 wh, .float .f64 wl, .float .f64 wa, .float .f64 wb] R h := by
  refine F57_ok _ _ _ _ (alK fun r5 h6 e5 f5 o5 z5 => ?_)
  have hall : ([wa, wb, wh, wl].all fun w => isFin (sg w)) = (isFin ia && isFin ib && (isFin ih && isFin il)) := by simp [hh.fin, hl.fin, ha.fin, hb.fin, Bool.and_assoc]
  refine K59 (ws := [wa, wb, wh, wl]) o5 rfl (by decide) (fun w hw => ?_) ⟨_, rfl, fun e0 => ?_, fun e0 => ?_⟩
  · simp only [List.mem_cons, List.not_mem_nil, or_false] at hw
    rcases hw with e | e | e | e <;> subst e
    · exact ha.1
    · exact hb.1
    · exact hh.1
    · exact hl.1
  · rw [hall] at e0
    have := H _ f5
    unfold sumOk justP at this
    have e1 : (isFin ia && isFin ib && (isFin ih && isFin il)) = false := by revert e0; cases (isFin ia && isFin ib && (isFin ih && isFin il)) <;> simp
    rw [← Bool.and_assoc, e1] at this
    exact this
  · rw [hall] at e0
    have e1 : (isFin ia && isFin ib && (isFin ih && isFin il)) = true := by revert e0; cases (isFin ia && isFin ib && (isFin ih && isFin il)) <;> simp
    obtain ⟨e2, e3⟩ := Bool.and_eq_true_iff.1 e1
    obtain ⟨fa, fb⟩ := Bool.and_eq_true_iff.1 e2
    have b1 := fV_bl fa
    have b2 := fV_bl fb
    refine K60 (ht.ext f5) ha fa fun n1 p1 l1 c1 e3 h13 f13 _ N1 => ⟨_, _, _, _, _, rfl, K60 (ht.ext (Ext.trans f5 f13)) hb fb fun n2 p2 l2 c2 e4 h20 f20 _ N2 => ⟨_, _, _, _, _, rfl, ?_⟩⟩
    have F20 := Ext.trans f5 (Ext.trans f13 f20)
    refine K22 (ht.ext F20) (N1.ext f20) N2 (by decide) (by omega) (by omega) fun n3 p3 l3 c3 e5 h27 f27 _ N3 => ⟨_, _, _, _, _, _, rfl, alK fun r34 h35 e34 f34 o34 z34 => ⟨r34, 0, rfl, ?_⟩⟩
    refine o34.stL (by simp) rfl fun _ a1 g1 => a1.stL (by simp) rfl fun _ a2 g2 => a2.stL (by simp) rfl fun h40 a3 g3 => ?_
    have k := Fr.trans (S := fun x => x = r34) (Fr.trans (S := fun x => x = r34) g1 g2 fun _ _ e => e) g3 fun _ _ e => e
    have A3 : Own h40 r34 #[.bool n3, .slice p3 l3 c3, .int .i64 e5] := a3
    have F40 : Ext h27 h40 := Fr.trans f34 k fun x hx e => by omega
    have FA := Ext.trans F20 (Ext.trans f27 F40)
    refine ⟨r34, 0, rfl, _, A3.cell _, _, _, _, A3.cell _, _, A3.cell _, ?_⟩
    refine K61 (K := 1074) (ht.ext FA) hh hl (N3.ext F40) (by decide) (by decide) (Nat.le_trans (bl_add b1 b2) (by decide)) fun h' f => ⟨_, rfl, ?_⟩
    have := H h' (Ext.trans FA f)
    unfold sumOk at this
    rw [e2, Bool.true_and] at this
    exact this
end Go.Proofs
namespace Go.Proofs
open Go Go.Eng
variable {B : World} {R : Ending → Heap → Prop} {h : Heap}
/-- eft.twoSum. -/
theorem K55 {x y : Nat} {a b : Int} (hx : WI x (nrm a)) (hy : WI y (nrm b)) (H : ∀ p q, WI p (sumH a b) → WI q (sumL a b) → R (.returned (.tuple #[.float .f64 p, .float .f64 q])) h) : Ent Tryz.prog B 67 #[.float .f64 x, .float .f64 y] R h := by
  refine F55_ok _ _ (hx.add hy fun f3 w3 => (w3.sub hx) fun f4 w4 => (w3.sub w4) fun f5 w5 => (hx.sub w5) fun f6 w6 => (hy.sub w4) fun f7 w7 => (w6.add w7) fun f8 w8 => ?_)
  simp only [addP_nl, addP_nr, subP_nl, subP_nr] at w3 w8
  exact H f3 f8 w3 w8
/-- eft.TwoSum. -/
theorem K18 {a b : Int} (ht : TabH h) (ha : I64 a) (hb : I64 b) (H : ∀ h', Ext h h' → R (.returned (.tuple #[.int .i64 (sumH a b), .int .i64 (sumL a b), .bool (sumOk (sumH a b) (sumL a b) a b)])) h') : Ent Tryz.prog B 39 #[.int .i64 a, .int .i64 b] R h := by
  refine F18_ok _ _ (K54 ⟨_, rfl, K54 ⟨_, rfl, K55 (wi_wd ha) (wi_wd hb) fun p q wp wq => ⟨_, _, rfl, K56 wp ⟨_, rfl, K56 wq ⟨_, rfl, K57 ht wp wq (wi_wd ha) (wi_wd hb) fun h' f => ⟨_, rfl, ?_⟩⟩⟩⟩⟩⟩)
  have e : sumOk (sumH a b) (sumL a b) (nrm a) (nrm b) = sumOk (sumH a b) (sumL a b) a b := by
    unfold sumOk
    rw [nrm_fin, nrm_fin]
    cases fa : isFin a
    · rfl
    · cases fb : isFin b
      · rfl
      · rw [fin_nrm fa, fin_nrm fb]
  rw [e]
  exact H h' f
theorem fac_wd : WI 4728779608772575232 (nrm FAC) := ⟨by decide, by decide⟩
/-- eft.split. -/
theorem K58 {x : Nat} {a : Int} (hx : WI x (nrm a)) (H : ∀ p q, WI p (splH a) → WI q (splL a) → R (.returned (.tuple #[.float .f64 p, .float .f64 q])) h) : Ent Tryz.prog B 70 #[.float .f64 x] R h := by
  refine F58_ok _ ((fac_wd.mul hx) fun f2 w2 => (w2.sub hx) fun f3 w3 => (w2.sub w3) fun f4 w4 => (hx.sub w4) fun f5 w5 => ?_)
  simp only [mulP_nl, mulP_nr, subP_nl, subP_nr] at w4 w5
  exact H f4 f5 w4 w5
/-- eft.TwoProd. -/
theorem K19 {a b : Int} (ht : TabH h) (ha : I64 a) (hb : I64 b) (H : ∀ h', Ext h h' → R (.returned (.tuple #[.int .i64 (prdH a b), .int .i64 (prdL a b), .bool (prdOk a b)])) h') : Ent Tryz.prog B 41 #[.int .i64 a, .int .i64 b] R h := by
  have hx := wi_wd ha
  have hy := wi_wd hb
  refine F19_ok _ _ (K54 ⟨_, rfl, K54 ⟨_, rfl, (hx.mul hy) fun f13 w13 => K58 hx fun p q wp wq => ⟨_, _, rfl, K58 hy fun r s wr ws => ⟨_, _, rfl, ?_⟩⟩⟩⟩)
  refine (wq.mul ws) fun f26 w26 => (wp.mul wr) fun f27 w27 => (w13.sub w27) fun f28 w28 => (wq.mul wr) fun f29 w29 => (w28.sub w29) fun f30 w30 => (wp.mul ws) fun f31 w31 => (w30.sub w31) fun f32 w32 => (w26.sub w32) fun f33 w33 => ?_
  simp only [mulP_nl, mulP_nr] at w13 w33
  have w33' : WI f33 (prdL a b) := w33
  have w13' : WI f13 (prdH a b) := w13
  refine alK fun r34 h35 e34 f34 o34 z34 => K59 (ws := [wd a, wd b]) o34 rfl (by decide) (fun w hw => ?_) ⟨_, rfl, ?_⟩
  · rcases List.mem_cons.1 hw with e | hw
    · rw [e]; exact hx.1
    · rw [List.mem_singleton.1 hw]; exact hy.1
  have hall : ([wd a, wd b].all fun w => isFin (sg w)) = (isFin a && isFin b) := by simp [sg_wd ha, sg_wd hb]
  rw [hall]
  have fin : ∀ (c : Bool) (hh : Heap), Ext h hh → c = prdOk a b → F19_j80 B R c f13 f33 hh := by
    intro c hh fh hc
    rw [hc]
    exact K56 w13' ⟨_, rfl, K56 w33' ⟨_, rfl, H hh fh⟩⟩
  refine ⟨fun e => ?_, fun e => fin false _ f34 (by unfold prdOk; rw [e]; rfl)⟩
  obtain ⟨fa, fb⟩ := Bool.and_eq_true_iff.1 e
  have b1 := fV_bl fa
  have b2 := fV_bl fb
  have hx' : WI (wd a) a := by have := hx; rw [fin_nrm fa] at this; exact this
  have hy' : WI (wd b) b := by have := hy; rw [fin_nrm fb] at this; exact this
  refine K60 (ht.ext f34) hx' fa fun n1 p1 l1 c1 e3 h42 f42 _ N1 => ⟨_, _, _, _, _, rfl, K60 (ht.ext (Ext.trans f34 f42)) hy' fb fun n2 p2 l2 c2 e4 h49 f49 _ N2 => ⟨_, _, _, _, _, rfl, ?_⟩⟩
  have F49 := Ext.trans f34 (Ext.trans f42 f49)
  refine K23 (ht.ext F49) (N1.ext f49) N2 (by decide) (by omega) (by omega) (fV_small a) fun n3 p3 l3 c3 e5 h56 f56 _ N3 => ⟨_, _, _, _, _, _, rfl, alK fun r63 h64 e63 f63 o63 z63 => ⟨r63, 0, rfl, ?_⟩⟩
  refine o63.stL (by simp) rfl fun _ a1 g1 => a1.stL (by simp) rfl fun _ a2 g2 => a2.stL (by simp) rfl fun h69 a3 g3 => ?_
  have k := Fr.trans (S := fun x => x = r63) (Fr.trans (S := fun x => x = r63) g1 g2 fun _ _ e => e) g3 fun _ _ e => e
  have A3 : Own h69 r63 #[.bool n3, .slice p3 l3 c3, .int .i64 e5] := a3
  have F69 : Ext h56 h69 := Fr.trans f63 k fun x hx e => by omega
  have FA := Ext.trans F49 (Ext.trans f56 F69)
  refine ⟨r63, 0, rfl, _, A3.cell _, _, _, _, A3.cell _, _, A3.cell _, ?_⟩
  refine K61 (K := 2148) (ht.ext FA) w13' w33' (N3.ext F69) (by decide) (by decide) (Nat.le_trans (bl_mul b1 b2) (by decide)) fun h' f => ⟨_, rfl, ?_⟩
  exact fin _ h' (Ext.trans FA f) (by unfold prdOk; rw [e, Bool.true_and])
end Go.Proofs
namespace Go.Proofs
open Go Go.Eng
/-- plumb/eft.FastTwoSum -/
def F20 (B : World) (R : Po) (a0 b0 : Int) (h : Heap) : Prop :=
 Ec B 27 #[.int .i64 a0] (retE (fun c0 d0 => ∃ e0, c0 = .float .f64 e0 ∧
 Ec B 27 #[.int .i64 b0] (retE (fun f0 g0 => ∃ i0, f0 = .float .f64 i0 ∧
 flW .f64 (FloatKind.f64.format.add e0 i0) e0 i0 fun j0 =>
 flW .f64 (FloatKind.f64.format.sub j0 e0) j0 e0 fun k0 =>
 flW .f64 (FloatKind.f64.format.sub i0 k0) i0 k0 fun l0 =>
 Ec B 68 #[.float .f64 j0] (retE (fun m0 n0 => ∃ o0, m0 = .int .i64 o0 ∧
 Ec B 68 #[.float .f64 l0] (retE (fun p0 q0 => ∃ r0, p0 = .int .i64 r0 ∧
 Ec B 69 #[.float .f64 j0, .float .f64 l0, .float .f64 e0, .float .f64 i0] (retE (fun s0 t0 => ∃ u0, s0 = .bool u0 ∧
 R (.returned (.tuple #[.int .i64 o0, .int .i64 r0, .bool u0])) t0)
(pk R)) q0)
(pk R)) n0)
(pk R)) g0)
(pk R)) d0)
(pk R)) h
def F20_L : Nat → List (Nat × TypeDesc) := fun _ => []
theorem F20_ok {B : World} {R : Ending → Heap → Prop} (a0 b0 : Int) {h : Heap} (H : F20 B R a0 b0 h) : Ec B 42 #[.int .i64 a0, .int .i64 b0] R h :=
 Ek Tryz.func42 (by kernel_rfl) (by kernel_rfl) (by kernel_rfl) F20_L [] (by kernel_rfl) H
end Go.Proofs
namespace Go.Proofs
open Go Go.Eng
variable {B : World} {R : Ending → Heap → Prop} {h : Heap}
/-- bits.Class. -/
theorem K17 {b : Int} (H : R (.returned (.int .i64 (cls b))) h) : Ent Tryz.prog B 23 #[.int .i64 b] R h := by
  refine F17_ok _ ⟨by decide, ?_⟩
  rw [and_fE, and_fT]
  refine F53_ok _ _ _ ?_
  have dE : decide (((fE b : Nat) : Int) = 2047) = decide (fE b = 2047) := by rw [decide_eq_decide]; omega
  have dT : decide (((fT b : Nat) : Int) = 0) = decide (fT b = 0) := by rw [decide_eq_decide]; omega
  have dE0 : decide (((fE b : Nat) : Int) = 0) = decide (fE b = 0) := by rw [decide_eq_decide]; omega
  unfold F53 F53_j4 F53_j17 F53_j25 F53_j22 F53_j14 F53_j11
  rw [dE, dT, dE0]
  have Hc : ∀ x, x = cls b → ∃ x6, Value.int .i64 x = Value.int .i64 x6 ∧ R (.returned (.int .i64 x6)) h := by
    rintro x rfl; exact ⟨_, rfl, H⟩
  unfold cls at Hc
  by_cases h1 : fE b = 2047
  · by_cases h2 : fT b = 0
    · simp only [h1, h2, decide_true]
      exact ⟨fun _ => ⟨fun e => (by cases e), fun _ => ⟨fun _ => Hc _ (by simp [h1, h2]), fun e => (by cases e)⟩⟩, fun e => (by cases e)⟩
    · simp only [h1, h2, decide_true, decide_false]
      exact ⟨fun _ => ⟨fun _ => Hc _ (by simp [h1, h2]), fun e => (by cases e)⟩, fun e => (by cases e)⟩
  · refine ⟨fun e => absurd (of_decide_eq_true e) h1, fun _ => ⟨fun e => (by cases e), fun _ => ⟨fun e => absurd (of_decide_eq_true e) h1, fun _ => ⟨fun e => ?_, fun e => ?_⟩⟩⟩⟩
    · have h0 := of_decide_eq_true e
      by_cases h2 : fT b = 0
      · exact ⟨fun _ => Hc _ (by simp [h0, h2]), fun e => absurd h2 (of_decide_eq_false e)⟩
      · have : 0 < fT b := by omega
        exact ⟨fun e => absurd (of_decide_eq_true e) h2, fun _ => ⟨fun _ => Hc _ (by simp [h0, this]), fun e => absurd h0 (of_decide_eq_false e)⟩⟩
    · have h0 := of_decide_eq_false e
      have : 0 < fE b := by omega
      exact ⟨fun e => (by cases e), fun _ => ⟨fun e => absurd (of_decide_eq_true e) h0, fun _ => Hc _ (by simp [h1, this])⟩⟩
theorem xor63 {w : Nat} (h : w < 18446744073709551616) : w ^^^ 9223372036854775808 = if w < 9223372036854775808 then w + 9223372036854775808 else w - 9223372036854775808 := by
  have hd := Nat.xor_div_two_pow (a := w) (b := 9223372036854775808) (n := 63)
  have hm := Nat.xor_mod_two_pow (a := w) (b := 9223372036854775808) (n := 63)
  have e1 : 9223372036854775808 / 2 ^ 63 = 1 := by decide
  have e2 : 9223372036854775808 % 2 ^ 63 = 0 := by decide
  rw [e1] at hd
  rw [e2, Nat.xor_zero] at hm
  by_cases hw : w < 9223372036854775808
  · have : w / 2 ^ 63 = 0 := by omega
    rw [this, show 0 ^^^ 1 = 1 from rfl] at hd
    rw [if_pos hw]; omega
  · have : w / 2 ^ 63 = 1 := by omega
    rw [this, show 1 ^^^ 1 = 0 from rfl] at hd
    rw [if_neg hw]; omega
theorem bitsI_flip {b : Int} (hb : I64 b) : bitsI .xor .i64 b (-9223372036854775808 : Int) = if b < 0 then b + 9223372036854775808 else b - 9223372036854775808 := by
  unfold I64 at hb
  have h1 : bitsI .xor .i64 b (-9223372036854775808 : Int) = IntKind.i64.wrap (((BitVec.ofInt 64 b ^^^ BitVec.ofInt 64 (-9223372036854775808 : Int)).toNat : Nat) : Int) := rfl
  rw [h1, BitVec.toNat_xor, BitVec.toNat_ofInt, BitVec.toNat_ofInt]
  have e1 : ((-9223372036854775808 : Int) % ((2 ^ 64 : Nat) : Int)).toNat = 9223372036854775808 := by decide
  have e2 : (b % ((2 ^ 64 : Nat) : Int)).toNat = (b % 18446744073709551616).toNat := rfl
  rw [e1, e2, xor63 (by omega)]
  have e : ∀ y : Int, IntKind.i64.wrap y = if (true && decide (y % 18446744073709551616 ≥ 9223372036854775808)) = true then y % 18446744073709551616 - 18446744073709551616 else y % 18446744073709551616 := fun y => rfl
  rw [e]
  simp only [Bool.true_and, decide_eq_true_eq]
  split <;> split <;> split <;> omega
/-- bits.Neg. -/
theorem K99 {b : Int} (hb : I64 b) (H : R (.returned (.int .i64 (negP b))) h) : Ent Tryz.prog B 130 #[.int .i64 b] R h := by
  refine F99_ok _ (K17 ⟨_, rfl, ?_⟩)
  rw [cls_nan, bitsI_flip hb]
  unfold negP at H
  refine ⟨fun e => ?_, fun e => ?_⟩
  · rw [e] at H; exact H
  · rw [e] at H; exact H
def fstL (a b : Int) : Int := subP b (subP (addP a b) a)
theorem sumOk_nl (h l a b : Int) : sumOk h l (nrm a) (nrm b) = sumOk h l a b := by
  unfold sumOk
  rw [nrm_fin, nrm_fin]
  cases fa : isFin a
  · rfl
  · cases fb : isFin b
    · rfl
    · rw [fin_nrm fa, fin_nrm fb]
/-- eft.FastTwoSum. -/
theorem K20 {a b : Int} (ht : TabH h) (ha : I64 a) (hb : I64 b) (H : ∀ h', Ext h h' → R (.returned (.tuple #[.int .i64 (sumH a b), .int .i64 (fstL a b), .bool (sumOk (sumH a b) (fstL a b) a b)])) h') : Ent Tryz.prog B 42 #[.int .i64 a, .int .i64 b] R h := by
  have hx := wi_wd ha
  have hy := wi_wd hb
  refine F20_ok _ _ (K54 ⟨_, rfl, K54 ⟨_, rfl, (hx.add hy) fun f13 w13 => (w13.sub hx) fun f14 w14 => (hy.sub w14) fun f15 w15 => ?_⟩⟩)
  simp only [addP_nl, addP_nr, subP_nl, subP_nr] at w13 w15
  refine K56 w13 ⟨_, rfl, K56 w15 ⟨_, rfl, K57 ht w13 w15 hx hy fun h' f => ⟨_, rfl, ?_⟩⟩⟩
  rw [sumOk_nl]
  exact H h' f
end Go.Proofs
namespace Go.Proofs
open Go Go.Eng
variable {B : World} {R : Ending → Heap → Prop} {h : Heap}
/-- A slice of pairs of whole numbers that only is read. -/
def PairsH (h : Heap) (p : Option Addr) (n : Nat) : Prop :=
  ∀ i, i < n → ∃ r q, p = some ⟨r, q, none⟩ ∧ r < h.size ∧ ∃ x y, I64 x ∧ I64 y ∧ cell? h ⟨r, q + i * 2, none⟩ = some (.int .i64 x) ∧ cell? h ⟨r, q + i * 2 + 1, none⟩ = some (.int .i64 y)
theorem cell_ext {h h' : Heap} (f : Ext h h') {r o : Nat} (hr : r < h.size) : cell? h' ⟨r, o, none⟩ = cell? h ⟨r, o, none⟩ := by
  unfold cell?; rw [f.same r hr id]
theorem PairsH.ext {h h' : Heap} {p : Option Addr} {n : Nat} (H : PairsH h p n) (f : Ext h h') : PairsH h' p n := by
  intro i hi
  obtain ⟨r, q, e, hr, x, y, ix, iy, c1, c2⟩ := H i hi
  exact ⟨r, q, e, Nat.lt_of_lt_of_le hr f.size, x, y, ix, iy, (cell_ext f hr).trans c1, (cell_ext f hr).trans c2⟩
end Go.Proofs
