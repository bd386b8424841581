import Derived.Test.YtpnfpefcjeafbaaGreatFmtA24
/- Here stand lemmas and contracts, in the order in which they are used. -/
set_option linter.unusedVariables false
namespace Go.Proofs
open Go Go.Eng
variable {B : World} {R : Ending → Heap → Prop} {h : Heap}
def PlusI (K : Nat) (h : Heap) (r2 r6 b n c : Nat) (vs : List Int) (m : Nat) (l : List Value) (h' : Heap) : Prop :=
  match l with
  | [.pointer a2, .pointer a6, .slice p pn pc, .int _ nn, .int _ i] => a2 = some (⟨r2, 0, none⟩ : Addr) ∧ a6 = some (⟨r6, 0, none⟩ : Addr) ∧ p = some (⟨b, 0, none⟩ : Addr) ∧ n = pn ∧ c = pc ∧ nn = (n : Int) ∧
      ∃ (j rs qs : Nat) (ms es : Int), i = (j : Int) ∧ j ≤ n ∧ m = n - j ∧ Ext h h' ∧ Own h' r2 #[.pointer none, .int .i64 0] ∧ Own h' r6 #[.pointer (some ⟨rs, 0, none⟩), .int .i64 es] ∧ IntAt h' rs qs ms ∧
        rs ≠ r6 ∧ rs ≠ r2 ∧ qs ≠ r6 ∧ qs ≠ r2 ∧ 0 ≤ es + (K : Int) ∧ es ≤ 1048576 ∧ (vs.take j).sum = ms * 2 ^ (es + (K : Int)).toNat
  | _ => False
theorem bl_part {m : Int} {k : Nat} {v : Int} {L : Nat} (hv : v = m * 2 ^ k) (hb : bl v.natAbs ≤ L) : bl m.natAbs ≤ L := by
  have : v.natAbs = m.natAbs * 2 ^ k := by rw [hv, abs_val]
  have hp : 0 < 2 ^ k := Nat.pow_pos (by decide)
  exact Nat.le_trans (bl_mono (by rw [this]; exact Nat.le_mul_of_pos_right _ hp)) hb
theorem pow_split {m : Int} {a b : Nat} : m * 2 ^ (a + b) = m * 2 ^ a * 2 ^ b := by rw [Int.pow_add, Int.mul_assoc]
/-- dyadic.plus. -/
theorem K66 {b n c K : Nat} {xs : List Ex} {vs : List Int} (hx : ExL K h b xs vs) (hn : vs.length = n) (hl : n ≤ 1099511627776) (hK : K ≤ 1048576)
    (hS : ∀ i, i ≤ n → bl ((vs.take i).sum).natAbs ≤ 900000) (hV : ∀ v ∈ vs, bl v.natAbs ≤ 900000)
    (H : ∀ r q m e h', Ext h h' → IntAt h' r q m → 0 ≤ e + (K : Int) → vs.sum = m * 2 ^ (e + (K : Int)).toNat → R (.returned (.agg #[.pointer (some ⟨r, 0, none⟩), .int .i64 e])) h') :
    Ent Tryz.prog B 90 #[.slice (some ⟨b, 0, none⟩) n c] R h := by
  refine F66_ok _ _ _ (alK fun r2 h3 e2 f2 o2 z2 => alK fun r4 h5 e4 f4 o4 z4 => alK fun r6 h7 e6 f6 o6 z6 => ⟨r6, 0, rfl, o6.stC (by simp) rfl fun oa fa => oa.stC (by simp) rfl fun ob fb => ?_⟩)
  have fab := Fr.trans (S := fun x => x = r6) fa fb fun _ _ e => e
  have F0 : Ext h _ := Fr.trans (Ext.trans f2 (Ext.trans f4 f6)) fab fun x hx e => by omega
  have I0 : IntAt _ r4 r4 0 := (ZeroAt.int (Own.ext o4 f6)).fr fab (show ¬ r4 = r6 by omega) (show ¬ r4 = r6 by omega)
  have hxl := hx.len
  refine ⟨PlusI K h r2 r6 b n c vs, n, ⟨rfl, rfl, rfl, rfl, rfl, rfl, 0, r4, r4, 0, 0, rfl, by omega, rfl, F0, ((o2.ext f4).ext f6).fr fab (show ¬ r2 = r6 by omega), ob, I0, by omega, by omega, by omega, by omega, by omega, by omega, by simp⟩, ?_⟩
  rintro m h' _ _ _ _ _ _ _ ⟨rfl, rfl, rfl, rfl, rfl, rfl, j, rs, qs, ms, es, rfl, hj, rfl, F, O2, O6, Is, n1, n2, n3, n4, he, he2, hsum⟩ _
  refine ⟨fun e => ?_, fun e => ?_⟩
  · have hjn : j < n := by simp at e; omega
    have next : ∀ (rs' qs' : Nat) (ms' es' : Int) (hh : Heap), Ext h hh → Own hh r2 #[.pointer none, .int .i64 0] → Own hh r6 #[.pointer (some ⟨rs', 0, none⟩), .int .i64 es'] → IntAt hh rs' qs' ms' → rs' ≠ r6 → rs' ≠ r2 → qs' ≠ r6 → qs' ≠ r2 →
        0 ≤ es' + (K : Int) → es' ≤ 1048576 → (vs.take j).sum + vs[j] = ms' * 2 ^ (es' + (K : Int)).toNat →
        ∃ m50, m50 < n - j ∧ PlusI K h r2 r6 b n c vs m50 [.pointer (some ⟨r2, 0, none⟩), .pointer (some ⟨r6, 0, none⟩), .slice (some ⟨b, 0, none⟩) n c, .int .i64 (n : Int), .int .i64 (IntKind.i64.wrap ((j : Int) + (1 : Int)))] hh := by
      intro rs' qs' ms' es' hh a1 a2 a3 a4 a5 a6 a7 a8 a9 a10 a11
      refine ⟨n - (j + 1), by omega, rfl, rfl, rfl, rfl, rfl, rfl, j + 1, rs', qs', ms', es', by rw [i64_in (by omega) (by omega)]; rfl, by omega, rfl, a1, a2, a3, a4, a5, a6, a7, a8, a9, a10, ?_⟩
      rw [List.take_succ_eq_append_getElem (by omega), List.sum_append, List.sum_singleton]; exact a11
    obtain ⟨cs, Ob, hcell⟩ := hx.own
    obtain ⟨c1, c2⟩ := hcell j (by omega)
    obtain ⟨⟨Ix, x1, x2, x3, _⟩, x4, x5⟩ := hx.at_ j (by omega) (by omega)
    generalize xs[j]'(by omega) = X at *
    have hvj : bl vs[j].natAbs ≤ 900000 := hV _ (List.getElem_mem _)
    have hsj := hS j (by omega)
    have hsj1 := hS (j + 1) (by omega)
    rw [List.take_succ_eq_append_getElem (by omega), List.sum_append, List.sum_singleton] at hsj1
    have lX := Ix.lt
    have lXq := Ix.lq
    have Ob' := Ob.ext F
    have l2 := O2.lt
    have l6 := O6.lt
    refine ⟨b, 0, rfl, by omega, by omega, b, _, rfl, _, by rw [Int.toNat_natCast, Nat.zero_add, Ob'.cell]; exact c1, _, by rw [Int.toNat_natCast, Nat.zero_add, Ob'.cell]; exact c2, ?_⟩
    refine alK fun r27 h28 e27 f27 o27 z27 => ⟨r27, 0, rfl, o27.stC (by simp) rfl fun ob fb => ob.stC (by simp) rfl fun oc fc => ⟨r27, 0, rfl, r27, 0, rfl, _, oc.cell _, ?_⟩⟩
    have fbc := Fr.trans (S := fun x => x = r27) fb fc fun _ _ e => e
    have F32 : Ext h' _ := Fr.trans f27 fbc fun x hx e => by omega
    have FX := Ext.trans F F32
    refine K75 (Ix.ext FX) ⟨_, rfl, fun e0 => ?_, fun e0 => ?_⟩
    · have hm : X.m = 0 := Int.sign_eq_zero_iff_zero.1 (of_decide_eq_true e0)
      exact next rs qs ms es _ FX (O2.ext F32) (O6.ext F32) (Is.ext F32) n1 n2 n3 n4 he he2 (by rw [x3, hm, Int.zero_mul, Int.add_zero, hsum])
    · refine ⟨r6, 0, rfl, r6, 0, rfl, _, (O6.ext F32).cell _, K75 (Is.ext F32) ⟨_, rfl, fun e1 => ?_, fun e1 => ?_⟩⟩
      · have hm : ms = 0 := Int.sign_eq_zero_iff_zero.1 (of_decide_eq_true e1)
        refine ⟨r27, 0, rfl, _, oc.cell _, _, oc.cell _, r6, 0, rfl, (O6.ext F32).stC (by simp) rfl fun od fd => od.stC (by simp) rfl fun oe fe => ?_⟩
        have fde := Fr.trans (S := fun x => x = r6) fd fe fun _ _ e => e
        exact next X.r X.q X.m X.e _ (Fr.trans FX fde fun x hx e => by omega) ((O2.ext F32).fr fde (show ¬ r2 = r6 by omega)) oe ((Ix.ext FX).fr fde (show ¬ X.r = r6 by omega) (show ¬ X.q = r6 by omega)) (by omega) (by omega) (by omega) (by omega) x1 x2
          (by rw [hsum, hm, Int.zero_mul, Int.zero_add, x3])
      · have O6' := O6.ext F32
        refine ⟨r27, 0, rfl, r27, 0 + 1, rfl, _, oc.cell _, r6, 0, rfl, r6, 0 + 1, rfl, _, O6'.cell _, fun e2 => ?_, fun e2 => ?_⟩
        · have hle : es ≤ X.e := of_decide_eq_true e2
          refine ⟨r6, 0, rfl, r6, 0, rfl, _, O6'.cell _, r27, 0, rfl, r27, 0, rfl, _, oc.cell _, r27, 0, rfl, r27, 0 + 1, rfl, _, oc.cell _, r6, 0, rfl, r6, 0 + 1, rfl, _, O6'.cell _, r6, 0, rfl, r6, 0 + 1, rfl, _, O6'.cell _, ?_⟩
          have ek : (X.e + (K : Int)).toNat = (X.e - es).toNat + (es + (K : Int)).toNat := by omega
          have hxv : vs[j] = X.m * 2 ^ (X.e - es).toNat * 2 ^ (es + (K : Int)).toNat := by rw [x3, ek, pow_split]
          refine addSh (k := (X.e - es).toNat) O6' oc O6' (Is.ext F32) (Ix.ext FX) ?_ (by omega) (by have := bl_part hsum hsj; omega) (by have := bl_part x3 hvj; omega) (by have := bl_part hxv hvj; omega) fun r q g' fg og Ig hr hq => ?_
          · rw [i64_in (by omega) (by omega)]
            have : X.e - es = ((X.e - es).toNat : Int) := by omega
            rw [this, Int.toNat_natCast]; exact wrap_u64_in (by omega) (by omega)
          · have sz := F32.size
            exact next r q _ es _ (Fr.trans FX fg fun x hx e => by omega) ((O2.ext F32).fr fg (show ¬ r2 = r6 by omega)) og Ig (by omega) (by omega) (by omega) (by omega) he he2 (by rw [hsum, hxv, Int.add_mul])
        · have hle : ¬ es ≤ X.e := of_decide_eq_false e2
          refine ⟨r27, 0, rfl, r27, 0, rfl, _, oc.cell _, r6, 0, rfl, r6, 0, rfl, _, O6'.cell _, r6, 0, rfl, r6, 0 + 1, rfl, _, O6'.cell _, r27, 0, rfl, r27, 0 + 1, rfl, _, oc.cell _, r27, 0, rfl, r27, 0 + 1, rfl, _, oc.cell _, ?_⟩
          have ek : (es + (K : Int)).toNat = (es - X.e).toNat + (X.e + (K : Int)).toNat := by omega
          have hsv : (vs.take j).sum = ms * 2 ^ (es - X.e).toNat * 2 ^ (X.e + (K : Int)).toNat := by rw [hsum, ek, pow_split]
          refine addSh (k := (es - X.e).toNat) oc O6' O6' (Ix.ext FX) (Is.ext F32) ?_ (by omega) (by have := bl_part x3 hvj; omega) (by have := bl_part hsum hsj; omega) (by have := bl_part hsv hsj; omega) fun r q g' fg og Ig hr hq => ?_
          · rw [i64_in (by omega) (by omega)]
            have : es - X.e = ((es - X.e).toNat : Int) := by omega
            rw [this, Int.toNat_natCast]; exact wrap_u64_in (by omega) (by omega)
          · have sz := F32.size
            exact next r q _ X.e _ (Fr.trans FX fg fun x hx e => by omega) ((O2.ext F32).fr fg (show ¬ r2 = r6 by omega)) og Ig (by omega) (by omega) (by omega) (by omega) x1 x2 (by rw [hsv, x3, Int.add_mul, Int.add_comm])
  · have hjn : j = n := by simp at e; omega
    refine ⟨r6, 0, rfl, _, O6.cell _, _, O6.cell _, r2, 0, rfl, O2.stC (by simp) rfl fun od fd => od.stC (by simp) rfl fun oe fe => ⟨r2, 0, rfl, _, oe.cell _, _, oe.cell _, ?_⟩⟩
    have fde := Fr.trans (S := fun x => x = r2) fd fe fun _ _ e => e
    refine H rs qs ms es _ (Fr.trans F fde fun x hx e => by omega) (Is.fr fde n2 n4) he ?_
    rw [← hsum, hjn, ← hn, List.take_length]
end Go.Proofs
