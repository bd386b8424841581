import Derived.Test.YtcbcgggnmncbjaaGreatFmtA26
import Derived.Test.YtcbcgggnmncbjaaGreatFmtA09
import Derived.Test.YtcbcgggnmncbjaaGreatFmtA25
/- Here stand lemmas and contracts, in the order in which they are used. -/
set_option linter.unusedVariables false
namespace Go.Proofs
open Go Go.Eng
variable {B : World} {R : Ending → Heap → Prop} {h : Heap}
def PlusI (K : Nat) (h : Heap) (r2 r6 b n c : Nat) (vs : List Int) (m : Nat) (l : List Value) (h' : Heap) : Prop :=
  match l with
  | [.pointer a2, .pointer a6, .slice p pn pc, .int _ nn, .int _ i] => a2 = some (⟨r2, 0, none⟩ : Addr) ∧ a6 = some (⟨r6, 0, none⟩ : Addr) ∧ p = some (⟨b, 0, none⟩ : Addr) ∧ n = pn ∧ c = pc ∧ nn = (n : Int) ∧
      ∃ (j rs qs : Nat) (ms es : Int), i = (j : Int) ∧ j ≤ n ∧ m = n - j ∧ Ext h h' ∧ Own h' r2 #[.pointer none, .int .i64 0] ∧ Own h' r6 #[.pointer (some ⟨rs, 0, none⟩), .int .i64 es] ∧ IntAt h' rs qs ms ∧
        rs ≠ r6 ∧ rs ≠ r2 ∧ qs ≠ r6 ∧ qs ≠ r2 ∧ 0 ≤ es + (K : Int) ∧ es ≤ 1048576 ∧ (vs.take j).sum = ms * 2 ^ (es + (K : Int)).toNat
  | _ => False
theorem bl_part {m : Int} {k : Nat} {v : Int} {L : Nat} (hv : v = m * 2 ^ k) (hb : bl v.natAbs ≤ L) : bl m.natAbs ≤ L := by
  have : v.natAbs = m.natAbs * 2 ^ k := by rw [hv, abs_val]
  have hp : 0 < 2 ^ k := Nat.pow_pos (by decide)
  exact Nat.le_trans (bl_mono (by rw [this]; exact Nat.le_mul_of_pos_right _ hp)) hb
theorem pow_split {m : Int} {a b : Nat} : m * 2 ^ (a + b) = m * 2 ^ a * 2 ^ b := by rw [Int.pow_add, Int.mul_assoc]
/-- dyadic.plus. -/
theorem K66 {b n c K : Nat} {xs : List Ex} {vs : List Int} (hx : ExL K h b xs vs) (hn : vs.length = n) (hl : n ≤ 1099511627776) (hK : K ≤ 1048576)
    (hS : ∀ i, i ≤ n → bl ((vs.take i).sum).natAbs ≤ 900000) (hV : ∀ v ∈ vs, bl v.natAbs ≤ 900000)
    (H : ∀ r q m e h', Ext h h' → IntAt h' r q m → 0 ≤ e + (K : Int) → vs.sum = m * 2 ^ (e + (K : Int)).toNat → R (.returned (.agg #[.pointer (some ⟨r, 0, none⟩), .int .i64 e])) h') :
    Ent Tryz.prog B 53 #[.slice (some ⟨b, 0, none⟩) n c] R h := by
  refine F66_ok _ _ _ (alK fun r2 h3 e2 f2 o2 z2 => alK fun r4 h5 e4 f4 o4 z4 => alK fun r6 h7 e6 f6 o6 z6 => ⟨r6, 0, rfl, o6.stC (by simp) rfl fun oa fa => oa.stC (by simp) rfl fun ob fb => ?_⟩)
  have fab := Fr.trans (S := fun x => x = r6) fa fb fun _ _ e => e
  have F0 : Ext h _ := Fr.trans (Ext.trans f2 (Ext.trans f4 f6)) fab fun x hx e => by omega
  have I0 : IntAt _ r4 r4 0 := (ZeroAt.int (Own.ext o4 f6)).fr fab (show ¬ r4 = r6 by omega) (show ¬ r4 = r6 by omega)
  have hxl := hx.len
  refine ⟨PlusI K h r2 r6 b n c vs, n, ⟨rfl, rfl, rfl, rfl, rfl, rfl, 0, r4, r4, 0, 0, rfl, by omega, rfl, F0, ((o2.ext f4).ext f6).fr fab (show ¬ r2 = r6 by omega), ob, I0, by omega, by omega, by omega, by omega, by omega, by omega, by simp⟩, ?_⟩
  rintro m h' _ _ _ _ _ _ _ ⟨rfl, rfl, rfl, rfl, rfl, rfl, j, rs, qs, ms, es, rfl, hj, rfl, F, O2, O6, Is, n1, n2, n3, n4, he, he2, hsum⟩ _
  refine ⟨fun e => ?_, fun e => ?_⟩
  · have hjn : j < n := by simp at e; omega
    have next : ∀ (rs' qs' : Nat) (ms' es' : Int) (hh : Heap), Ext h hh → Own hh r2 #[.pointer none, .int .i64 0] → Own hh r6 #[.pointer (some ⟨rs', 0, none⟩), .int .i64 es'] → IntAt hh rs' qs' ms' → rs' ≠ r6 → rs' ≠ r2 → qs' ≠ r6 → qs' ≠ r2 →
        0 ≤ es' + (K : Int) → es' ≤ 1048576 → (vs.take j).sum + vs[j] = ms' * 2 ^ (es' + (K : Int)).toNat →
        ∃ m50, m50 < n - j ∧ PlusI K h r2 r6 b n c vs m50 [.pointer (some ⟨r2, 0, none⟩), .pointer (some ⟨r6, 0, none⟩), .slice (some ⟨b, 0, none⟩) n c, .int .i64 (n : Int), .int .i64 (IntKind.i64.wrap ((j : Int) + (1 : Int)))] hh := by
      intro rs' qs' ms' es' hh a1 a2 a3 a4 a5 a6 a7 a8 a9 a10 a11
      refine ⟨n - (j + 1), by omega, rfl, rfl, rfl, rfl, rfl, rfl, j + 1, rs', qs', ms', es', by rw [i64_in (by omega) (by omega)]; rfl, by omega, rfl, a1, a2, a3, a4, a5, a6, a7, a8, a9, a10, ?_⟩
      rw [List.take_succ_eq_append_getElem (by omega), List.sum_append, List.sum_singleton]; exact a11
    obtain ⟨cs, Ob, hcell⟩ := hx.own
    obtain ⟨c1, c2⟩ := hcell j (by omega)
    obtain ⟨⟨Ix, x1, x2, x3, _⟩, x4, x5⟩ := hx.at_ j (by omega) (by omega)
    generalize xs[j]'(by omega) = X at *
    have hvj : bl vs[j].natAbs ≤ 900000 := hV _ (List.getElem_mem _)
    have hsj := hS j (by omega)
    have hsj1 := hS (j + 1) (by omega)
    rw [List.take_succ_eq_append_getElem (by omega), List.sum_append, List.sum_singleton] at hsj1
    have lX := Ix.lt
    have lXq := Ix.lq
    have Ob' := Ob.ext F
    have l2 := O2.lt
    have l6 := O6.lt
    refine ⟨b, 0, rfl, by omega, by omega, b, _, rfl, _, by rw [Int.toNat_natCast, Nat.zero_add, Ob'.cell]; exact c1, _, by rw [Int.toNat_natCast, Nat.zero_add, Ob'.cell]; exact c2, ?_⟩
    refine alK fun r27 h28 e27 f27 o27 z27 => ⟨r27, 0, rfl, o27.stC (by simp) rfl fun ob fb => ob.stC (by simp) rfl fun oc fc => ⟨r27, 0, rfl, r27, 0, rfl, _, oc.cell _, ?_⟩⟩
    have fbc := Fr.trans (S := fun x => x = r27) fb fc fun _ _ e => e
    have F32 : Ext h' _ := Fr.trans f27 fbc fun x hx e => by omega
    have FX := Ext.trans F F32
    refine K75 (Ix.ext FX) ⟨_, rfl, fun e0 => ?_, fun e0 => ?_⟩
    · have hm : X.m = 0 := Int.sign_eq_zero_iff_zero.1 (of_decide_eq_true e0)
      exact next rs qs ms es _ FX (O2.ext F32) (O6.ext F32) (Is.ext F32) n1 n2 n3 n4 he he2 (by rw [x3, hm, Int.zero_mul, Int.add_zero, hsum])
    · refine ⟨r6, 0, rfl, r6, 0, rfl, _, (O6.ext F32).cell _, K75 (Is.ext F32) ⟨_, rfl, fun e1 => ?_, fun e1 => ?_⟩⟩
      · have hm : ms = 0 := Int.sign_eq_zero_iff_zero.1 (of_decide_eq_true e1)
        refine ⟨r27, 0, rfl, _, oc.cell _, _, oc.cell _, r6, 0, rfl, (O6.ext F32).stC (by simp) rfl fun od fd => od.stC (by simp) rfl fun oe fe => ?_⟩
        have fde := Fr.trans (S := fun x => x = r6) fd fe fun _ _ e => e
        exact next X.r X.q X.m X.e _ (Fr.trans FX fde fun x hx e => by omega) ((O2.ext F32).fr fde (show ¬ r2 = r6 by omega)) oe ((Ix.ext FX).fr fde (show ¬ X.r = r6 by omega) (show ¬ X.q = r6 by omega)) (by omega) (by omega) (by omega) (by omega) x1 x2
          (by rw [hsum, hm, Int.zero_mul, Int.zero_add, x3])
      · have O6' := O6.ext F32
        refine ⟨r27, 0, rfl, r27, 0 + 1, rfl, _, oc.cell _, r6, 0, rfl, r6, 0 + 1, rfl, _, O6'.cell _, fun e2 => ?_, fun e2 => ?_⟩
        · have hle : es ≤ X.e := of_decide_eq_true e2
          refine ⟨r6, 0, rfl, r6, 0, rfl, _, O6'.cell _, r27, 0, rfl, r27, 0, rfl, _, oc.cell _, r27, 0, rfl, r27, 0 + 1, rfl, _, oc.cell _, r6, 0, rfl, r6, 0 + 1, rfl, _, O6'.cell _, r6, 0, rfl, r6, 0 + 1, rfl, _, O6'.cell _, ?_⟩
          have ek : (X.e + (K : Int)).toNat = (X.e - es).toNat + (es + (K : Int)).toNat := by omega
          have hxv : vs[j] = X.m * 2 ^ (X.e - es).toNat * 2 ^ (es + (K : Int)).toNat := by rw [x3, ek, pow_split]
          refine addSh (k := (X.e - es).toNat) O6' oc O6' (Is.ext F32) (Ix.ext FX) ?_ (by omega) (by have := bl_part hsum hsj; omega) (by have := bl_part x3 hvj; omega) (by have := bl_part hxv hvj; omega) fun r q g' fg og Ig hr hq => ?_
          · rw [i64_in (by omega) (by omega)]
            have : X.e - es = ((X.e - es).toNat : Int) := by omega
            rw [this, Int.toNat_natCast]; exact wrap_u64_in (by omega) (by omega)
          · have sz := F32.size
            exact next r q _ es _ (Fr.trans FX fg fun x hx e => by omega) ((O2.ext F32).fr fg (show ¬ r2 = r6 by omega)) og Ig (by omega) (by omega) (by omega) (by omega) he he2 (by rw [hsum, hxv, Int.add_mul])
        · have hle : ¬ es ≤ X.e := of_decide_eq_false e2
          refine ⟨r27, 0, rfl, r27, 0, rfl, _, oc.cell _, r6, 0, rfl, r6, 0, rfl, _, O6'.cell _, r6, 0, rfl, r6, 0 + 1, rfl, _, O6'.cell _, r27, 0, rfl, r27, 0 + 1, rfl, _, oc.cell _, r27, 0, rfl, r27, 0 + 1, rfl, _, oc.cell _, ?_⟩
          have ek : (es + (K : Int)).toNat = (es - X.e).toNat + (X.e + (K : Int)).toNat := by omega
          have hsv : (vs.take j).sum = ms * 2 ^ (es - X.e).toNat * 2 ^ (X.e + (K : Int)).toNat := by rw [hsum, ek, pow_split]
          refine addSh (k := (es - X.e).toNat) oc O6' O6' (Ix.ext FX) (Is.ext F32) ?_ (by omega) (by have := bl_part x3 hvj; omega) (by have := bl_part hsum hsj; omega) (by have := bl_part hsv hsj; omega) fun r q g' fg og Ig hr hq => ?_
          · rw [i64_in (by omega) (by omega)]
            have : es - X.e = ((es - X.e).toNat : Int) := by omega
            rw [this, Int.toNat_natCast]; exact wrap_u64_in (by omega) (by omega)
          · have sz := F32.size
            exact next r q _ X.e _ (Fr.trans FX fg fun x hx e => by omega) ((O2.ext F32).fr fg (show ¬ r2 = r6 by omega)) og Ig (by omega) (by omega) (by omega) (by omega) x1 x2 (by rw [hsv, x3, Int.add_mul, Int.add_comm])
  · have hjn : j = n := by simp at e; omega
    refine ⟨r6, 0, rfl, _, O6.cell _, _, O6.cell _, r2, 0, rfl, O2.stC (by simp) rfl fun od fd => od.stC (by simp) rfl fun oe fe => ⟨r2, 0, rfl, _, oe.cell _, _, oe.cell _, ?_⟩⟩
    have fde := Fr.trans (S := fun x => x = r2) fd fe fun _ _ e => e
    refine H rs qs ms es _ (Fr.trans F fde fun x hx e => by omega) (Is.fr fde n2 n4) he ?_
    rw [← hsum, hjn, ← hn, List.take_length]
end Go.Proofs
namespace Go.Eng
open Go
theorem growBy_le (n : Nat) : ∀ (r c : Nat), c ≤ 2 * n + 200 → Builtin.growBy n r c ≤ 2 * n + 200
  | 0, c, h => h
  | r + 1, c, h => by
    unfold Builtin.growBy
    split
    · exact h
    · exact growBy_le n r _ (by omega)
theorem nsc_le {n c : Nat} (h : c < n) : Builtin.nextslicecap n c ≤ 2 * n + 200 := by
  unfold Builtin.nextslicecap
  split
  · omega
  · split
    · omega
    · exact growBy_le n 4 c (by omega)
/-- A list that is being made, in blocks that h0 has not. -/
structure Lst (h0 h : Heap) (p : Option Addr) (n c : Nat) (ws : List Nat) : Prop where
  sl : Sl .i64 h p ws
  len : ws.length = n
  room : Room h p c (fun b => h0.size ≤ b)
  le : n ≤ c
  pt : Pt p
  fresh : Fresh h0 p
theorem Lst.nil {h0 h : Heap} : Lst h0 h none 0 0 [] := ⟨Sl.nil, rfl, .inl rfl, Nat.le_refl _, .inl rfl, Fresh.nil⟩
theorem Lst.fr {h0 h h' : Heap} {p : Option Addr} {n c : Nat} {ws : List Nat} (L : Lst h0 h p n c ws) (f : Ext h h') : Lst h0 h' p n c ws := ⟨L.sl.ext f, L.len, L.room.ext f, L.le, L.pt, L.fresh⟩
theorem i64_nat {x : Nat} (h : x < 9223372036854775808) : IntKind.i64.wrap (x : Int) = (x : Int) := wrap_i64_in (by omega) (by omega)
end Go.Eng
namespace Go.Proofs
open Go Go.Eng
variable {B : World} {R : Ending → Heap → Prop} {h : Heap}
/-- Digits to the base 2^30, perhaps with zeros on top. -/
structure DigU (h : Heap) (p : Option Addr) (n : Nat) (ds : List Nat) : Prop where
  pt : Pt p
  sl : Sl .i64 h p ds
  len : ds.length = n
  dig : Dig B30 ds
theorem DigI.u {p : Option Addr} {n : Nat} {ds : List Nat} (H : DigI h p n ds) : DigU h p n ds := ⟨H.pt, H.sl, H.len, H.dig⟩
theorem DigU.ext {h' : Heap} {p : Option Addr} {n : Nat} {ds : List Nat} (H : DigU h p n ds) (f : Ext h h') : DigU h' p n ds := ⟨H.pt, H.sl.ext f, H.len, H.dig⟩
theorem DigI.nil : DigI h none 0 [] := ⟨.inl rfl, Sl.nil, rfl, Dig.nil, by simp [Trim]⟩
end Go.Proofs
namespace Go.Proofs
open Go Go.Eng
variable {B : World} {R : Ending → Heap → Prop} {h : Heap}
theorem _root_.Go.Eng.Lst.u {h0 h : Heap} {p : Option Addr} {n c : Nat} {ws : List Nat} (L : Lst h0 h p n c ws) (d : Dig B30 ws) : DigU h p n ws := ⟨L.pt, L.sl, L.len, d⟩
end Go.Proofs
namespace Go.Eng
open Go
theorem Dig.set {b : Nat} {l : List Nat} (h : Dig b l) (k x : Nat) (hx : x < b) : Dig b (l.set k x) := fun w hw => by
  rcases List.mem_or_eq_of_mem_set hw with h1 | h1
  · exact h w h1
  · rw [h1]; exact hx
end Go.Eng
namespace Go.Proofs
open Go Go.Eng
variable {B : World} {R : Ending → Heap → Prop} {h : Heap}
end Go.Proofs
namespace Go.Proofs
open Go Go.Eng
variable {B : World} {R : Ending → Heap → Prop} {h : Heap}
/-- plumbref1.Neg. -/
def negP (b : Int) : Int := if isNaN b then NaNP else if b < 0 then b + 9223372036854775808 else b - 9223372036854775808
end Go.Proofs
namespace Go.Proofs
open Go Go.Eng
variable {B : World} {R : Ending → Heap → Prop} {h : Heap}
/-- A number laid and handed back. -/
theorem ret3 {r n c : Nat} {x0 x1 x2 : Value} {neg : Bool} {p : Option Addr} {e : Int} (O : Own h r #[x0, x1, x2]) (H : ∀ h', Fr (fun x => x = r) h h' → R (.returned (.agg #[.bool neg, .slice p n c, .int .i64 e])) h') :
    isP (some ⟨r, 0, none⟩) fun b11 o12 => stC h b11 o12 (.bool neg) fun h13 =>
 stC h13 b11 (o12 + 1) (.slice p n c) fun h14 =>
 stC h14 b11 (o12 + 1 + 1) (.int .i64 e) fun h15 =>
 isP (some ⟨r, 0, none⟩) fun b16 o17 =>
∃ x18, cell? h15 ⟨b16, o17, none⟩ = some (.bool x18) ∧
∃ x19 x19n x19c, cell? h15 ⟨b16, o17 + 1, none⟩ = some (.slice x19 x19n x19c) ∧
∃ x20, cell? h15 ⟨b16, o17 + 1 + 1, none⟩ = some (.int .i64 x20) ∧
 R (.returned (.agg #[.bool x18, .slice x19 x19n x19c, .int .i64 x20])) h15 := by
  refine ⟨r, 0, rfl, O.stC (by simp) rfl fun oa fa => oa.stC (by simp) rfl fun ob fb => ob.stC (by simp) rfl fun oc fc => ⟨r, 0, rfl, _, oc.cell _, _, _, _, oc.cell _, _, oc.cell _, ?_⟩⟩
  exact H _ (Fr.trans (S := fun x => x = r) (Fr.trans (S := fun x => x = r) fa fb fun _ _ e => e) fc fun _ _ e => e)
theorem fM_lt (b : Int) : fM b < 9007199254740992 := by
  have := fT_lt b
  unfold fM; split <;> omega
theorem fX_lt {b : Int} (hf : isFin b = true) : fX b ≤ 971 := by
  have hE : fE b < 2047 := by unfold isFin at hf; exact of_decide_eq_true hf
  unfold fX; split <;> omega
theorem fV_bl {b : Int} (hf : isFin b = true) : bl (fV b).natAbs ≤ 2100 := by
  have h1 := fX_lt hf
  have h2 := fM_lt b
  have h3 := fX_ge b
  unfold fV
  rw [signed_abs]
  by_cases h0 : fM b = 0
  · rw [h0, Nat.zero_mul]; decide
  · have hl : bl (fM b) ≤ 53 := bl_le_iff.2 h2
    rw [bl_scale _ h0]; omega
theorem signed_neg {neg : Bool} {M k : Nat} (h : M ≠ 0) : decide (Ieee.signed neg M k < 0) = neg := by
  have h2 : 0 < M * 2 ^ k := Nat.mul_pos (by omega) (Nat.pow_pos (by decide))
  unfold Ieee.signed
  rw [Nat.shiftLeft_eq]
  cases neg
  · have : ¬ ((M * 2 ^ k : Nat) : Int) < 0 := by omega
    simp only [Bool.false_eq_true, if_false, this, decide_false]
  · simp only [if_true, decide_eq_true_eq]; omega
theorem DigI.short {p : Option Addr} {n N : Nat} {es : List Nat} (D : DigI h p n es) (hb : bl (val B30 es) ≤ 30 * N) : n ≤ N := by
  have : digs B30 (val B30 es) = es := digs_of (by decide) D.dig D.trim
  rw [← D.len, ← this]
  exact digs_len (k := 30) rfl (by decide) hb
theorem bl_add {a b : Int} {L : Nat} (ha : bl a.natAbs ≤ L) (hb : bl b.natAbs ≤ L) : bl (a + b).natAbs ≤ L + 1 := by
  rw [bl_le_iff] at *
  rw [Nat.pow_succ]; omega
theorem bl_mul {a b : Int} {L L' : Nat} (ha : bl a.natAbs ≤ L) (hb : bl b.natAbs ≤ L') : bl (a * b).natAbs ≤ L + L' := by
  rw [bl_le_iff] at *
  rw [Int.natAbs_mul, Nat.pow_add]
  exact Nat.mul_lt_mul'' ha hb
end Go.Proofs
set_option linter.unusedVariables false
namespace Go.Eng
open Go
/-- The bits behind the last place: the first one, and whether there are others. -/
def halfB (M d : Nat) : Bool := decide (0 < d) && decide (M / 2 ^ (d - 1) % 2 = 1)
def restB (M d : Nat) : Bool := decide (0 < d - 1) && decide (M % 2 ^ (d - 1) ≠ 0)
theorem odd_bits (M d : Nat) : decide (M % 2 ^ d ≠ 0) = (halfB M d || restB M d) := by
  unfold halfB restB
  cases d with
  | zero => simp [Nat.mod_one]
  | succ d =>
    have hp : 0 < 2 ^ d := Nat.pow_pos (by decide)
    have h1 : M % 2 ^ (d + 1) = 2 ^ d * (M / 2 ^ d % 2) + M % 2 ^ d := by
      rw [Nat.pow_succ, Nat.mod_mul, Nat.add_comm]
    have hd : d + 1 - 1 = d := rfl
    rw [hd, h1]
    rcases Nat.mod_two_eq_zero_or_one (M / 2 ^ d) with h | h
    · rw [h]
      by_cases h0 : M % 2 ^ d = 0
      · simp [h0]
      · have hd0 : 0 < d := by
          rcases Nat.eq_zero_or_pos d with hz | hz
          · subst hz; rw [Nat.pow_zero, Nat.mod_one] at h0; exact absurd rfl h0
          · exact hz
        simp [h0, hd0]
    · rw [h]; simp
theorem rn_bits' (M d : Nat) : rn M d = M / 2 ^ d + (if (halfB M d && (restB M d || decide (M / 2 ^ d % 2 = 1))) = true then 1 else 0) := by
  unfold halfB restB
  cases d with
  | zero => rw [rn_zero]; simp
  | succ d =>
    unfold rn
    congr 1
    have hp : 0 < 2 ^ d := Nat.pow_pos (by decide)
    have h1 : M % 2 ^ (d + 1) = 2 ^ d * (M / 2 ^ d % 2) + M % 2 ^ d := by
      rw [Nat.pow_succ, Nat.mod_mul, Nat.add_comm]
    have h2 : M % 2 ^ d < 2 ^ d := Nat.mod_lt _ hp
    have h3 : 2 ^ (d + 1) = 2 ^ d * 2 := Nat.pow_succ ..
    have hd : d + 1 - 1 = d := rfl
    rw [hd, h1]
    generalize M / 2 ^ (d + 1) % 2 = q
    rcases Nat.mod_two_eq_zero_or_one (M / 2 ^ d) with h | h
    · rw [h, if_neg (by omega)]; simp
    · rw [h]
      by_cases h0 : M % 2 ^ d = 0
      · by_cases hq : q = 1
        · rw [if_pos (by omega)]; simp [h0, hq]
        · rw [if_neg (by omega)]; simp [h0, hq]
      · have hd0 : 0 < d := by
          rcases Nat.eq_zero_or_pos d with hz | hz
          · subst hz; rw [Nat.pow_zero, Nat.mod_one] at h0; exact absurd rfl h0
          · exact hz
        rw [if_pos (by omega)]; simp [h0, hd0]
end Go.Eng
set_option linter.unusedVariables false
namespace Go.Eng
open Go
theorem nat_andNot {x k : Nat} (hx : x < 2 ^ 64) (hk : k ≤ 64) : x &&& (2 ^ 64 - 1 - (2 ^ k - 1)) = x / 2 ^ k * 2 ^ k := by
  apply Nat.eq_of_testBit_eq
  intro i
  have h1 : 2 ^ 64 - 1 - (2 ^ k - 1) = 2 ^ 64 - ((2 ^ k - 1) + 1) := by omega
  have hlt : 2 ^ k - 1 < 2 ^ 64 := Nat.lt_of_lt_of_le (Nat.sub_lt (Nat.pow_pos (by decide)) (by decide)) (Nat.pow_le_pow_right (by decide) hk)
  rw [Nat.testBit_and, h1, Nat.testBit_two_pow_sub_succ hlt, Nat.testBit_two_pow_sub_one, Nat.testBit_mul_two_pow, Nat.testBit_div_two_pow]
  by_cases hi : i < 64
  · by_cases hik : i < k
    · have : ¬ k ≤ i := by omega
      simp [hi, hik, this]
    · have h2 : k ≤ i := by omega
      simp [hi, hik, h2]
  · have h2 : x.testBit i = false := Nat.testBit_lt_two_pow (Nat.lt_of_lt_of_le hx (Nat.pow_le_pow_right (by decide) (by omega)))
    have h3 : k ≤ i := by omega
    simp [hi, h2, h3]
theorem bitsI_andNot {x k : Nat} (hx : x < 18446744073709551616) (hk : k < 64) : bitsI .andNot .u64 (x : Int) ((2 ^ k - 1 : Nat) : Int) = ((x / 2 ^ k * 2 ^ k : Nat) : Int) := by
  have h1 : bitsI .andNot .u64 (x : Int) ((2 ^ k - 1 : Nat) : Int) = IntKind.u64.wrap (((BitVec.ofInt 64 (x : Int) &&& ~~~(BitVec.ofInt 64 ((2 ^ k - 1 : Nat) : Int))).toNat : Nat) : Int) := rfl
  have hlt : 2 ^ k - 1 < 2 ^ 64 := Nat.lt_of_lt_of_le (Nat.sub_lt (Nat.pow_pos (by decide)) (by decide)) (Nat.pow_le_pow_right (by decide) (by omega))
  rw [h1, ofInt_nat, ofInt_nat, BitVec.toNat_and, BitVec.toNat_not, BitVec.toNat_ofNat, BitVec.toNat_ofNat, Nat.mod_eq_of_lt (by omega : x < 2 ^ 64), Nat.mod_eq_of_lt hlt, nat_andNot (by omega) (by omega), wrap_u64_nat]
  congr 1
  have := Nat.div_mul_le_self x (2 ^ k)
  omega
theorem and_bit {x k : Nat} (hx : x < 18446744073709551616) (hk : k < 64) : (bitsI .and .u64 (x : Int) ((2 ^ k : Nat) : Int) = 0) ↔ x / 2 ^ k % 2 = 0 := by
  have hlt : 2 ^ k < 18446744073709551616 := Nat.pow_lt_pow_right (by decide) (show k < 64 from hk)
  rw [bitsI_and hx, Nat.mod_eq_of_lt hlt]
  have hb : x.testBit k = decide (x / 2 ^ k % 2 = 1) := Nat.testBit_eq_decide_div_mod_eq
  have key : (x &&& 2 ^ k) = 0 ↔ x / 2 ^ k % 2 = 0 := by
    constructor
    · intro h0
      have := congrArg (fun y => Nat.testBit y k) h0
      simp only [Nat.testBit_and, Nat.testBit_two_pow_self, Bool.and_true, Nat.zero_testBit, hb, decide_eq_false_iff_not] at this
      omega
    · intro h0
      apply Nat.eq_of_testBit_eq
      intro i
      rw [Nat.testBit_and, Nat.testBit_two_pow, Nat.zero_testBit]
      by_cases hik : k = i
      · subst hik
        rw [hb, decide_eq_false (by omega)]; rfl
      · simp [hik]
  omega
theorem or_01 {a b : Nat} (ha : a ≤ 1) (hb : b ≤ 1) : (bitsI .or .u64 (a : Int) (b : Int) = 0) ↔ (a = 0 ∧ b = 0) := by
  rw [bitsI_or (by omega) (by omega)]
  rcases (by omega : a = 0 ∨ a = 1) with rfl | rfl <;> rcases (by omega : b = 0 ∨ b = 1) with rfl | rfl <;> decide
theorem lsb_wrap {k : Nat} (hk : k < 64) : IntKind.u64.wrap ((1 : Int) * 2 ^ min (Int.toNat (k : Int)) IntKind.u64.bits) = ((2 ^ k : Nat) : Int) := by
  have := shl_pow (x := 1) (s := k) hk
  have hlt : 2 ^ k < 18446744073709551616 := Nat.pow_lt_pow_right (by decide) (show k < 64 from hk)
  rw [Nat.one_mul, Nat.mod_eq_of_lt hlt] at this
  exact this
theorem lsb_sub {k : Nat} (hk : k < 64) : IntKind.u64.wrap (((2 ^ k : Nat) : Int) - 1) = ((2 ^ k - 1 : Nat) : Int) := by
  have hp : 0 < 2 ^ k := Nat.pow_pos (by decide)
  have hlt : 2 ^ k < 18446744073709551616 := Nat.pow_lt_pow_right (by decide) (show k < 64 from hk)
  rw [wrap_u64_in (by omega) (by omega)]
  omega
end Go.Eng
namespace Go.Proofs
open Go Go.Eng
variable {B : World} {R : Ending → Heap → Prop} {h : Heap}
/-- addVW of one word, where it is. -/
theorem K203s {q o c t y : Nat} (M : Mn h q o 1 c [t]) (hy : y < B64)
    (H : ∀ h', Mn h' q o 1 c [(t + y) % B64] → Fr (fun x => x = q) h h' → R (.returned (.int .u64 (((t + y) / B64 : Nat) : Int))) h') :
    Ent Tryz.prog B 140 #[.slice (some ⟨q, o, none⟩) 1 c, .slice (some ⟨q, o, none⟩) 1 c, .int .u64 (y : Int)] R h := by
  have hB : B64 = 18446744073709551616 := rfl
  obtain ⟨cs, c1, c2, c3⟩ := M.own
  have hle := M.le
  have ht : t < B64 := M.dig t (by simp)
  refine F203_ok _ _ _ _ _ _ _ ⟨fun e => by simp at e, fun _ => ⟨fun e => by simp at e, fun _ => ?_⟩⟩
  refine M.sl.get 0 rfl (by simp) (by simp) (K204 (by decide) ⟨_, _, rfl, ?_⟩)
  simp only [List.getElem_cons_zero, Nat.add_zero]
  have hz : (t + y) % B64 < B64 := Nat.mod_lt _ (by decide)
  refine Wrote.put (zs := []) (Wrote.nil c1) c1 ((t + y) % B64) rfl rfl (by decide) (by omega) fun W => ?_
  have M2 : Mn _ q o 1 c [(t + y) % B64] := M.wrote W rfl (fun w hw => by simp at hw; subst hw; exact hz)
  have hfin := H _ M2 W.fr
  refine ⟨fun e => ?_, fun e => ?_⟩
  · have h0 : (t + y) / B64 = 0 := by have := of_decide_eq_true e; exact Int.natCast_eq_zero.1 this
    rw [h0] at hfin
    refine ⟨q, o, rfl, by omega, by omega, q, o, rfl, by omega, by omega, .inr (.inr ⟨_, _, _, _, rfl, rfl, .inl ⟨rfl, ?_⟩⟩)⟩
    simp only [Int.toNat_zero, Nat.zero_mul, Nat.add_zero, decide_true, Bool.not_true]
    exact ⟨fun e => (by cases e), fun _ => hfin⟩
  · have h1 : (t + y) / B64 = 1 := by
      have a1 : (t + y) / B64 ≠ 0 := fun e0 => (of_decide_eq_false e) (by
        show (((t + y + 0) / B64 : Nat) : Int) = 0
        rw [Nat.add_zero, e0]; rfl)
      have a2 : (t + y) / B64 < 2 := by rw [Nat.div_lt_iff_lt_mul (by decide)]; omega
      exact Nat.le_antisymm (Nat.le_of_lt_succ a2) (Nat.pos_of_ne_zero a1)
    rw [h1] at hfin
    refine ⟨fun k vs h' => match vs with
      | [.slice p n cc, .slice p' n' c', .int _ i] => n = 1 ∧ i = 1 ∧ R (.returned (.int .u64 (1 : Int))) h'
      | _ => False, 0, ⟨rfl, rfl, hfin⟩, ?_⟩
    rintro k h' _ _ _ _ _ _ _ ⟨rfl, rfl, hf⟩ _
    exact ⟨fun e => by simp at e, fun _ => hf⟩
end Go.Proofs
set_option linter.unusedVariables false
namespace Go.Eng
open Go
theorem Mn.put0 {h h' : Heap} {q o n c w0 w : Nat} {rs : List Nat} (M : Mn h q o n c (w0 :: rs)) (W : Wrote .u64 h h' q o [w]) (hw : w < 18446744073709551616) : Mn h' q o n c (w :: rs) := by
  obtain ⟨cs, c1, c2, c3⟩ := M.own
  obtain ⟨cs', w1, w2, w3, w4⟩ := W.own c1
  refine ⟨⟨cs', w1, by omega, fun i hi => ?_⟩, M.len, M.le, M.lim, ?_⟩
  · cases i with
    | zero => exact w4 0 (by simp)
    | succ i =>
      rw [w3 _ (.inr (by simp))]
      have := c3 (i + 1) (by simpa using hi)
      simpa using this
  · intro v hv
    rcases List.mem_cons.1 hv with rfl | hv
    · exact hw
    · exact M.dig v (List.mem_cons_of_mem _ hv)
end Go.Eng
namespace Go.Proofs
open Go Go.Eng
variable {B : World} {R : Ending → Heap → Prop} {h : Heap}
theorem rnd_head {r q o n c V i : Nat} {pr ac ex : Int} {ng : Bool} {ws : List Nat} (F : Flt h r pr ac 1 ng (some ⟨q, o, none⟩) n c ex) (M : Mn h q o n c ws) (hq : q ≠ r) (hV : val B64 ws = V)
    (hp : 1 ≤ pr) (hi : (i : Int) = 64 * n - pr - 1) (hn : n ≤ 30000000)
    (K : ∀ h1, Flt h1 r pr 0 1 ng (some ⟨q, o, none⟩) n c ex → Fr (fun x => x = r) h h1 → F1110_j10 B R (some ⟨r, 0, none⟩) (if V % 2 ^ i = 0 then (0 : Int) else 1) (n : Int) ((V / 2 ^ i % 2 : Nat) : Int) h1) :
    Ent Tryz.prog B 122 #[.pointer (some ⟨r, 0, none⟩), .int .u64 (0 : Int)] R h := by
  have e0 : IntKind.u32.wrap (n : Int) = (n : Int) := wrap_u32_in (by omega) (by omega)
  have e1 : IntKind.u32.wrap ((n : Int) * 64) = (n : Int) * 64 := wrap_u32_in (by omega) (by omega)
  have e2 : IntKind.u32.wrap ((n : Int) * 64 - pr) = (n : Int) * 64 - pr := wrap_u32_in (by omega) (by omega)
  have e3 : IntKind.u32.wrap ((n : Int) * 64 - pr - 1) = (i : Int) := by rw [wrap_u32_in (by omega) (by omega)]; omega
  have e4 : IntKind.u64.wrap (i : Int) = (i : Int) := wrap_u64_in (by omega) (by omega)
  refine F1110_ok _ _ ⟨fun e => (by cases e), fun _ => F.sac fun h1 F1 f1 => F1.lfo ⟨fun e => by simp at e, fun _ => F1.ma (F1.p0 ?_)⟩⟩
  rw [e0, e1]
  refine ⟨fun e => by have := of_decide_eq_true e; omega, fun _ => F1.p0 (F1.ma ?_)⟩
  rw [e2, e3, e4]
  have M1 : Mn h1 q o n c ws := M.fr f1 hq
  have hlast : F1110_j9 B R (some ⟨r, 0, none⟩) 0 (n : Int) (i : Int) (bitsI .and .u64 ((val B64 ws / 2 ^ i % 2 : Nat) : Int) (1 : Int)) true h1 := by
    refine ⟨fun _ => F1.ma (K1097 M1 (by omega) ⟨_, rfl, ?_⟩), fun e => by cases e⟩
    rw [hV]
    have h2 : V / 2 ^ i % 2 < 2 := Nat.mod_lt _ (by decide)
    have e5 : bitsI .and .u64 ((V / 2 ^ i % 2 : Nat) : Int) (1 : Int) = ((V / 2 ^ i % 2 : Nat) : Int) := by
      have := bitsI_and (a := V / 2 ^ i % 2) (b := 1) (by omega)
      rw [show ((1 : Nat) : Int) = 1 from rfl] at this
      rw [this, Nat.mod_eq_of_lt (by decide : 1 < 18446744073709551616), Nat.and_one_is_mod, Nat.mod_mod]
    rw [e5]
    exact K h1 F1 f1
  refine K1128 M1.sl M1.len M1.dig (Nat.lt_of_le_of_lt M1.le M1.lim) (by omega) ⟨_, rfl, ⟨fun _ => ⟨fun _ => hlast, fun _ => F1.mo hlast⟩, fun e => by simp at e⟩⟩
/-- The low bits of the lowest word are cut off. -/
theorem rnd_end {r q o n c w0 k : Nat} {pr ac ex : Int} {ng : Bool} {rs : List Nat} (F : Flt h r pr ac 1 ng (some ⟨q, o, none⟩) n c ex) (M : Mn h q o n c (w0 :: rs)) (hq : q ≠ r) (hk : k < 64)
    (H : ∀ h', Flt h' r pr ac 1 ng (some ⟨q, o, none⟩) n c ex → Mn h' q o n c (w0 / 2 ^ k * 2 ^ k :: rs) → Fr (fun x => x = q) h h' → R (.returned (.tuple #[])) h') :
    F1110_j40 B R (some ⟨r, 0, none⟩) ((2 ^ k : Nat) : Int) h := by
  have hl := M.len
  have hle := M.le
  simp only [List.length_cons] at hl
  have hw0 : w0 < B64 := M.dig w0 (by simp)
  unfold F1110_j40
  rw [lsb_sub hk]
  refine F.ma (M.sl.get 0 rfl (by simp) (by simp; omega) ?_)
  simp only [List.getElem_cons_zero]
  rw [bitsI_andNot hw0 hk]
  obtain ⟨cs, c1, c2, c3⟩ := M.own
  have hlt : w0 / 2 ^ k * 2 ^ k < B64 := Nat.lt_of_le_of_lt (Nat.div_mul_le_self _ _) hw0
  refine Wrote.put (zs := []) (Wrote.nil c1) c1 (w0 / 2 ^ k * 2 ^ k) rfl rfl (show 0 < n by omega) (by omega) fun W => ⟨fun e => (by cases e), fun _ => ?_⟩
  exact H _ (F.fr W.fr (fun e => hq e.symm)) (M.put0 W hlt) W.fr
/-- Rounding what fits: nothing is lost. -/
theorem K1110a {r q o n c V : Nat} {pr ac ex : Int} {ng : Bool} {ws : List Nat} (F : Flt h r pr ac 1 ng (some ⟨q, o, none⟩) n c ex) (M : Mn h q o n c ws) (hq : q ≠ r) (hV : val B64 ws = V)
    (h0 : 0 < n) (hp : 64 * ((n : Int) - 1) < pr) (hp1 : 1 ≤ pr) (hn : n ≤ 30000000) (hz : V % 2 ^ (64 * n - pr).toNat = 0)
    (H : ∀ h', Flt h' r pr 0 1 ng (some ⟨q, o, none⟩) n c ex → Mn h' q o n c ws → Fr (fun x => x = r ∨ x = q) h h' → R (.returned (.tuple #[])) h') :
    Ent Tryz.prog B 122 #[.pointer (some ⟨r, 0, none⟩), .int .u64 (0 : Int)] R h := by
  have e0 : IntKind.u32.wrap (n : Int) = (n : Int) := wrap_u32_in (by omega) (by omega)
  have e1 : IntKind.u32.wrap ((n : Int) * 64) = (n : Int) * 64 := wrap_u32_in (by omega) (by omega)
  by_cases hfit : (n : Int) * 64 ≤ pr
  · refine F1110_ok _ _ ⟨fun e => (by cases e), fun _ => F.sac fun h1 F1 f1 => F1.lfo ⟨fun e => by simp at e, fun _ => F1.ma (F1.p0 ?_)⟩⟩
    rw [e0, e1]
    exact ⟨fun _ => H h1 F1 (M.fr f1 hq) (f1.mono fun _ _ e => .inl e), fun e => by have := of_decide_eq_false e; omega⟩
  · obtain ⟨i, hi⟩ : ∃ i : Nat, (i : Int) = 64 * n - pr - 1 := ⟨(64 * n - pr - 1).toNat, by omega⟩
    have hk : (64 * (n : Int) - pr).toNat = i + 1 := by omega
    rw [hk] at hz
    have hz1 : V / 2 ^ i % 2 = 0 := by
      have := Nat.mod_mul_right_div_self V (2 ^ i) 2
      rw [← Nat.pow_succ, hz, Nat.zero_div] at this
      exact this.symm
    have hz2 : V % 2 ^ i = 0 := by
      have := Nat.mod_mod_of_dvd V (show 2 ^ i ∣ 2 ^ (i + 1) from ⟨2, Nat.pow_succ ..⟩)
      rw [hz, Nat.zero_mod] at this
      exact this.symm
    refine rnd_head F M hq hV hp1 hi hn fun h1 F1 f1 => ?_
    have M1 : Mn h1 q o n c ws := M.fr f1 hq
    rw [if_pos hz2, hz1]
    have e5 : IntKind.u32.wrap (Int.tdiv (IntKind.u32.wrap (pr + 63)) 64) = (n : Int) := by
      rw [wrap_u32_in (x := pr + 63) (by omega) (by omega), Int.tdiv_eq_ediv_of_nonneg (by omega), wrap_u32_in (by omega) (by omega)]
      omega
    refine F1.p0 ⟨by decide, ?_⟩
    rw [e5]
    refine ⟨fun e => by have := of_decide_eq_true e; omega, fun _ => F1.p0 ?_⟩
    rw [e1, wrap_u32_in (x := (n : Int) * 64 - pr) (by omega) (by omega)]
    refine ⟨by omega, fun e => ?_, fun _ => ?_⟩
    · exact absurd e (by decide)
    obtain ⟨k, hk2⟩ : ∃ k : Nat, (k : Int) = (n : Int) * 64 - pr := ⟨((n : Int) * 64 - pr).toNat, by omega⟩
    rw [← hk2, lsb_wrap (by omega)]
    have hwl := M1.len
    match ws, M1, hV with
    | [], M1, _ => have := M1.len; simp at this; omega
    | w0 :: rs, M1, hV =>
      have hke : k = i + 1 := by omega
      have hw0 : w0 % 2 ^ k = 0 := by
        have hB : B64 = 2 ^ k * 2 ^ (64 - k) := by rw [← Nat.pow_add, show k + (64 - k) = 64 by omega]
        rw [← hV, val, hB, Nat.mul_assoc, ← hke, Nat.add_mul_mod_self_left] at hz
        exact hz
      have hw1 : w0 / 2 ^ k * 2 ^ k = w0 := Nat.div_mul_cancel (Nat.dvd_of_mod_eq_zero hw0)
      refine rnd_end F1 M1 hq (by omega) fun h2 F2 M2 f2 => ?_
      rw [hw1] at M2
      exact H h2 F2 M2 (Fr.trans (f1.mono fun _ _ e => .inl e) (f2.mono (T := fun x => x = r ∨ x = q) fun _ _ e => .inr e) fun _ _ e => e)
end Go.Proofs
