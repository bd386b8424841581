import Derived.Test.YtoclhdcpjlcdiaaGreatFmtA31
import Derived.Test.YtoclhdcpjlcdiaaGreatFmtA37
import Derived.Test.YtoclhdcpjlcdiaaGreatFmtA58
import Derived.Test.YtoclhdcpjlcdiaaGreatFmtA32
import Derived.Test.YtoclhdcpjlcdiaaGreatFmtA46
import Derived.Test.YtoclhdcpjlcdiaaGreatFmtA38
/- Here stand lemmas: a quotient, and what chapter 4 asks first. -/
set_option linter.unusedVariables false
set_option linter.unusedVariables false
/-! What is left of a quotient: a bit behind all others. -/
namespace Go.Proofs
open Go Go.Eng
variable {B : World} {R : Ending → Heap → Prop} {h : Heap}
/-- nat.or, of two that are not where it goes, or lie there. -/
theorem K168g {pz px py : Option Addr} {zn zc n xc m yc vx vy : Nat} {S : Nat → Prop} (hz : Dst h pz zc S) (hx : NatI h px n vx) (hy : NatI h py m vy) (hax : Al S pz px n) (hay : Al S pz py m) (hxc : n ≤ xc) (hyc : m ≤ yc) (ln : n < 549755813888) (lm : m < 549755813888) (h0 : 0 < vx ||| vy) (H : NatK R h S (vx ||| vy)) :
    Ent Tryz.prog B 106 #[.slice pz zn zc, .slice px n xc, .slice py m yc] R h := by
  obtain ⟨xs, x1, x2, x3, x4, x5⟩ := hx.ex
  obtain ⟨ys, y1, y2, y3, y4, y5⟩ := hy.ex
  have x5 : val B64 xs = vx := x5
  have y5 : val B64 ys = vy := y5
  have hne : 0 < n ∨ 0 < m := by
    by_cases hn : n = 0
    · by_cases hm : m = 0
      · exfalso
        rw [← x5, ← y5, List.eq_nil_of_length_eq_zero (x2.trans hn), List.eq_nil_of_length_eq_zero (y2.trans hm)] at h0
        exact absurd h0 (by decide)
      · omega
    · omega
  refine F168_ok _ _ _ _ _ _ _ _ _ ⟨fun e => ?_, fun e => ?_⟩
  · have hlt : n < m := by simp at e; omega
    refine K168m hz x1 y1 y1 x3 y3 y3 (by omega) (by omega) x2 y2 y2 (by omega) hyc (by omega) hax hay hay hy.pt (by omega) (fun zs lz dz hv => ?_) H
    rw [val_append, lz, hv, List.take_of_length_le (by omega : xs.length ≤ n), ← x5, ← y5, val_split B64 ys (i := n) (by omega), pow64]
    have := or_split (a := 0) (c := val B64 (ys.drop n)) (val_lt64 x3 x2) (val_lt64 (y3.take n) (n := n) (by rw [List.length_take]; omega))
    rw [Nat.mul_zero, Nat.add_zero, Nat.zero_or] at this
    exact this.symm
  · have hle : m ≤ n := by simp at e; omega
    refine K168m hz x1 y1 x1 x3 y3 x3 (by omega) (by omega) x2 y2 x2 (by omega) hxc (by omega) hax hay hax hx.pt (by omega) (fun zs lz dz hv => ?_) H
    rw [val_append, lz, hv, List.take_of_length_le (by omega : ys.length ≤ m), ← x5, ← y5, val_split B64 xs (i := m) (by omega), pow64]
    have := or_split (c := 0) (a := val B64 (xs.drop m)) (val_lt64 (x3.take m) (n := m) (by rw [List.length_take]; omega)) (val_lt64 y3 y2)
    rw [Nat.mul_zero, Nat.add_zero, Nat.or_zero] at this
    exact this.symm
/-- Or of what is not negative, into a third one. -/
theorem K175g {r q rx qx ry qy : Nat} {u : Nat} {v w : Nat} (hz : IntAt h r q u) (hx : IntAt h rx qx v) (hy : IntAt h ry qy w) (hqx : q ≠ qx) (hq : q ≠ qy) (hb : bl v ≤ 1000000) (hb2 : bl w ≤ 1000000) (h0 : 0 < v ||| w) (H : IntK R h r (Rm r q) ((v ||| w : Nat) : Int)) :
    Ent Tryz.prog B 78 #[.pointer (some ⟨r, 0, none⟩), .pointer (some ⟨rx, 0, none⟩), .pointer (some ⟨ry, 0, none⟩)] R h := by
  obtain ⟨pz, zn, zc, z1, z2, z3, z4⟩ := hz.ex
  obtain ⟨p, n, c, h1, h2, h3, h4⟩ := hx.ex
  obtain ⟨py, m, cy, y1, y2, y3, y4⟩ := hy.ex
  rw [Int.natAbs_natCast] at h2 y2
  have hl := h2.len hb
  have hl2 := y2.len hb2
  have hd : decide ((v : Int) < 0) = false := by simp
  have hd2 : decide ((w : Int) < 0) = false := by simp
  rw [hd] at h1
  rw [hd2] at y1
  have hal : Al (Rm r q) pz py m := .inr fun b o e hm hb => by
    rcases y4.room with e0 | ⟨b', o', cs, e1, e2, e3, e4⟩
    · omega
    · rw [e1] at e; cases e; exact hq (hb.1.symm.trans e4.1)
  have hax : Al (Rm r q) pz p n := .inr fun b o e hm hb => by
    rcases h4.room with e0 | ⟨b', o', cs, e1, e2, e3, e4⟩
    · omega
    · rw [e1] at e; cases e; exact hqx (hb.1.symm.trans e4.1)
  refine F175_ok _ _ _ (ldB h1 (ldB y1 ⟨fun _ => ldB h1 ⟨fun e => (by cases e), fun _ => ldS z1 (ldS h1 (ldS y1 (K168g z4 h2 y2 hax hal h3 y3 (by omega) (by omega) h0 fun p' n' c' h' f1 f2 f3 f4 => ⟨_, _, _, rfl, ?_⟩)))⟩, fun e => (by cases e)⟩))
  refine stS (z1.fr f1 rm_ne) fun h2' o2 fr2 => stB o2 fun h3' o3 fr3 => ?_
  exact intEnd f1 (Fr.trans fr2 fr3 fun _ _ e => e) z1.lt rm_ne f2 f3 f4 o3 (dec_nat _) H
/-- number.stuck, of what has a little more. -/
theorem K1078m {r q : Nat} {m e : Int} (hx : IntAt h r q m) (hm : 0 < m) (hb : bl m.natAbs ≤ 900000) (he : -4611686018427387904 ≤ e) (he2 : e ≤ 4611686018427387904)
    (H : ∀ r' q' h', Ext h h' → h.size ≤ r' → IntAt h' r' q' (m * 2 + 1) → R (.returned (.agg #[.pointer (some ⟨r', 0, none⟩), .int .i64 (e - 1), .bool true])) h') :
    Ent Tryz.prog B 50 #[.agg #[.pointer (some ⟨r, 0, none⟩), .int .i64 e, .bool true]] R h := by
  refine F1078_ok _ _ _ ?_
  refine alK fun r1 h1 e1 f1 o1 z1 => ?_
  refine alK fun r2 h2 e2 f2 o2 z2 => ?_
  refine alK fun r3 h3 e3 f3 o3 z3 => ?_
  have X3 := ((hx.ext f1).ext f2).ext f3
  have O1 := (o1.ext f2).ext f3
  have O2 := o2.ext f3
  have lr := hx.lt
  have fx := Ext.trans (Ext.trans f1 f2) f3
  refine ⟨r1, 0, rfl, r1, 0, rfl, _, O1.cell _, ?_⟩
  refine K128f (s := 1) o3 X3 (by omega) (by omega) (by omega) fun q4 h4 f4 d4 I4 => ⟨_, rfl, ?_⟩
  rw [show m * 2 ^ 1 = m * 2 by rw [Int.pow_succ, Int.pow_zero, Int.one_mul]] at I4
  have n4 : ∀ x, x ≠ r3 → ¬ (x = r3 ∨ False) := fun x a b => b.elim a id
  have O1' := O1.fr f4 (n4 _ (by omega))
  have O2' := O2.fr f4 (n4 _ (by omega))
  have s4 := f4.size
  have F4 : Ext h h4 := Fr.trans fx f4 fun x hx e => n4 x (by omega) e
  have hq4 : h3.size ≤ q4 ∨ q4 = r3 := by rcases d4 with e | e | e; exact .inr e; exact e.elim; exact .inl e
  have l3 := o3.lt
  refine ⟨r1, 0, rfl, r1, 0 + 2, rfl, _, O1'.cell _, fun _ => alK fun r5 h5 e5 f5 o5 z5 => ?_, fun e => (by cases e)⟩
  have I5 := I4.ext f5
  have l4 := I4.lt
  have lq4 := I4.lq
  have hba : bl (m * 2).natAbs ≤ 1000000 := by
    have := bl_sc (m := m) (k := 1) (L := 900000) (by omega)
    rw [show m * 2 ^ 1 = m * 2 by rw [Int.pow_succ, Int.pow_zero, Int.one_mul]] at this
    omega
  refine K123f (rz := r5) o5 I5 (by omega) hba fun q6 h6 f6 d6 I6 => ⟨_, rfl, ?_⟩
  have n6 : ∀ x, x ≠ r5 → ¬ (x = r5 ∨ False) := fun x a b => b.elim a id
  have s6 := f6.size
  have hq6 : h4.size ≤ q6 := by rcases d6 with e | e | e; omega; exact e.elim; omega
  refine K120 (v := 1) (by omega) (by omega) fun r7 q7 h7 f7 l7 l7b lq7 I7 => ⟨_, rfl, ?_⟩
  have F67 : Fr (fun x => x = r5 ∨ False) h5 h7 := Fr.trans f6 f7 fun x hx e => e.elim
  have A7 := I5.fr F67 (n6 _ (by omega)) (n6 _ (by omega))
  have B7 := I6.ext f7
  have c1 : ((1 : Nat) : Int) = 1 := rfl
  rw [← c1] at I7
  have hpos : m * 2 = ((m * 2).natAbs : Int) := by omega
  rw [hpos] at A7
  have hor : ((m * 2).natAbs ||| 1) = (m * 2).natAbs + 1 := by
    rw [show (m * 2).natAbs = m.natAbs * 2 by omega]
    exact (Nat.or_comm _ _).trans ((Nat.mul_comm m.natAbs 2) ▸ (by
      have := Nat.two_pow_add_eq_or_of_lt (i := 1) (b := 1) (by decide) m.natAbs
      rw [Nat.pow_one] at this
      rw [Nat.or_comm, ← this]))
  refine K175g (rx := r5) (ry := r7) A7 B7 I7 (by omega) (by omega) hba (by decide) (by rw [hor]; omega) fun q8 h8 f8 d8 I8 => ⟨_, rfl, ?_⟩
  rw [hor] at I8
  have n8 : ∀ x, x ≠ r3 → x ≠ q4 → ¬ (x = r3 ∨ Rm r3 q4 x) := fun x a b c => by
    rcases c with c | c
    · exact a c
    · exact b c.1
  have s5 := f5.size
  have s7 := f7.size
  have s8 := f8.size
  have k1 : ∀ {x : Nat} {cs : Array Value}, Own h4 x cs → x < r3 → Own h8 x cs := fun o hx => ((o.ext f5).fr F67 (n6 _ (by have := o.lt; omega))).fr f8 (n8 _ (by omega) (by omega))
  have O1'' := k1 O1' (by omega)
  have O2'' := k1 O2' (by omega)
  have X8 : IntAt h8 r q m := (((X3.fr f4 (n4 _ (by omega)) (n4 _ (by have := hx.lq; omega))).ext f5).fr F67 (n6 _ (by omega)) (n6 _ (by have := hx.lq; omega))).fr f8 (n8 _ (by omega) (by omega)) (n8 _ (by have := hx.lq; omega) (by have := hx.lq; omega))
  refine ⟨r1, 0, rfl, r1, 0, rfl, _, O1''.cell _, K75 X8 ⟨_, rfl, ?_⟩⟩
  have hsg : decide (m.sign < 0) = false := by rw [Int.sign_eq_one_of_pos hm]; decide
  rw [hsg]
  refine ⟨fun e => (by cases e), fun _ => ⟨r1, 0, rfl, r1, 0 + 1, rfl, _, O1''.cell _, r1, 0, rfl, r1, 0 + 2, rfl, _, O1''.cell _, ?_⟩⟩
  rw [i64_in (x := e - 1) (by omega) (by omega)]
  refine ⟨r2, 0, rfl, O2''.stC (by simp) rfl fun oa fa => oa.stC (by simp) rfl fun ob fb => ob.stC (by simp) rfl fun oc fc => ⟨r2, 0, rfl, _, oc.cell _, _, oc.cell _, _, oc.cell _, ?_⟩⟩
  have fabc := Fr.trans (S := fun x => x = r2) (Fr.trans (S := fun x => x = r2) fa fb fun _ _ e => e) fc fun _ _ e => e
  have F8 : Ext h h8 := Fr.trans (Fr.trans (Ext.trans F4 f5) F67 fun x hx e => n6 x (by omega) e) f8 fun x hx e => n8 x (by omega) (by omega) e
  refine H r3 q8 _ (Fr.trans F8 fabc fun x hx e => by omega) (by omega) (IntAt.fr (by rw [hpos]; exact I8) fabc (by omega) ?_)
  rcases d8 with e | e | e
  · omega
  · rw [e.1]; omega
  · omega
/-- number.to, of what has a little more. -/
theorem K1057m {r q w : Nat} {m e : Int} {wv : Value} (hw : WayV h w wv) (hone : oneCell wv = true) (hx : IntAt h r q m) (h0 : 0 < m) (hb : bl m.natAbs ≤ 900000) (hba : bl (m * 2 + 1).natAbs ≤ 900001) (he : -4000000 ≤ e) (he2 : e ≤ 4000000)
    (H : ∀ h', Ext h h' → R (.returned (.tuple #[.int .i64 (dirV w (m * 2 + 1) (e - 1)), .bool true])) h') :
    Ent Tryz.prog B 24 #[.agg #[.pointer (some ⟨r, 0, none⟩), .int .i64 e, .bool true], .agg #[wv]] R h := by
  refine F1057_ok _ _ _ _ (alK fun r1 h1 e1 f1 o1 z1 => alK fun r2 h2 e2 f2 o2 z2 => ?_)
  have X2 := (hx.ext f1).ext f2
  have O1 := o1.ext f2
  refine ⟨r1, 0, rfl, _, O1.cell _, _, O1.cell _, _, O1.cell _, K1078m X2 h0 (by omega) (by omega) (by omega) fun r3 q3 h3 f3 l3 X3 => ⟨_, _, _, rfl, ?_⟩⟩
  refine alK fun r4 h4 e4 f4 o4 z4 => ⟨r4, 0, rfl, o4.stC (by simp) rfl fun oa fa => oa.stC (by simp) rfl fun ob fb => ob.stC (by simp) rfl fun O4 fc => ?_⟩
  have fabc := Fr.trans (S := fun x => x = r4) (Fr.trans (S := fun x => x = r4) fa fb fun _ _ e => e) fc fun _ _ e => e
  generalize setCell (setCell (setCell h4 _ _) _ _) _ _ = h5 at *
  have O4 : Own h5 r4 #[.pointer (some ⟨r3, 0, none⟩), .int .i64 (e - 1), .bool true] := O4
  have F5 : Ext h h5 := Fr.trans (Ext.trans (Ext.trans (Ext.trans f1 f2) f3) f4) fabc fun x hx e => by have := f3.size; omega
  have G5 : Ext h2 h5 := Fr.trans (Ext.trans f3 f4) fabc fun x hx e => by have := f3.size; omega
  have G35 : Ext h3 h5 := Fr.trans f4 fabc fun x hx e => by omega
  have X5 := X3.ext G35
  refine alK fun r6 h6 e6 f6 o6 z6 => ⟨r4, 0, rfl, r4, 0, rfl, _, (O4.ext f6).cell _, ?_⟩
  have Z6 : Flt h6 r6 0 0 0 false none 0 0 0 := o6
  have X6 := X5.ext f6
  have lx := X5.lt
  have lq := X5.lq
  have lo4 := O4.lt
  have F6 := Ext.trans F5 f6
  have hna : m * 2 + 1 ≠ 0 := by omega
  clear hx hb X2 X3
  generalize m * 2 + 1 = a at *
  have hclamp : (if (4194304 : Int) < (if (-4194304 : Int) > e - 1 then (-4194304 : Int) else e - 1) then (4194304 : Int) else (if (-4194304 : Int) > e - 1 then (-4194304 : Int) else e - 1)) = e - 1 := clamp_in (by omega) (by omega)
  have he1 : -4000001 ≤ e - 1 := by omega
  have he3 : e - 1 ≤ 4000000 := by omega
  clear he he2
  generalize e - 1 = e' at *
  have ha : a ≠ 0 := hna
  · refine K1079 Z6 X6 (by omega) (by omega) ha (by omega) fun q n h7 f7 l7 hn1 hn2 hn3 V7 => ⟨_, rfl, r4, 0, rfl, r4, 0 + 1, rfl, _, ((O4.ext f6).fr f7 (by omega)).cell _, ?_⟩
    rw [hclamp]
    have hp := bl_pos (v := a.natAbs) (by omega)
    refine K1080 V7 (by omega) (by omega) (by omega) (n_mod _ _ _) (by omega) (by omega) (by omega) (by omega) (by omega) (by omega) fun h8 V8 f8 => ⟨_, rfl, ?_⟩
    refine K1081 V8 (by omega) (by omega) (by omega) (by omega) fun h9 f9 => ⟨_, _, rfl, ?_⟩
    obtain ⟨t1, t2⟩ := told_scale (e := e') ha hn1 (decide (a < 0))
    rw [t1, t2]
    clear V7 V8 t1 t2
    have n7 : ∀ x, x < h6.size → x ≠ r6 → ¬ (x = r6 ∨ x = q) := fun x a b c => by omega
    have s7 := f7.size
    have kp : ∀ {x : Nat} {cs : Array Value}, Own h6 x cs → x ≠ r6 → Own h9 x cs := fun o hx => ((o.fr f7 hx).fr f8 (n7 _ o.lt hx)).ext f9
    have E9 : Ext h h9 := Fr.trans (Fr.trans (Fr.trans F6 f7 fun x hx e => by have := F5.size; omega) f8 fun x hx e => by have := F5.size; omega) f9 fun x hx e => e
    have HH := H _ E9
    unfold dirV at HH
    rw [if_neg ha] at HH
    have O2' : Own h9 r2 #[wv] := kp ((o2.ext G5).ext f6) (by have := f3.size; omega)
    have O4' := kp (O4.ext f6) (by omega)
    have O1' := kp ((O1.ext G5).ext f6) (by have := f3.size; omega)
    have X9 : IntAt h9 r3 q3 a := ((X6.fr f7 (by omega) (by omega)).fr f8 (n7 _ (by omega) (by omega)) (n7 _ (by omega) (by omega))).ext f9
    have W9 := hw.ext E9
    have hsg : decide (a.sign < 0) = decide (a < 0) := by rw [decide_eq_decide]; exact Int.sign_neg_iff
    clear kp n7 f7 f8 f9 f6 f1 f2 f3 f4 fa fb fc fabc H hclamp G5 G35 F5 F6
    generalize hng : decide (a < 0) = ng at *
    have hup := @up_pos a.natAbs e'
    have hdn := @down_lt a.natAbs e'
    refine K56 (pat_wi ng (rung_le _ _)) ⟨_, rfl, fun e => ?_, fun e => ?_⟩
    · rw [accN_ne] at e
      refine ⟨r2, 0, rfl, r2, 0, rfl, _, O2'.cell _, r4, 0, rfl, r4, 0, rfl, _, O4'.cell _, K75 X9 ⟨_, rfl, same1 (S := fun _ => False) O2' Fr.rfl' id, ?_⟩⟩
      rw [hsg, accN_one e]
      refine kturn W9 (rung_le _ _) (fun e1 e2 => ?_) (fun e1 e2 => ?_) ⟨_, rfl, r4, 0, rfl, r4, 0, rfl, _, O4'.cell _, K75 X9 ⟨_, rfl, ?_⟩⟩
      · rw [e2.1] at e1
        have : upN a.natAbs e' = false := by cases h : upN a.natAbs e' <;> rw [h] at e1 <;> simp at e1 ⊢
        have := hdn this
        exact absurd e2.2 (Nat.ne_of_lt this)
      · rw [e2.1] at e1
        have : upN a.natAbs e' = false := by cases h : upN a.natAbs e' <;> rw [h] at e1 <;> simp at e1 ⊢
        have := hdn this
        exact absurd e2.2 (Nat.ne_of_lt this)
      · rw [hsg, turn_dir w ng a.natAbs e' e]
        refine K1082 (dirP_le _ _ _ _) ⟨_, rfl, fun e1 => ?_, fun e1 => ?_⟩
        · exact HH
        · rw [accN_ne, e] at e1; cases e1
    · rw [accN_ne] at e
      refine ⟨fun e1 => (by rw [accN_ne, e] at e1; cases e1), fun e1 => ⟨r1, 0, rfl, r1, 0 + 2, rfl, _, O1'.cell _, ?_⟩⟩
      have hd := dir_near w ng a.natAbs e'
      rw [if_pos e] at hd
      rw [hd] at HH
      exact HH
end Go.Proofs
set_option linter.unusedVariables false
/-! A third: the quotient of 2^65 and 3. -/
namespace Go.Proofs
open Go Go.Eng
variable {B : World} {R : Ending → Heap → Prop} {h : Heap}
theorem K1272 {x : Nat} (hx : x < B64) (H : R (.returned (.int .i64 ((64 - bl x : Nat) : Int))) h) : Ent Tryz.prog B 212 #[.int .u64 (x : Int)] R h := by
  have hb : bl x ≤ 64 := bl_le_iff.2 hx
  refine F1272_ok _ (K221 hx ⟨_, rfl, ?_⟩)
  rw [bitLen_bl x hx, i64_in (by omega) (by omega), show (64 : Int) - (bl x : Int) = ((64 - bl x : Nat) : Int) by omega]
  exact H
def D1 (h : Heap) (n : Nat) (vs : List Value) (h' : Heap) : Prop := match vs with
  | [.int _ a, .int _ b, .int _ c, .int _ d, .int _ e, .int _ f, .int _ g, .int _ i, .int _ j] => n = 0 ∧ h' = h ∧ a = 13835058055282163712 ∧ b = 0 ∧ c = 3221225472 ∧ d = 0 ∧ e = 4611686018427387903 ∧ f = 4294967295 ∧ g = 4294967295 ∧ i = 1431655765 ∧ j = 1073741823
  | _ => False
def D2 (h : Heap) (n : Nat) (vs : List Value) (h' : Heap) : Prop := match vs with
  | [.int _ a, .int _ b, .int _ c, .int _ d, .int _ e, .int _ f, .int _ g, .int _ i, .int _ j] => n = 0 ∧ h' = h ∧ a = 13835058055282163712 ∧ b = 0 ∧ c = 3221225472 ∧ d = 0 ∧ e = 4294967295 ∧ f = 1431655765 ∧ g = 1073741823 ∧ i = 4611686018427387903 ∧ j = 1431655765
  | _ => False
/-- bits.Div64 of the greatest and 3 times 2^62. -/
theorem K1270c (H : ∀ y, R (.returned (.tuple #[.int .u64 (6148914691236517205 : Int), .int .u64 y])) h) : Ent Tryz.prog B 183 #[.int .u64 (4611686018427387903 : Int), .int .u64 (18446744073709551615 : Int), .int .u64 (13835058055282163712 : Int)] R h := by
  refine F1270_ok _ _ _ ⟨fun e => absurd e (by decide), fun _ => ⟨fun e => absurd e (by decide), fun _ => ⟨fun e => absurd e (by decide), fun _ => ?_⟩⟩⟩
  have hb : ((64 - bl 13835058055282163712 : Nat) : Int) = 0 := by decide +kernel
  refine K1272 (x := 13835058055282163712) (by decide) ⟨_, rfl, ?_⟩
  rw [hb]
  refine ⟨by decide, by decide, by decide, by decide, by decide, by decide, by decide +kernel, D1 h, 0, ⟨rfl, rfl, by decide +kernel, by decide +kernel, by decide +kernel, by decide +kernel, by decide +kernel, by decide +kernel, by decide +kernel, by decide +kernel, by decide +kernel⟩, ?_⟩
  rintro n h' _ _ _ _ _ _ _ _ _ ⟨rfl, rfl, rfl, rfl, rfl, rfl, rfl, rfl, rfl, rfl, rfl⟩ _
  refine ⟨fun e => absurd e (by decide), fun _ => ⟨fun e => absurd e (by decide +kernel), fun _ => ?_⟩⟩
  refine ⟨by decide, D2 h', 0, ⟨rfl, rfl, by decide +kernel, by decide +kernel, by decide +kernel, by decide +kernel, by decide +kernel, by decide +kernel, by decide +kernel, by decide +kernel, by decide +kernel⟩, ?_⟩
  rintro n h2 _ _ _ _ _ _ _ _ _ ⟨rfl, rfl, rfl, rfl, rfl, rfl, rfl, rfl, rfl, rfl, rfl⟩ _
  refine ⟨fun e => absurd e (by decide), fun _ => ⟨fun e => absurd e (by decide +kernel), fun _ => ⟨by decide, ?_⟩⟩⟩
  have hq : IntKind.u64.wrap ((IntKind.u64.wrap ((1431655765 : Int) * (4294967296 : Int))) + (1431655765 : Int)) = 6148914691236517205 := by decide +kernel
  rw [hq]
  exact H _
theorem K1261c (H : R (.returned (.int .u64 (6148914691236517205 : Int))) h) : Ent Tryz.prog B 158 #[.int .u64 (3 : Int)] R h := by
  have hb : ((64 - bl 3 : Nat) : Int) = 62 := by decide +kernel
  refine F1261_ok _ (K1108 (x := 3) (by decide) ⟨_, rfl, ?_⟩)
  rw [hb]
  refine ⟨by decide, ?_⟩
  have e1 : IntKind.u64.wrap ((3 : Int) * 2 ^ min (Int.toNat (62 : Int)) IntKind.u64.bits) = 13835058055282163712 := by decide +kernel
  rw [e1]
  have e2 : bitsI .xor .u64 IntKind.u64.max (13835058055282163712 : Int) = 4611686018427387903 := by decide +kernel
  rw [e2]
  exact F1260_ok _ _ _ ⟨fun e => (by cases e), fun _ => K1270c fun y => ⟨_, _, rfl, _, _, rfl, H⟩⟩
/-- divWW of 2 and of 2 times 2^64, by 3. -/
theorem K1262a (H : R (.returned (.tuple #[.int .u64 (0 : Int), .int .u64 (2 : Int)])) h) : Ent Tryz.prog B 159 #[.int .u64 (0 : Int), .int .u64 (2 : Int), .int .u64 (3 : Int), .int .u64 (6148914691236517205 : Int)] R h := by
  have hb : ((64 - bl 3 : Nat) : Int) = 62 := by decide +kernel
  refine F1262_ok _ _ _ _ (K1108 (x := 3) (by decide) ⟨_, rfl, ?_⟩)
  rw [hb]
  refine ⟨fun _ => ⟨by decide, by decide +kernel, by decide, by decide, ?_⟩, fun e => absurd e (by decide)⟩
  have e1 : bitsI .or .u64 (IntKind.u64.wrap ((0 : Int) * 2 ^ min (Int.toNat (62 : Int)) IntKind.u64.bits)) (Int.fdiv (2 : Int) (2 ^ min (Int.toNat (IntKind.u64.wrap ((64 : Int) - (62 : Int)))) IntKind.u64.bits)) = ((0 : Nat) : Int) := by decide +kernel
  have e2 : IntKind.u64.wrap ((2 : Int) * 2 ^ min (Int.toNat (62 : Int)) IntKind.u64.bits) = ((9223372036854775808 : Nat) : Int) := by decide +kernel
  have e3 : IntKind.u64.wrap ((3 : Int) * 2 ^ min (Int.toNat (62 : Int)) IntKind.u64.bits) = ((13835058055282163712 : Nat) : Int) := by decide +kernel
  rw [e1, e2, e3]
  refine K240 (x := 6148914691236517205) (y := 0) (by decide) (by decide) ⟨_, _, rfl, ?_⟩
  rw [show (6148914691236517205 * 0 / B64 : Nat) = 0 by decide +kernel, show (6148914691236517205 * 0 % B64 : Nat) = 0 by decide +kernel]
  refine K204 (x := 0) (y := 9223372036854775808) (c := 0) (by decide) ⟨_, _, rfl, ?_⟩
  rw [show ((0 + 9223372036854775808 + 0) / B64 : Nat) = 0 by decide +kernel]
  refine K204 (x := 0) (y := 0) (c := 0) (by decide) ⟨_, _, rfl, ?_⟩
  rw [show ((0 + 0 + 0) % B64 : Nat) = 0 by decide +kernel]
  refine K240 (x := 13835058055282163712) (y := 0) (by decide) (by decide) ⟨_, _, rfl, ?_⟩
  rw [show (13835058055282163712 * 0 / B64 : Nat) = 0 by decide +kernel, show (13835058055282163712 * 0 % B64 : Nat) = 0 by decide +kernel]
  refine K198 (x := 9223372036854775808) (y := 0) (c := 0) (by decide) ⟨_, _, rfl, ?_⟩
  rw [show ((9223372036854775808 + B64 - 0 - 0) % B64 : Nat) = 9223372036854775808 by decide +kernel, show (if (9223372036854775808 : Nat) < 0 + 0 then 1 else 0 : Nat) = 0 by decide +kernel]
  refine K198 (x := 0) (y := 0) (c := 0) (by decide) ⟨_, _, rfl, ?_⟩
  rw [show ((0 + B64 - 0 - 0) % B64 : Nat) = 0 by decide +kernel]
  refine ⟨fun e => absurd e (by decide), fun _ => ⟨fun e => absurd e (by decide), fun _ => ⟨by decide, ?_⟩⟩⟩
  have e4 : Int.fdiv ((9223372036854775808 : Nat) : Int) (2 ^ min (Int.toNat (62 : Int)) IntKind.u64.bits) = 2 := by decide +kernel
  rw [e4]
  exact H
theorem K1262b (H : R (.returned (.tuple #[.int .u64 (12297829382473034410 : Int), .int .u64 (2 : Int)])) h) : Ent Tryz.prog B 159 #[.int .u64 (2 : Int), .int .u64 (0 : Int), .int .u64 (3 : Int), .int .u64 (6148914691236517205 : Int)] R h := by
  have hb : ((64 - bl 3 : Nat) : Int) = 62 := by decide +kernel
  refine F1262_ok _ _ _ _ (K1108 (x := 3) (by decide) ⟨_, rfl, ?_⟩)
  rw [hb]
  refine ⟨fun _ => ⟨by decide, by decide +kernel, by decide, by decide, ?_⟩, fun e => absurd e (by decide)⟩
  have e1 : bitsI .or .u64 (IntKind.u64.wrap ((2 : Int) * 2 ^ min (Int.toNat (62 : Int)) IntKind.u64.bits)) (Int.fdiv (0 : Int) (2 ^ min (Int.toNat (IntKind.u64.wrap ((64 : Int) - (62 : Int)))) IntKind.u64.bits)) = ((9223372036854775808 : Nat) : Int) := by decide +kernel
  have e2 : IntKind.u64.wrap ((0 : Int) * 2 ^ min (Int.toNat (62 : Int)) IntKind.u64.bits) = ((0 : Nat) : Int) := by decide +kernel
  have e3 : IntKind.u64.wrap ((3 : Int) * 2 ^ min (Int.toNat (62 : Int)) IntKind.u64.bits) = ((13835058055282163712 : Nat) : Int) := by decide +kernel
  rw [e1, e2, e3]
  refine K240 (x := 6148914691236517205) (y := 9223372036854775808) (by decide) (by decide) ⟨_, _, rfl, ?_⟩
  rw [show (6148914691236517205 * 9223372036854775808 / B64 : Nat) = 3074457345618258602 by decide +kernel, show (6148914691236517205 * 9223372036854775808 % B64 : Nat) = 9223372036854775808 by decide +kernel]
  refine K204 (x := 9223372036854775808) (y := 0) (c := 0) (by decide) ⟨_, _, rfl, ?_⟩
  rw [show ((9223372036854775808 + 0 + 0) / B64 : Nat) = 0 by decide +kernel]
  refine K204 (x := 3074457345618258602) (y := 9223372036854775808) (c := 0) (by decide) ⟨_, _, rfl, ?_⟩
  rw [show ((3074457345618258602 + 9223372036854775808 + 0) % B64 : Nat) = 12297829382473034410 by decide +kernel]
  refine K240 (x := 13835058055282163712) (y := 12297829382473034410) (by decide) (by decide) ⟨_, _, rfl, ?_⟩
  rw [show (13835058055282163712 * 12297829382473034410 / B64 : Nat) = 9223372036854775807 by decide +kernel, show (13835058055282163712 * 12297829382473034410 % B64 : Nat) = 9223372036854775808 by decide +kernel]
  refine K198 (x := 0) (y := 9223372036854775808) (c := 0) (by decide) ⟨_, _, rfl, ?_⟩
  rw [show ((0 + B64 - 9223372036854775808 - 0) % B64 : Nat) = 9223372036854775808 by decide +kernel, show (if (0 : Nat) < 9223372036854775808 + 0 then 1 else 0 : Nat) = 1 by decide +kernel]
  refine K198 (x := 9223372036854775808) (y := 9223372036854775807) (c := 1) (by decide) ⟨_, _, rfl, ?_⟩
  rw [show ((9223372036854775808 + B64 - 9223372036854775807 - 1) % B64 : Nat) = 0 by decide +kernel]
  refine ⟨fun e => absurd e (by decide), fun _ => ⟨fun e => absurd e (by decide), fun _ => ⟨by decide, ?_⟩⟩⟩
  have e4 : Int.fdiv ((9223372036854775808 : Nat) : Int) (2 ^ min (Int.toNat (62 : Int)) IntKind.u64.bits) = 2 := by decide +kernel
  rw [e4]
  exact H
theorem words65 {ws : List Nat} (D : Dig B64 ws) (T : Trim ws) (hv : val B64 ws = 36893488147419103232) : ws = [0, 2] :=
  val_inj' D (fun v hv => by rcases List.mem_cons.1 hv with e | e; (rw [e]; decide); (rw [List.mem_singleton.1 e]; decide)) T (by simp [Trim]) (hv.trans (by decide +kernel)) (by decide)
theorem words3 {ws : List Nat} (D : Dig B64 ws) (T : Trim ws) (hv : val B64 ws = 3) : ws = [3] :=
  val_inj' D (fun v hv => by rw [List.mem_singleton.1 hv]; decide) T (by simp [Trim]) (hv.trans (by decide +kernel)) (by decide)
/-- divWVW of 2^65 and 3. -/
theorem K1237c {b o c : Nat} {px : Option Addr} {xc : Nat} {cs : Array Value} (O : Own h b cs) (hl : o + c ≤ cs.size) (hc : 2 ≤ c) (hx : Sl .u64 h px [0, 2]) (hne : ∀ b' o', px = some (⟨b', o', none⟩ : Addr) → b' ≠ b)
    (H : ∀ h', Wrote .u64 h h' b o [12297829382473034410, 0] → R (.returned (.int .u64 (2 : Int))) h') :
    Ent Tryz.prog B 141 #[.slice (some ⟨b, o, none⟩) 2 c, .int .u64 (0 : Int), .slice px 2 xc, .int .u64 (3 : Int)] R h := by
  refine F1237_ok _ _ _ _ _ _ _ _ ⟨fun e => absurd e (by decide), fun _ => K1261c ⟨_, rfl, fun n vs h' => match vs with
    | [.slice p1 n1 c1, .slice p2 n2 c2, .int _ y, .int _ r, .int _ rec', .int _ i] => p1 = some (⟨b, o, none⟩ : Addr) ∧ n1 = 2 ∧ c = c1 ∧ px = p2 ∧ n2 = 2 ∧ xc = c2 ∧ y = 3 ∧ rec' = 6148914691236517205 ∧
      ((i = 1 ∧ r = 0 ∧ n = 2 ∧ h' = h) ∨ (i = 0 ∧ r = 2 ∧ n = 1 ∧ Wrote .u64 h h' b (o + 1) [0]) ∨ (i = -1 ∧ r = 2 ∧ n = 0 ∧ Wrote .u64 h h' b o [12297829382473034410, 0]))
    | _ => False, 2, ⟨rfl, rfl, rfl, rfl, rfl, rfl, rfl, rfl, .inl ⟨by decide, rfl, rfl, rfl⟩⟩, ?_⟩⟩
  rintro n h' _ _ _ _ _ _ _ _ _ _ ⟨rfl, rfl, rfl, rfl, rfl, rfl, rfl, rfl, hc'⟩ _
  rcases hc' with ⟨rfl, rfl, rfl, rfl⟩ | ⟨rfl, rfl, rfl, W⟩ | ⟨rfl, rfl, rfl, W⟩
  · refine ⟨fun _ => hx.get 1 rfl (by decide) (by decide) ?_, fun e => absurd e (by decide)⟩
    refine K1262a ⟨_, _, rfl, Wrote.putd (j := 1) (Wrote.nil O) O 0 rfl rfl (by decide) (by omega) fun W => ⟨1, by omega, rfl, rfl, rfl, rfl, rfl, rfl, rfl, rfl, .inr (.inl ⟨by decide, rfl, rfl, W⟩)⟩⟩
  · have hx' : Sl .u64 h' px [0, 2] := hx.fr W.fr fun b' o' e _ hb => hne b' o' e hb
    refine ⟨fun _ => hx'.get 0 rfl (by decide) (by decide) ?_, fun e => absurd e (by decide)⟩
    refine K1262b ⟨_, _, rfl, Wrote.putd (j := 0) W O 12297829382473034410 rfl rfl (by decide) (by omega) fun W => ⟨0, by omega, rfl, rfl, rfl, rfl, rfl, rfl, rfl, rfl, .inr (.inr ⟨by decide, rfl, rfl, W⟩)⟩⟩
  · exact ⟨fun e => absurd e (by decide), fun _ => H _ W⟩
/-- nat.divW of 2^65 and 3. -/
theorem K1222c {px : Option Addr} {n xc : Nat} (hx : NatI h px n 36893488147419103232) (hb : ∀ b' o', px = some (⟨b', o', none⟩ : Addr) → b' < h.size)
    (H : ∀ q m c' h', Ext h h' → m ≤ c' → NatI h' q m 12297829382473034410 → Dst h' q c' (fun b => h.size ≤ b) → R (.returned (.tuple #[.slice q m c', .int .u64 (2 : Int)])) h') :
    Ent Tryz.prog B 117 #[.slice none 0 0, .slice px n xc, .int .u64 (3 : Int)] R h := by
  obtain ⟨ws, w1, w2, w3, w4, w5⟩ := hx.ex
  have hw := words65 w3 w4 w5
  subst hw
  have hn : n = 2 := w2.symm
  subst hn
  refine F1222_ok _ _ _ _ _ _ _ ⟨fun e => absurd e (by decide), fun _ => ⟨fun e => absurd e (by decide), fun _ => ⟨fun e => absurd e (by decide), fun _ => ?_⟩⟩⟩
  refine K194' (n := 2) (S := fun _ => False) Dst.none rfl (by decide) (by decide) fun b o c cs h1 fE hO hl hc hlim hb' => ⟨_, _, _, rfl, ?_⟩
  have hbs : b = h.size := by
    rcases hb' with e | e
    · exact e.2.elim
    · exact e
  refine K1237c hO hl hc (w1.ext fE) (fun b' o' e => by have := hb b' o' e; omega) fun h2 W => ⟨_, rfl, ?_⟩
  refine K197 pt_some W.sl rfl hc (by decide) fun k hk t e => ⟨_, _, _, rfl, ?_⟩
  obtain ⟨cs', y1, y2, _, _⟩ := W.own hO
  have D : Dig B64 [12297829382473034410, 0] := fun v hv => by rcases List.mem_cons.1 hv with e | e; (rw [e]; decide); (rw [List.mem_singleton.1 e]; decide)
  refine H _ _ _ _ (Fr.trans fE W.fr fun x hx e => by omega) (by omega) ⟨pt_some, by omega, _, W.sl.take k, by rw [List.length_take]; exact Nat.min_eq_left hk, D.take k, t, e.trans (by decide +kernel)⟩ ⟨pt_some, hlim, .inr ⟨b, o, cs', rfl, y1, by omega, by omega⟩⟩
theorem K246c (H : ∀ q c' h', Ext h h' → 1 ≤ c' → NatI h' q 1 2 → Dst h' q c' (fun b => h.size ≤ b) → R (.returned (.slice q 1 c')) h') : Ent Tryz.prog B 118 #[.slice none 0 0, .int .u64 (2 : Int)] R h := by
  refine F246_ok _ _ _ _ ⟨fun e => absurd e (by decide), fun _ => ?_⟩
  refine K194' (n := 1) (S := fun _ => False) Dst.none rfl (by decide) (by decide) fun b o c cs h1 fE hO hl hc hlim hb' => ⟨_, _, _, rfl, ?_⟩
  have hbs : b = h.size := by
    rcases hb' with e | e
    · exact e.2.elim
    · exact e
  refine (Wrote.nil hO).put hO 2 rfl rfl (by decide) (by omega) fun W => ?_
  obtain ⟨cs', y1, y2, _, _⟩ := W.own hO
  exact H _ _ _ (Fr.trans fE W.fr fun x hx e => by omega) hc ⟨pt_some, by decide, [2], W.sl, rfl, fun v hv => by rw [List.mem_singleton.1 hv]; decide, by simp [Trim], by decide +kernel⟩ ⟨pt_some, hlim, .inr ⟨b, o, cs', rfl, y1, by omega, by omega⟩⟩
/-- nat.div of 2^65 and 3. -/
theorem K1221c {px py : Option Addr} {n xc m yc : Nat} (hx : NatI h px n 36893488147419103232) (hy : NatI h py m 3) (hb : ∀ b' o', px = some (⟨b', o', none⟩ : Addr) → b' < h.size)
    (H : ∀ q k c q2 k2 c2 h', Ext h h' → k ≤ c → NatI h' q k 12297829382473034410 → Dst h' q c (fun b => h.size ≤ b) → k2 ≤ c2 → NatI h' q2 k2 2 → Dst h' q2 c2 (fun b => h.size ≤ b) → (∀ b o b2 o2, q = some (⟨b, o, none⟩ : Addr) → q2 = some (⟨b2, o2, none⟩ : Addr) → b ≠ b2) → R (.returned (.tuple #[.slice q k c, .slice q2 k2 c2])) h') :
    Ent Tryz.prog B 93 #[.slice none 0 0, .pointer none, .slice none 0 0, .slice px n xc, .slice py m yc] R h := by
  obtain ⟨ws, w1, w2, w3, w4, w5⟩ := hy.ex
  have hw := words3 w3 w4 w5
  subst hw
  have hm : m = 1 := w2.symm
  subst hm
  refine F1221_ok _ _ _ _ _ _ _ _ _ _ _ _ _ ⟨fun e => absurd e (by decide), fun _ => ⟨fun _ => w1.get 0 rfl (by decide) (by decide) ?_, fun e => absurd e (by decide)⟩⟩
  refine K1222c hx hb fun q k c h1 f1 hk N1 D1 => ⟨_, _, _, _, rfl, K246c fun q2 c2 h2 f2 hc2 N2 D2 => ⟨_, _, _, rfl, ?_⟩⟩
  have z1 := f1.size
  refine H _ _ _ _ _ _ _ (Ext.trans f1 f2) hk (N1.ext f2) (D1.keep f2 fun _ _ e => e) hc2 N2 ⟨D2.pt, D2.lim, D2.room.mono fun b hb => Nat.le_trans z1 hb⟩ fun b o b2 o2 e1 e2 => ?_
  have lb : b < h1.size := by
    have hz := N1.zero
    rcases D1.room with r | ⟨b', o', cs, r1, r2, r3, r4⟩
    · omega
    · rw [r1] at e1; cases e1; exact r2.lt
  rcases D2.room with r | ⟨b', o', cs, r1, r2, r3, r4⟩
  · omega
  · rw [r1] at e2; cases e2; omega
theorem int_of {h : Heap} {r k c : Nat} {q : Option Addr} {v h0 : Nat} (O : Own h r #[.bool false, .slice q k c]) (N : NatI h q k v) (hk : k ≤ c) (D : Dst h q c (fun b => h0 ≤ b)) (hv : 0 < v) (hr : r < h0) : ∃ qq, h0 ≤ qq ∧ IntAt h r qq (v : Int) ∧ ∃ o, q = some (⟨qq, o, none⟩ : Addr) := by
  have hz := N.zero
  rcases D.room with e | ⟨b, o, cs, r1, r2, r3, r4⟩
  · omega
  · refine ⟨b, r4, ⟨r2.lt, q, k, c, ?_, by rw [Int.natAbs_natCast]; exact N, hk, D.pt, D.lim, .inr ⟨b, o, cs, r1, r2, r3, rfl, by omega⟩⟩, o, r1⟩
    rw [← dec_nat v]; exact O
/-- QuoRem of 2^65 and 3. -/
theorem K1276c {rz rr rx qx ry qy : Nat} (hz : ZeroAt h rz) (hr : ZeroAt h rr) (hx : IntAt h rx qx 36893488147419103232) (hy : IntAt h ry qy 3) (n1 : rz ≠ rr) (n2 : rx ≠ rz) (n3 : rx ≠ rr) (n4 : ry ≠ rz) (n5 : ry ≠ rr)
    (H : ∀ qz qr h', Fr (fun b => b = rz ∨ b = rr) h h' → h.size ≤ qz → h.size ≤ qr → IntAt h' rz qz 12297829382473034410 → IntAt h' rr qr 2 → R (.returned (.tuple #[.pointer (some ⟨rz, 0, none⟩), .pointer (some ⟨rr, 0, none⟩)])) h') :
    Ent Tryz.prog B 65 #[.pointer (some ⟨rz, 0, none⟩), .pointer (some ⟨rx, 0, none⟩), .pointer (some ⟨ry, 0, none⟩), .pointer (some ⟨rr, 0, none⟩)] R h := by
  obtain ⟨px, nx, xc, x1, x2, x3, x4⟩ := hx.ex
  obtain ⟨py, ny, yc, y1, y2, y3, y4⟩ := hy.ex
  have x2 : NatI h px nx 36893488147419103232 := x2
  have y2 : NatI h py ny 3 := y2
  have x1 : Own h rx #[.bool false, .slice px nx xc] := x1
  have y1 : Own h ry #[.bool false, .slice py ny yc] := y1
  have lz := hz.lt
  have lr := hr.lt
  have hxb : ∀ b' o', px = some (⟨b', o', none⟩ : Addr) → b' < h.size := fun b' o' e => by
    have hz := x2.zero
    rcases x4.room with e0 | ⟨b, o, cs, r1, r2, r3, r4⟩
    · omega
    · rw [r1] at e; cases e; exact r2.lt
  refine F1276_ok _ _ _ _ (ldS hz (ldS hr (ldS x1 (ldS y1 (K1221c x2 y2 hxb fun q k c q2 k2 c2 h1 f1 hk N1 D1 hk2 N2 D2 hne => ⟨_, _, _, _, _, _, rfl, ?_⟩)))))
  have k0 : k ≠ 0 := by have := N1.zero; omega
  have k20 : k2 ≠ 0 := by have := N2.zero; omega
  refine stS (hz.ext f1) fun h2 oz2 f2 => stS ((Own.ext hr f1).fr f2 (fun e => n1 e.symm)) fun h3 or3 f3 => ?_
  have oz3 := oz2.fr f3 n1
  have x3' := ((x1.ext f1).fr f2 n2).fr f3 n3
  have y3' := ((y1.ext f1).fr f2 n4).fr f3 n5
  refine ldS oz3 ⟨fun _ => ?_, fun e => absurd (of_decide_eq_false e) (by omega)⟩
  refine ldB x3' (ldB y3' (ldS or3 ⟨fun _ => ldB x3' ?_, fun e => absurd (of_decide_eq_false e) (by omega)⟩))
  refine stB oz3 fun h4 oz4 f4 => stB (or3.fr f4 (fun e => n1 e.symm)) fun h5 or5 f5 => ?_
  have oz5 := oz4.fr f5 n1
  have F15 : Fr (fun b => b = rz ∨ b = rr) h1 h5 := Fr.trans (Fr.trans (Fr.trans (S := fun b => b = rz ∨ b = rr) (f2.mono fun _ _ e => .inl e) f3 fun _ _ e => .inr e) f4 fun _ _ e => .inl e) f5 fun _ _ e => .inr e
  have hk5 : ∀ b, h.size ≤ b → ¬ (b = rz ∨ b = rr) := fun b hb e => by omega
  have N15 := N1.keep D1 hk F15 hk5
  have D15 := D1.keep F15 hk5
  have N25 := N2.keep D2 hk2 F15 hk5
  have D25 := D2.keep F15 hk5
  obtain ⟨qz, lqz, Iz, _⟩ := int_of oz5 N15 hk D15 (by decide) lz
  obtain ⟨qr, lqr, Ir, _⟩ := int_of or5 N25 hk2 D25 (by decide) lr
  exact H qz qr h5 (Fr.trans f1.to F15 fun _ _ e => e) lqz lqr Iz Ir
end Go.Proofs
set_option linter.unusedVariables false
/-! round.quotient of 1 and 3. -/
namespace Go.Proofs
open Go Go.Eng
variable {B : World} {R : Ending → Heap → Prop} {h : Heap}
/-- What stands at the quotient's start. -/
structure Cx (g : Heap) (o ra rb ma qa mb qb : Nat) : Prop where
  oo : Own g o #[.pointer none, .int .i64 0, .bool false]
  oa : Own g ra #[.pointer (some ⟨ma, 0, none⟩), .int .i64 0, .bool false]
  ob : Own g rb #[.pointer (some ⟨mb, 0, none⟩), .int .i64 0, .bool false]
  ia : IntAt g ma qa 1
  ib : IntAt g mb qb 3
  na : ra ≠ o
  nb : rb ≠ o
theorem no1 {a x : Nat} (h : a ≠ x) : ¬ (a = x ∨ False) := fun e => e.elim h id
abbrev V65 : Int := 36893488147419103232
abbrev QTH : Int := 12297829382473034410
section
variable {g : Heap} {o ra rb ma qa mb qb : Nat}
def Hd (R : Ending → Heap → Prop) (g : Heap) (o : Nat) : Prop := ∀ h' q qq, Fr (fun b => b = o) g h' → IntAt h' q qq QTH → R (.returned (.tuple #[.agg #[.pointer (some ⟨q, 0, none⟩), .int .i64 (-65 : Int), .bool true], .int .i64 (0 : Int)])) h'
theorem q205 (C : Cx g o ra rb ma qa mb qb) (H : Hd R g o) {h : Heap} {z x r qx : Nat} (E : Ext g h) (Zz : ZeroAt h z) (X : IntAt h x qx V65) (Zr : ZeroAt h r) (lz : g.size ≤ z) (lr : g.size ≤ r) (lx : g.size ≤ x) (d1 : z ≠ x) (d2 : z ≠ r) (d3 : x ≠ r) :
    F1324_o205 B R (some ⟨o, 0, none⟩) (some ⟨ra, 0, none⟩) (some ⟨rb, 0, none⟩) (65 : Int) (some ⟨z, 0, none⟩) (some ⟨x, 0, none⟩) (some ⟨mb, 0, none⟩) (some ⟨r, 0, none⟩) h := by
  have lo := C.oo.lt
  have la := C.oa.lt
  have lb := C.ob.lt
  have lm := C.ib.lt
  refine K1276c Zz Zr X (C.ib.ext E) d2 (fun e => d1 e.symm) d3 (by omega) (by omega) fun qz qr h1 f1 lqz lqr Iz Ir => ⟨_, _, rfl, ?_⟩
  have ng : ∀ x, x < g.size → ¬ (x = z ∨ x = r) := fun x a b => by omega
  have oa := (C.oa.ext E).fr f1 (ng _ la)
  have ob := (C.ob.ext E).fr f1 (ng _ lb)
  have oo := (C.oo.ext E).fr f1 (ng _ lo)
  refine ⟨ra, 0, rfl, ra, 0 + 1, rfl, _, oa.cell _, rb, 0, rfl, rb, 0 + 1, rfl, _, ob.cell _, K75 Ir ⟨_, rfl, ?_⟩⟩
  refine ⟨?_, ?_, o, 0, rfl, oo.stC (by simp) rfl fun o1 g1 => o1.stC (by simp) rfl fun o2 g2 => o2.stC (by simp) rfl fun o3 g3 => ⟨o, 0, rfl, _, o3.cell _, _, o3.cell _, _, o3.cell _, ?_⟩⟩
  · simp only [sameCells]
  · simp only [sameCells]
  · have f123 := Fr.trans (S := fun x => x = o) (Fr.trans (S := fun x => x = o) g1 g2 fun _ _ e => e) g3 fun _ _ e => e
    refine H _ z qz (Fr.trans (Fr.trans E.to f1 fun x hx e => (ng x hx e).elim) f123 fun _ _ e => e) (Iz.fr f123 (by omega) (by have := E.size; omega))
theorem q190 (C : Cx g o ra rb ma qa mb qb) (H : Hd R g o) {h : Heap} {z x qx : Nat} (E : Ext g h) (Zz : ZeroAt h z) (lz : g.size ≤ z) (X : IntAt h x qx V65) (lx : g.size ≤ x) (lqx : g.size ≤ qx) (dzx : z ≠ x) (dqz : qx ≠ z) :
    F1324_o190 B R (some ⟨o, 0, none⟩) (some ⟨ra, 0, none⟩) (some ⟨rb, 0, none⟩) (65 : Int) (some ⟨z, 0, none⟩) (some ⟨x, 0, none⟩) (some ⟨mb, 0, none⟩) rb 0 ra 0 h := by
  have lo := C.oo.lt
  have la := C.oa.lt
  have lb := C.ob.lt
  have lma := C.ia.lt
  have lqa := C.ia.lq
  have lmb := C.ib.lt
  have lqb := C.ib.lq
  have sE := E.size
  have hz := Zz.lt
  have hx := X.lt
  have hqx := X.lq
  refine alK fun r h1 e1 f1 o1 z1 => ⟨same1 (S := fun _ => False) (C.ob.ext E) f1 id, same1 (S := fun _ => False) (C.oa.ext E) f1 id, ?_⟩
  exact q205 C H (Ext.trans E f1) (Own.ext Zz f1) (IntAt.ext X f1) o1 (by omega) (by omega) (by omega) (by omega) (by omega) (by omega)
theorem q255 (C : Cx g o ra rb ma qa mb qb) (H : Hd R g o) {h : Heap} {z x r : Nat} (E : Ext g h) (Zz : ZeroAt h z) (lz : g.size ≤ z) (Zx : ZeroAt h x) (lx : g.size ≤ x) (Zr : ZeroAt h r) (lr : g.size ≤ r) (dzx : z ≠ x) (dzr : z ≠ r) (dxr : x ≠ r) :
    F1324_o255 B R (some ⟨o, 0, none⟩) (some ⟨ra, 0, none⟩) (some ⟨rb, 0, none⟩) (65 : Int) (some ⟨z, 0, none⟩) (some ⟨x, 0, none⟩) (some ⟨ma, 0, none⟩) (65 : Int) (some ⟨mb, 0, none⟩) (some ⟨r, 0, none⟩) rb 0 h := by
  have lo := C.oo.lt
  have la := C.oa.lt
  have lb := C.ob.lt
  have lma := C.ia.lt
  have lqa := C.ia.lq
  have lmb := C.ib.lt
  have lqb := C.ib.lq
  have sE := E.size
  have hz := Zz.lt
  have hx := Zx.lt
  have hr := Zr.lt
  refine K128f (s := 65) Zx (C.ia.ext E) (by omega) (by decide +kernel) (by decide) fun qx h1 f1 dq X1 => ⟨_, rfl, same1 (S := fun y => y = x ∨ False) (C.ob.ext E) f1 (no1 (by omega)), ?_⟩
  have hqx : qx = x ∨ h.size ≤ qx := by rcases dq with e | e | e; exact .inl e; exact e.elim; exact .inr e
  exact q205 C H (Fr.trans E f1 fun y hy e => no1 (by omega) e) (Own.fr Zz f1 (no1 (by omega))) X1 (Own.fr Zr f1 (no1 (by omega))) (by omega) (by omega) (by omega) (by omega) (by omega) (by omega)
theorem q170 (C : Cx g o ra rb ma qa mb qb) (H : Hd R g o) {h : Heap} {z x : Nat} (E : Ext g h) (Zz : ZeroAt h z) (lz : g.size ≤ z) (Zx : ZeroAt h x) (lx : g.size ≤ x) (dzx : z ≠ x) :
    F1324_o170 B R (some ⟨o, 0, none⟩) (some ⟨ra, 0, none⟩) (some ⟨rb, 0, none⟩) (65 : Int) (some ⟨z, 0, none⟩) (some ⟨x, 0, none⟩) (some ⟨ma, 0, none⟩) (65 : Int) (some ⟨mb, 0, none⟩) rb 0 ra 0 h := by
  have lo := C.oo.lt
  have la := C.oa.lt
  have lb := C.ob.lt
  have lma := C.ia.lt
  have lqa := C.ia.lq
  have lmb := C.ib.lt
  have lqb := C.ib.lq
  have sE := E.size
  have hz := Zz.lt
  have hx := Zx.lt
  refine ⟨?_, ?_⟩
  · refine K128f (s := 65) Zx (C.ia.ext E) (by omega) (by decide +kernel) (by decide) fun qx h1 f1 dq X1 => ⟨_, rfl, same1 (S := fun y => y = x ∨ False) (C.ob.ext E) f1 (no1 (by omega)), ?_⟩
    have hqx : qx = x ∨ h.size ≤ qx := by rcases dq with e | e | e; exact .inl e; exact e.elim; exact .inr e
    exact q190 C H (Fr.trans E f1 fun y hy e => no1 (by omega) e) (Own.fr Zz f1 (no1 (by omega))) (by omega) X1 (by omega) (by omega) (by omega) (by omega)
  · refine alK fun r h1 e1 f1 o1 z1 => ⟨same1 (S := fun _ => False) (C.ob.ext E) f1 id, same1 (S := fun _ => False) (C.oa.ext E) f1 id, ?_⟩
    exact q255 C H (Ext.trans E f1) (Own.ext Zz f1) (by omega) (Own.ext Zx f1) (by omega) o1 (by omega) (by omega) (by omega) (by omega)
theorem q276 (C : Cx g o ra rb ma qa mb qb) (H : Hd R g o) {h : Heap} {z r : Nat} (E : Ext g h) (Zz : ZeroAt h z) (lz : g.size ≤ z) (Zr : ZeroAt h r) (lr : g.size ≤ r) (dzr : z ≠ r) :
    F1324_o276 B R (some ⟨o, 0, none⟩) (some ⟨ra, 0, none⟩) (some ⟨rb, 0, none⟩) (65 : Int) (some ⟨z, 0, none⟩) (some ⟨ma, 0, none⟩) (65 : Int) (some ⟨mb, 0, none⟩) (some ⟨r, 0, none⟩) rb 0 ra 0 h := by
  have lo := C.oo.lt
  have la := C.oa.lt
  have lb := C.ob.lt
  have lma := C.ia.lt
  have lqa := C.ia.lq
  have lmb := C.ib.lt
  have lqb := C.ib.lq
  have sE := E.size
  have hz := Zz.lt
  have hr := Zr.lt
  refine alK fun x h1 e1 f1 o1 z1 => ⟨same1 (S := fun _ => False) (C.ob.ext E) f1 id, same1 (S := fun _ => False) (C.oa.ext E) f1 id, ?_⟩
  exact q255 C H (Ext.trans E f1) (Own.ext Zz f1) (by omega) o1 (by omega) (Own.ext Zr f1) (by omega) (by omega) (by omega) (by omega)
theorem q154 (C : Cx g o ra rb ma qa mb qb) (H : Hd R g o) {h : Heap} {z : Nat} (E : Ext g h) (Zz : ZeroAt h z) (lz : g.size ≤ z)  :
    F1324_o154 B R (some ⟨o, 0, none⟩) (some ⟨ra, 0, none⟩) (some ⟨rb, 0, none⟩) (65 : Int) (some ⟨z, 0, none⟩) (some ⟨ma, 0, none⟩) (65 : Int) (some ⟨mb, 0, none⟩) rb 0 ra 0 h := by
  have lo := C.oo.lt
  have la := C.oa.lt
  have lb := C.ob.lt
  have lma := C.ia.lt
  have lqa := C.ia.lq
  have lmb := C.ib.lt
  have lqb := C.ib.lq
  have sE := E.size
  have hz := Zz.lt
  refine ⟨?_, ?_⟩
  · refine alK fun x h1 e1 f1 o1 z1 => ⟨same1 (S := fun _ => False) (C.ob.ext E) f1 id, same1 (S := fun _ => False) (C.oa.ext E) f1 id, ?_⟩
    exact q170 C H (Ext.trans E f1) (Own.ext Zz f1) (by omega) o1 (by omega) (by omega)
  · refine alK fun r h1 e1 f1 o1 z1 => ⟨same1 (S := fun _ => False) (C.ob.ext E) f1 id, same1 (S := fun _ => False) (C.oa.ext E) f1 id, ?_⟩
    exact q276 C H (Ext.trans E f1) (Own.ext Zz f1) (by omega) o1 (by omega) (by omega)
theorem q332 (C : Cx g o ra rb ma qa mb qb) (H : Hd R g o) {h : Heap} {x qx r : Nat} (E : Ext g h) (X : IntAt h x qx V65) (lx : g.size ≤ x) (lqx : g.size ≤ qx) (Zr : ZeroAt h r) (lr : g.size ≤ r) (dxr : x ≠ r) (dqr : qx ≠ r) :
    F1324_o332 B R (some ⟨o, 0, none⟩) (some ⟨ra, 0, none⟩) (some ⟨rb, 0, none⟩) (65 : Int) (some ⟨x, 0, none⟩) (some ⟨mb, 0, none⟩) (some ⟨r, 0, none⟩) rb 0 ra 0 h := by
  have lo := C.oo.lt
  have la := C.oa.lt
  have lb := C.ob.lt
  have lma := C.ia.lt
  have lqa := C.ia.lq
  have lmb := C.ib.lt
  have lqb := C.ib.lq
  have sE := E.size
  have hx := X.lt
  have hqx := X.lq
  have hr := Zr.lt
  refine alK fun z h1 e1 f1 o1 z1 => ⟨same1 (S := fun _ => False) (C.ob.ext E) f1 id, same1 (S := fun _ => False) (C.oa.ext E) f1 id, ?_⟩
  exact q205 C H (Ext.trans E f1) o1 (IntAt.ext X f1) (Own.ext Zr f1) (by omega) (by omega) (by omega) (by omega) (by omega) (by omega)
theorem q316 (C : Cx g o ra rb ma qa mb qb) (H : Hd R g o) {h : Heap} {x qx : Nat} (E : Ext g h) (X : IntAt h x qx V65) (lx : g.size ≤ x) (lqx : g.size ≤ qx)  :
    F1324_o316 B R (some ⟨o, 0, none⟩) (some ⟨ra, 0, none⟩) (some ⟨rb, 0, none⟩) (65 : Int) (some ⟨x, 0, none⟩) (some ⟨mb, 0, none⟩) rb 0 ra 0 h := by
  have lo := C.oo.lt
  have la := C.oa.lt
  have lb := C.ob.lt
  have lma := C.ia.lt
  have lqa := C.ia.lq
  have lmb := C.ib.lt
  have lqb := C.ib.lq
  have sE := E.size
  have hx := X.lt
  have hqx := X.lq
  refine ⟨?_, ?_⟩
  · refine alK fun z h1 e1 f1 o1 z1 => ⟨same1 (S := fun _ => False) (C.ob.ext E) f1 id, same1 (S := fun _ => False) (C.oa.ext E) f1 id, ?_⟩
    exact q190 C H (Ext.trans E f1) o1 (by omega) (IntAt.ext X f1) (by omega) (by omega) (by omega) (by omega)
  · refine alK fun r h1 e1 f1 o1 z1 => ⟨same1 (S := fun _ => False) (C.ob.ext E) f1 id, same1 (S := fun _ => False) (C.oa.ext E) f1 id, ?_⟩
    exact q332 C H (Ext.trans E f1) (IntAt.ext X f1) (by omega) (by omega) o1 (by omega) (by omega) (by omega)
theorem q349 (C : Cx g o ra rb ma qa mb qb) (H : Hd R g o) {h : Heap} {x r : Nat} (E : Ext g h) (Zx : ZeroAt h x) (lx : g.size ≤ x) (Zr : ZeroAt h r) (lr : g.size ≤ r) (dxr : x ≠ r) :
    F1324_o349 B R (some ⟨o, 0, none⟩) (some ⟨ra, 0, none⟩) (some ⟨rb, 0, none⟩) (65 : Int) (some ⟨x, 0, none⟩) (some ⟨ma, 0, none⟩) (65 : Int) (some ⟨mb, 0, none⟩) (some ⟨r, 0, none⟩) rb 0 ra 0 h := by
  have lo := C.oo.lt
  have la := C.oa.lt
  have lb := C.ob.lt
  have lma := C.ia.lt
  have lqa := C.ia.lq
  have lmb := C.ib.lt
  have lqb := C.ib.lq
  have sE := E.size
  have hx := Zx.lt
  have hr := Zr.lt
  refine ⟨?_, ?_⟩
  · refine alK fun z h1 e1 f1 o1 z1 => ⟨same1 (S := fun _ => False) (C.ob.ext E) f1 id, same1 (S := fun _ => False) (C.oa.ext E) f1 id, ?_⟩
    exact q255 C H (Ext.trans E f1) o1 (by omega) (Own.ext Zx f1) (by omega) (Own.ext Zr f1) (by omega) (by omega) (by omega) (by omega)
  · refine K128f (s := 65) Zx (C.ia.ext E) (by omega) (by decide +kernel) (by decide) fun qx h1 f1 dq X1 => ⟨_, rfl, same1 (S := fun y => y = x ∨ False) (C.ob.ext E) f1 (no1 (by omega)), ?_⟩
    have hqx : qx = x ∨ h.size ≤ qx := by rcases dq with e | e | e; exact .inl e; exact e.elim; exact .inr e
    exact q332 C H (Fr.trans E f1 fun y hy e => no1 (by omega) e) X1 (by omega) (by omega) (Own.fr Zr f1 (no1 (by omega))) (by omega) (by omega) (by omega)
theorem q295 (C : Cx g o ra rb ma qa mb qb) (H : Hd R g o) {h : Heap} {x : Nat} (E : Ext g h) (Zx : ZeroAt h x) (lx : g.size ≤ x)  :
    F1324_o295 B R (some ⟨o, 0, none⟩) (some ⟨ra, 0, none⟩) (some ⟨rb, 0, none⟩) (65 : Int) (some ⟨x, 0, none⟩) (some ⟨ma, 0, none⟩) (65 : Int) (some ⟨mb, 0, none⟩) rb 0 ra 0 h := by
  have lo := C.oo.lt
  have la := C.oa.lt
  have lb := C.ob.lt
  have lma := C.ia.lt
  have lqa := C.ia.lq
  have lmb := C.ib.lt
  have lqb := C.ib.lq
  have sE := E.size
  have hx := Zx.lt
  refine ⟨?_, ?_, ?_⟩
  · refine alK fun z h1 e1 f1 o1 z1 => ⟨same1 (S := fun _ => False) (C.ob.ext E) f1 id, same1 (S := fun _ => False) (C.oa.ext E) f1 id, ?_⟩
    exact q170 C H (Ext.trans E f1) o1 (by omega) (Own.ext Zx f1) (by omega) (by omega)
  · refine K128f (s := 65) Zx (C.ia.ext E) (by omega) (by decide +kernel) (by decide) fun qx h1 f1 dq X1 => ⟨_, rfl, same1 (S := fun y => y = x ∨ False) (C.ob.ext E) f1 (no1 (by omega)), ?_⟩
    have hqx : qx = x ∨ h.size ≤ qx := by rcases dq with e | e | e; exact .inl e; exact e.elim; exact .inr e
    exact q316 C H (Fr.trans E f1 fun y hy e => no1 (by omega) e) X1 (by omega) (by omega)
  · refine alK fun r h1 e1 f1 o1 z1 => ⟨same1 (S := fun _ => False) (C.ob.ext E) f1 id, same1 (S := fun _ => False) (C.oa.ext E) f1 id, ?_⟩
    exact q349 C H (Ext.trans E f1) (Own.ext Zx f1) (by omega) o1 (by omega) (by omega)
theorem q373 (C : Cx g o ra rb ma qa mb qb) (H : Hd R g o) {h : Heap} {r : Nat} (E : Ext g h) (Zr : ZeroAt h r) (lr : g.size ≤ r)  :
    F1324_o373 B R (some ⟨o, 0, none⟩) (some ⟨ra, 0, none⟩) (some ⟨rb, 0, none⟩) (65 : Int) (some ⟨ma, 0, none⟩) (65 : Int) (some ⟨mb, 0, none⟩) (some ⟨r, 0, none⟩) rb 0 ra 0 h := by
  have lo := C.oo.lt
  have la := C.oa.lt
  have lb := C.ob.lt
  have lma := C.ia.lt
  have lqa := C.ia.lq
  have lmb := C.ib.lt
  have lqb := C.ib.lq
  have sE := E.size
  have hr := Zr.lt
  refine ⟨?_, ?_⟩
  · refine alK fun z h1 e1 f1 o1 z1 => ⟨same1 (S := fun _ => False) (C.ob.ext E) f1 id, same1 (S := fun _ => False) (C.oa.ext E) f1 id, ?_⟩
    exact q276 C H (Ext.trans E f1) o1 (by omega) (Own.ext Zr f1) (by omega) (by omega)
  · refine alK fun x h1 e1 f1 o1 z1 => ⟨same1 (S := fun _ => False) (C.ob.ext E) f1 id, same1 (S := fun _ => False) (C.oa.ext E) f1 id, ?_⟩
    exact q349 C H (Ext.trans E f1) o1 (by omega) (Own.ext Zr f1) (by omega) (by omega)
theorem q139 (C : Cx g o ra rb ma qa mb qb) (H : Hd R g o) {h : Heap} (E : Ext g h)   :
    F1324_o139 B R (some ⟨o, 0, none⟩) (some ⟨ra, 0, none⟩) (some ⟨rb, 0, none⟩) (65 : Int) (some ⟨ma, 0, none⟩) (65 : Int) (some ⟨mb, 0, none⟩) rb 0 ra 0 h := by
  have lo := C.oo.lt
  have la := C.oa.lt
  have lb := C.ob.lt
  have lma := C.ia.lt
  have lqa := C.ia.lq
  have lmb := C.ib.lt
  have lqb := C.ib.lq
  have sE := E.size
  refine ⟨?_, ?_, ?_⟩
  · refine alK fun z h1 e1 f1 o1 z1 => ⟨same1 (S := fun _ => False) (C.ob.ext E) f1 id, same1 (S := fun _ => False) (C.oa.ext E) f1 id, ?_⟩
    exact q154 C H (Ext.trans E f1) o1 (by omega)
  · refine alK fun x h1 e1 f1 o1 z1 => ⟨same1 (S := fun _ => False) (C.ob.ext E) f1 id, same1 (S := fun _ => False) (C.oa.ext E) f1 id, ?_⟩
    exact q295 C H (Ext.trans E f1) o1 (by omega)
  · refine alK fun r h1 e1 f1 o1 z1 => ⟨same1 (S := fun _ => False) (C.ob.ext E) f1 id, same1 (S := fun _ => False) (C.oa.ext E) f1 id, ?_⟩
    exact q373 C H (Ext.trans E f1) o1 (by omega)
end
/-- round.quotient of 1 and 3. -/
theorem K1324c {b c ma qa mb qb : Nat} (O : Own h b #[.pointer (some ⟨ma, 0, none⟩), .int .i64 0, .bool false, .pointer (some ⟨mb, 0, none⟩), .int .i64 0, .bool false]) (Ia : IntAt h ma qa 1) (Ib : IntAt h mb qb 3)
    (H : ∀ h' q qq, Ext h h' → IntAt h' q qq QTH → R (.returned (.tuple #[.agg #[.pointer (some ⟨q, 0, none⟩), .int .i64 (-65 : Int), .bool true], .int .i64 (0 : Int)])) h') :
    Ent Tryz.prog B 39 #[.slice (some ⟨b, 0, none⟩) 2 c] R h := by
  have st3 : ∀ {g1 : Heap} {r : Nat} {m : OA} {K : Heap → Prop}, Own g1 r #[.pointer none, .int .i64 0, .bool false] → (∀ g2, Fr (fun x => x = r) g1 g2 → Own g2 r #[.pointer m, .int .i64 0, .bool false] → K g2) →
      stC g1 r 0 (.pointer m) fun g => stC g r (0 + 1) (.int .i64 0) fun g => stC g r (0 + 1 + 1) (.bool false) K := fun o k =>
    o.stC (by simp) rfl fun oa fa => oa.stC (by simp) rfl fun ob fb => ob.stC (by simp) rfl fun oc fc => k _ (Fr.trans (S := fun x => x = _) (Fr.trans (S := fun x => x = _) fa fb fun _ _ e => e) fc fun _ _ e => e) oc
  refine F1324_ok _ _ _ (alK fun r1 h1 e1 f1 o1 z1 => ?_)
  have O1 := O.ext f1
  refine ⟨b, 0, rfl, by decide, by decide, b, _, rfl, _, O1.cell _, _, O1.cell _, _, O1.cell _, b, 0, rfl, by decide, by decide, b, _, rfl, _, O1.cell _, _, O1.cell _, _, O1.cell _, ?_⟩
  have lb := O.lt
  have lma := Ia.lt
  have lqa := Ia.lq
  have lmb := Ib.lt
  have lqb := Ib.lq
  have fin : ∀ ra rb g, Ext h g → h.size ≤ r1 → h.size ≤ ra → h.size ≤ rb → ra ≠ r1 → rb ≠ r1 → Own g r1 #[.pointer none, .int .i64 0, .bool false] → Own g ra #[.pointer (some ⟨ma, 0, none⟩), .int .i64 0, .bool false] → Own g rb #[.pointer (some ⟨mb, 0, none⟩), .int .i64 0, .bool false] →
      F1324_j2 B R (some ⟨r1, 0, none⟩) (some ⟨ra, 0, none⟩) (some ⟨rb, 0, none⟩) g := fun ra rb g E l1 la lb n1 n2 oo oa ob => by
    have Ia := Ia.ext E
    have Ib := Ib.ext E
    refine ⟨rb, 0, rfl, rb, 0, rfl, _, ob.cell _, K75 Ib ⟨_, rfl, fun e => absurd e (by decide), fun _ => ⟨rb, 0, rfl, rb, 0, rfl, _, ob.cell _, ra, 0, rfl, ra, 0, rfl, _, oa.cell _, ?_⟩⟩⟩
    refine K124 Ib ⟨_, rfl, same1 (S := fun _ => False) oa Fr.rfl' id, K124 Ia ⟨_, rfl, ?_⟩⟩
    have hk : (if (IntKind.i64.wrap ((IntKind.i64.wrap (((bl (3 : Int).natAbs : Nat) : Int) - ((bl (1 : Int).natAbs : Nat) : Int))) + (64 : Int))) > (0 : Int) then (IntKind.i64.wrap ((IntKind.i64.wrap (((bl (3 : Int).natAbs : Nat) : Int) - ((bl (1 : Int).natAbs : Nat) : Int))) + (64 : Int))) else (0 : Int)) = 65 := by decide +kernel
    rw [hk]
    refine ⟨ra, 0, rfl, ra, 0, rfl, _, oa.cell _, rb, 0, rfl, rb, 0, rfl, _, ob.cell _, ?_⟩
    exact q139 ⟨oo, oa, ob, Ia, Ib, n1, n2⟩ (fun h' q qq f I => H h' q qq (Fr.trans E f fun x hx e => by omega) I) Fr.rfl'
  refine ⟨alK fun ra h2 e2 f2 o2 z2 => ⟨?_, ?_, alK fun rb h3 e3 f3 o3 z3 => ⟨?_, ?_, ra, 0, rfl, st3 (o2.ext f3) fun h4 f4 o4 => ⟨?_, rb, 0, rfl, st3 (o3.fr f4 (by omega)) fun h5 f5 o5 => ?_⟩⟩⟩,
    alK fun rb h2 e2 f2 o2 z2 => ⟨?_, ?_, alK fun ra h3 e3 f3 o3 z3 => ⟨?_, ?_, ra, 0, rfl, st3 o3 fun h4 f4 o4 => ⟨?_, rb, 0, rfl, st3 ((o2.ext f3).fr f4 (by omega)) fun h5 f5 o5 => ?_⟩⟩⟩⟩
  · simp only [sameCells]; simp [O1.cell, (O1.ext f2).cell]
  · simp only [sameCells]; simp [O1.cell, (O1.ext f2).cell]
  · simp only [sameCells]; simp [(O1.ext f2).cell, ((O1.ext f2).ext f3).cell]
  · simp only [sameCells]; simp [(O1.ext f2).cell, ((O1.ext f2).ext f3).cell]
  · have := (((O1.ext f2).ext f3).fr f4 (by omega)).cell
    simp only [sameCells]; simp [((O1.ext f2).ext f3).cell, this]
  · have F := Ext.trans (Ext.trans f1 f2) f3
    have G : Ext h h5 := Fr.trans (Fr.trans F f4 fun x hx e => by omega) f5 fun x hx e => by omega
    exact fin ra rb h5 G (by omega) (by omega) (by omega) (by omega) (by omega) ((((o1.ext f2).ext f3).fr f4 (by omega)).fr f5 (by omega)) (o4.fr f5 (by omega)) o5
  · simp only [sameCells]; simp [O1.cell, (O1.ext f2).cell]
  · simp only [sameCells]; simp [O1.cell, (O1.ext f2).cell]
  · simp only [sameCells]; simp [(O1.ext f2).cell, ((O1.ext f2).ext f3).cell]
  · simp only [sameCells]; simp [(O1.ext f2).cell, ((O1.ext f2).ext f3).cell]
  · have := (((O1.ext f2).ext f3).fr f4 (by omega)).cell
    simp only [sameCells]; simp [((O1.ext f2).ext f3).cell, this]
  · have F := Ext.trans (Ext.trans f1 f2) f3
    have G : Ext h h5 := Fr.trans (Fr.trans F f4 fun x hx e => by omega) f5 fun x hx e => by omega
    exact fin ra rb h5 G (by omega) (by omega) (by omega) (by omega) (by omega) ((((o1.ext f2).ext f3).fr f4 (by omega)).fr f5 (by omega)) (o4.fr f5 (by omega)) o5
end Go.Proofs
set_option linter.unusedVariables false
/-! round.Quot of 1 and 3. -/
namespace Go.Proofs
open Go Go.Eng
variable {B : World} {R : Ending → Heap → Prop} {h : Heap}
def RndQ (b p1 u : Nat) (wv : Value) (h v0 : Heap) (m : Nat) (l : List Value) (h' : Heap) : Prop :=
  match l with
  | [i, j, .int _ k, .pointer d, .slice a an ac, .slice s sn sc, .int _ nn, .int _ ii] =>
    i = .func (.func 39) #[] #[] ∧ j = .func (.func 24) #[] #[] ∧ k = -9223372036854775808 ∧ d = some (⟨p1, 0, none⟩ : Addr) ∧ a = some (⟨u, 0, none⟩ : Addr) ∧ an = 2 ∧ s = some (⟨b, 0, none⟩ : Addr) ∧ sn = 2 ∧ nn = 2 ∧
    ((ii = 0 ∧ m = 2 ∧ h' = v0) ∨
     (ii = 1 ∧ m = 1 ∧ Ext h h' ∧ Own h' p1 #[wv] ∧ WayV h' 0 wv ∧ u < h'.size ∧ p1 ≠ u ∧ ∃ r q, Own h' u #[.pointer (some ⟨r, 0, none⟩), .int .i64 0, .bool false, .pointer none, .int .i64 0, .bool false] ∧ IntAt h' r q 1 ∧ u ≠ r ∧ u ≠ q) ∨
     (ii = 2 ∧ m = 0 ∧ Ext h h' ∧ Own h' p1 #[wv] ∧ WayV h' 0 wv ∧ ∃ r q r2 q2, Own h' u #[.pointer (some ⟨r, 0, none⟩), .int .i64 0, .bool false, .pointer (some ⟨r2, 0, none⟩), .int .i64 0, .bool false] ∧ IntAt h' r q 1 ∧ IntAt h' r2 q2 3))
  | _ => False
theorem mk6 : mkCells #[.pointer none, .int .i64 0, .bool false] (Int.toNat ((2 : Nat) : Int) * 3) = #[.pointer none, .int .i64 0, .bool false, .pointer none, .int .i64 0, .bool false] := by
  apply Array.ext
  · simp [mkCells]
  · intro i h1 h2
    have h3 : i < 6 := h2
    have : i = 0 ∨ i = 1 ∨ i = 2 ∨ i = 3 ∨ i = 4 ∨ i = 5 := by omega
    rcases this with rfl | rfl | rfl | rfl | rfl | rfl <;> simp [mkCells]
theorem third : dirV 0 (QTH * 2 + 1) (-65 - 1) = 4599676419421066581 := by decide +kernel
/-- round.rounded, of the quotient of 1 and 3. -/
theorem K1055q {b c : Nat} {p p2 : Option Addr} {cc cc2 : Nat} (Ob : Own h b #[.bool false, .slice p 1 cc, .int .i64 0, .bool false, .slice p2 1 cc2, .int .i64 0]) (N : NumI h false p 1 0 [1]) (N2 : NumI h false p2 1 0 [3])
    (H : ∀ h', Ext h h' → R (.returned (.tuple #[.int .i64 (4599676419421066581 : Int), .bool true, .int .i64 (0 : Int)])) h') :
    Ent Tryz.prog B 38 #[.int .i64 (0 : Int), .slice (some ⟨b, 0, none⟩) 2 c, .func (.func 39) #[] #[], .func (.func 24) #[] #[], .int .i64 (-9223372036854775808 : Int)] R h := by
  refine F1055_ok _ _ _ _ _ _ _ (K1076 (w := 0) (by decide) (by decide) fun wv h1 f1 W1 hone => ⟨_, _, rfl, alK fun r2 h2 e2 f2 o2 z2 => ⟨r2, 0, rfl, o2.stC (by simp) hone fun oa fa => ?_⟩⟩)
  generalize setCell h2 _ _ = h3 at *
  have oa : Own h3 r2 #[wv] := oa
  have F3 : Ext h h3 := Fr.trans (Ext.trans f1 f2) fa fun x hx e => by have := f1.size; omega
  have W3 : WayV h3 0 wv := W1.ext (Fr.trans f2 fa fun x hx e => by omega)
  refine ⟨fun e => (by cases e), fun _ => ⟨by decide, by decide, by decide, by decide, alK fun r4 h5 e4 f4 o4 z4 => ?_⟩⟩
  have o4 : Own h5 r4 #[.pointer none, .int .i64 0, .bool false, .pointer none, .int .i64 0, .bool false] := by rw [mk6] at o4; exact o4
  have F5 := Ext.trans F3 f4
  have oa5 := oa.ext f4
  have W5 := W3.ext f4
  have lb := Ob.lt
  have s3 := F3.size
  have s5 := F5.size
  have lp := oa.lt
  have l4 := o4.lt
  refine ⟨RndQ b r2 r4 wv h h5, 2, ⟨rfl, rfl, rfl, rfl, rfl, rfl, rfl, rfl, rfl, .inl ⟨rfl, rfl, rfl⟩⟩, ?_⟩
  rintro m g _ _ _ _ _ _ _ _ _ _ _ _ ⟨rfl, rfl, rfl, rfl, rfl, rfl, rfl, rfl, rfl, hc⟩ _
  rcases hc with ⟨rfl, rfl, rfl⟩ | ⟨rfl, rfl, Fg, Op, Wg, lu, npu, r, q, Og, Ig, ur, uq⟩ | ⟨rfl, rfl, Fg, Op, Wg, r, q, r', q', Og, Ig, Ig2⟩
  · have Ob5 := Ob.ext F5
    refine ⟨fun _ => ⟨b, 0, rfl, by decide, by decide, b, _, rfl, _, Ob5.cell _, _, _, _, Ob5.cell _, _, Ob5.cell _, ?_⟩, fun e => by simp at e⟩
    refine lay3 fun r6 h8 f8 hr6 os => ?_
    have N8 := (N.ext F5).ext f8
    refine ⟨r6, 0, rfl, _, os.cell _, _, _, _, os.cell _, _, os.cell _, K129 N8 fun h9 f9 => ⟨_, rfl, fun e => (by cases e), fun _ => ?_⟩⟩
    have os9 := os.ext f9
    have E9 := Ext.trans f8 f9
    refine ⟨r6, 0, rfl, _, os9.cell _, _, _, _, os9.cell _, _, os9.cell _, K1077 (N8.ext f9).d (by decide) fun r q h10 f10 lr lq I10 => ⟨_, _, _, rfl, ?_⟩⟩
    have E10 := Ext.trans E9 f10
    refine ⟨r4, 0, rfl, by decide, by decide, r4, _, rfl, (o4.ext E10).stC (by simp) rfl fun ox fx => ox.stC (by simp) rfl fun oy fy => oy.stC (by simp) rfl fun oz fz => ?_⟩
    have fxz := Fr.trans (S := fun x => x = r4) (Fr.trans (S := fun x => x = r4) fx fy fun _ _ e => e) fz fun _ _ e => e
    have s9 := E9.size
    have E11 : Ext h _ := Fr.trans (Ext.trans F5 E10) fxz fun x hx e => by omega
    refine ⟨1, by omega, rfl, rfl, rfl, rfl, rfl, rfl, rfl, rfl, rfl, .inr (.inl ⟨by decide, rfl, E11, (oa5.ext E10).fr fxz (by omega), W3.ext (Fr.trans (Ext.trans f4 E10) fxz fun x hx e => by omega), by have := fxz.size; have := E10.size; omega, by omega, r, q, oz, I10.fr fxz (by omega) (by omega), by omega, by omega⟩)⟩
  · have Obg := Ob.ext Fg
    have lr := Ig.lt
    have lqg := Ig.lq
    refine ⟨fun _ => ⟨b, 0, rfl, by decide, by decide, b, _, rfl, _, Obg.cell _, _, _, _, Obg.cell _, _, Obg.cell _, ?_⟩, fun e => by simp at e⟩
    refine lay3 fun r6 h8 f8 hr6 os => ?_
    have N8 := (N2.ext Fg).ext f8
    refine ⟨r6, 0, rfl, _, os.cell _, _, _, _, os.cell _, _, os.cell _, K129 N8 fun h9 f9 => ⟨_, rfl, fun e => (by cases e), fun _ => ?_⟩⟩
    have os9 := os.ext f9
    have E9 := Ext.trans f8 f9
    refine ⟨r6, 0, rfl, _, os9.cell _, _, _, _, os9.cell _, _, os9.cell _, K1077 (N8.ext f9).d (by decide) fun ra qa h10 f10 lra lqa I10 => ⟨_, _, _, rfl, ?_⟩⟩
    have E10 := Ext.trans E9 f10
    have s9 := E9.size
    refine ⟨r4, 0, rfl, by decide, by decide, r4, _, rfl, (Og.ext E10).stC (by simp) rfl fun ox fx => ox.stC (by simp) rfl fun oy fy => oy.stC (by simp) rfl fun oz fz => ?_⟩
    have fxz := Fr.trans (S := fun x => x = r4) (Fr.trans (S := fun x => x = r4) fx fy fun _ _ e => e) fz fun _ _ e => e
    have E11 : Ext h _ := Fr.trans (Ext.trans Fg E10) fxz fun x hx e => by omega
    refine ⟨0, by omega, rfl, rfl, rfl, rfl, rfl, rfl, rfl, rfl, rfl, .inr (.inr ⟨by decide, rfl, E11, (Op.ext E10).fr fxz npu, ?_, r, q, ra, qa, oz, (Ig.ext E10).fr fxz (fun e => ur e.symm) (fun e => uq e.symm), I10.fr fxz (by omega) (by omega)⟩)⟩
    exact Wg
  · refine ⟨fun e => by simp at e, fun _ => ev0 (K1324c Og Ig Ig2 fun h2 qz qq f2 Iq => ⟨_, _, _, _, rfl, ?_⟩)⟩
    refine alK fun r6 h7 e6 f6 o6 z6 => ⟨r6, 0, rfl, o6.stC (by simp) rfl fun oq fq => oq.stC (by simp) rfl fun or fr => or.stC (by simp) rfl fun os fs => ?_⟩
    have fqs := Fr.trans (S := fun x => x = r6) (Fr.trans (S := fun x => x = r6) fq fr fun _ _ e => e) fs fun _ _ e => e
    generalize setCell (setCell (setCell h7 _ _) _ _) _ _ = h8 at *
    have os : Own h8 r6 #[.pointer (some ⟨qz, 0, none⟩), .int .i64 (-65), .bool true] := os
    have E8 : Ext g h8 := Fr.trans (Ext.trans f2 f6) fqs fun x hx e => by have := f2.size; omega
    have E28 : Ext h2 h8 := Fr.trans f6 fqs fun x hx e => by omega
    refine ⟨fun e => (by cases e), fun _ => ⟨r6, 0, rfl, _, os.cell _, _, os.cell _, _, os.cell _, r2, 0, rfl, _, (Op.ext E8).cell _, ?_⟩⟩
    refine ev0 (K1057m (Wg.ext E8) hone (Iq.ext E28) (by decide) (by decide +kernel) (by decide +kernel) (by decide) (by decide) fun h9 f9 => ⟨_, _, rfl, ?_⟩)
    rw [third]
    exact ⟨fun e => absurd e (by decide), fun e => H h9 (Ext.trans (Ext.trans Fg E8) f9)⟩
end Go.Proofs
set_option linter.unusedVariables false
/-! plumblaw4.alive. -/
namespace Go.Proofs
open Go Go.Eng
variable {B : World} {R : Ending → Heap → Prop} {h : Heap}
theorem numI1 {h : Heap} {b d : Nat} (O : Own h b #[.int .i64 (d : Int)]) (hd : d < B30) (ho : d % 2 = 1) : NumI h false (some ⟨b, 0, none⟩) 1 0 [d] := by
  refine ⟨⟨pt_some, .inr ⟨b, 0, _, rfl, O, fun i hi => ?_⟩, rfl, fun w hw => by rw [List.mem_singleton.1 hw]; exact hd, ?_⟩, by decide, fun e => (by cases e), fun _ => ⟨?_, by decide, by decide⟩⟩
  · have : i = 0 := by simp at hi; omega
    subst this; rfl
  · unfold Trim
    simp
    omega
  · simp [val]; exact ho
/-- round.Quot of 1 and 3. -/
theorem K1322c {b b2 : Nat} (O : Own h b #[.int .i64 (1 : Int)]) (O2 : Own h b2 #[.int .i64 (3 : Int)]) (H : ∀ h', Ext h h' → R (.returned (.tuple #[.int .i64 (4599676419421066581 : Int), .bool true, .int .i64 (0 : Int)])) h') :
    Ent Tryz.prog B 17 #[.agg #[.bool false, .slice (some ⟨b, 0, none⟩) 1 1, .int .i64 0], .agg #[.bool false, .slice (some ⟨b2, 0, none⟩) 1 1, .int .i64 0], .int .i64 (0 : Int)] R h := by
  refine F1322_ok _ _ _ _ _ _ _ _ _ _ _ (alK fun r1 h1 e1 f1 o1 z1 => alK fun r2 h2 e2 f2 o2 z2 => ?_)
  have O1 := o1.ext f2
  refine ⟨r1, 0, rfl, _, O1.cell _, _, _, _, O1.cell _, _, O1.cell _, r2, 0, rfl, _, o2.cell _, _, _, _, o2.cell _, _, o2.cell _, alK fun r3 h3 e3 f3 o3 z3 => ?_⟩
  have F := Ext.trans (Ext.trans f1 f2) f3
  refine K1055q o3 (numI1 (d := 1) (O.ext F) (by decide) (by decide)) (numI1 (d := 3) (O2.ext F) (by decide) (by decide)) fun h4 f4 => ⟨_, _, _, rfl, ?_⟩
  exact H h4 (Ext.trans F f4)
theorem E1331 {n : Nat} (H : R (.returned (.float .f32 n)) h) : Ent Tryz.prog B 71 #[.int .u32 (n : Int)] R h :=
  Ent.of_ext (e := Extern.MathFloatBits.float32frombits) Tryz.func71 (by kernel_rfl) (by kernel_rfl) (by kernel_rfl) (by kernel_rfl) rfl H
theorem E1334 {n : Nat} (H : R (.returned (.int .u32 (n : Int))) h) : Ent Tryz.prog B 101 #[.float .f32 n] R h :=
  Ent.of_ext (e := Extern.MathFloatBits.float32bits) Tryz.func101 (by kernel_rfl) (by kernel_rfl) (by kernel_rfl) (by kernel_rfl) rfl H
abbrev S1 : Int := 1065353216
theorem K1326c (H : R (.returned (.float .f32 1065353216)) h) : Ent Tryz.prog B 46 #[.int .i64 S1] R h := by
  refine F1326_ok _ (F1330_ok _ ⟨_, rfl, fun e => absurd e (by decide +kernel), fun _ => ?_⟩)
  have e1 : IntKind.u32.wrap S1 = ((1065353216 : Nat) : Int) := by decide +kernel
  unfold F1326_j3
  rw [e1]
  exact E1331 ⟨_, rfl, H⟩
theorem dec32 : FloatKind.f32.decode 1065353216 = .number false 8388608 (-23) := by decide +kernel
theorem cv32 {K : Nat → Prop} (H : K 4607182418800017408) : cvW .f32 1065353216 .f64 K := by
  refine ⟨fun e => (by cases e), fun _ => ?_⟩
  rw [dec32]
  refine ⟨fun e => absurd e (by decide +kernel), fun _ => ?_⟩
  have : FloatKind.f64.encode (.number false 8388608 (-23)) = 4607182418800017408 := by decide +kernel
  rw [this]; exact H
theorem K1329c (H : R (.returned (.int .i64 P1)) h) : Ent Tryz.prog B 69 #[.int .i64 S1] R h := by
  refine F1329_ok _ (K1326c ⟨_, rfl, cv32 ?_⟩)
  exact K56 (show WI 4607182418800017408 P1 from ⟨by decide, by decide +kernel⟩) ⟨_, rfl, H⟩
theorem K1325c (H : ∀ h', Ext h h' → R (.returned (.tuple #[.int .i64 P1, .int .i64 P1, .bool true])) h') : Ent Tryz.prog B 45 #[.int .i64 S1, .int .i64 S1] R h := by
  refine F1325_ok _ _ (K1329c ⟨_, rfl, K1329c ⟨_, rfl, K1329c ⟨_, rfl, K1329c ⟨_, rfl, alK fun r1 h1 e1 f1 o1 z1 => K1067g o1 ⟨_, rfl, ?_⟩⟩⟩⟩⟩)
  have : (isFin P1 && isFin P1) = true := by decide +kernel
  rw [this]
  exact H h1 f1
theorem add32 : FloatKind.f32.format.add 1065353216 1065353216 = some 1073741824 := by decide +kernel
/-- round.Add32 of 1 and 1. -/
theorem K1323c (H : ∀ h', Ext h h' → R (.returned (.tuple #[.int .i64 (1073741824 : Int), .int .i64 (0 : Int)])) h') : Ent Tryz.prog B 19 #[.int .i64 S1, .int .i64 S1, .int .i64 (0 : Int)] R h := by
  refine F1323_ok _ _ _ (K1325c fun h1 f1 => ⟨_, _, _, rfl, alK fun r2 h2 e2 f2 o2 z2 => alK fun r3 h3 e3 f3 o3 z3 => ⟨r2, 0, rfl, (o2.ext f3).stC (by simp) rfl fun oa fa => ⟨r3, 0, rfl, (o3.fr fa (by omega)).stC (by simp) rfl fun ob fb => ?_⟩⟩⟩)
  generalize setCell (setCell h3 _ _) _ _ = h5 at *
  have s1 := f1.size
  have F5 : Ext h h5 := Fr.trans (Fr.trans (Ext.trans (Ext.trans f1 f2) f3) fa fun x hx e => by omega) fb fun x hx e => by omega
  refine K1326c ⟨_, rfl, K1326c ⟨_, rfl, fun z hz => ?_, fun hn => ?_⟩⟩
  · rw [add32] at hz
    cases hz
    refine ⟨fun _ => ⟨fun e => absurd e (by decide), fun _ => ⟨fun e => (by cases e), fun _ => ⟨fun e => (by cases e), fun _ => ?_⟩⟩⟩, fun e => (by cases e)⟩
    refine F1327_ok _ _ _ _ (K1076 (w := 0) (by decide) (by decide) fun wv h6 f6 W6 hone => ⟨_, _, rfl, alK fun r7 h7 e7 f7 o7 z7 => ⟨r7, 0, rfl, o7.stC (by simp) hone fun oc fc => ⟨fun e => (by cases e), fun _ => ⟨fun _ => ⟨fun _ => ?_, fun e => (by cases e)⟩, fun e => absurd e (by decide)⟩⟩⟩⟩)
    refine F1332_ok _ ⟨fun e => absurd e (by decide +kernel), fun _ => E1334 ⟨_, rfl, ⟨_, rfl, _, _, rfl, ?_⟩⟩⟩
    have e1 : IntKind.i64.wrap ((1073741824 : Nat) : Int) = 1073741824 := by decide +kernel
    rw [e1]
    have s5 := F5.size
    have s6 := f6.size
    exact H _ (Fr.trans (Ext.trans (Ext.trans F5 f6) f7) fc fun x hx e => by omega)
  · rw [add32] at hn; cases hn
theorem two_one : addW 0 P1 P1 = 4611686018427387904 := by decide +kernel
/-- plumblaw4.alive. -/
theorem K1319 (ht : TabH h) (H : ∀ h', Ext h h' → R (.returned (.bool true)) h') : Ent Tryz.prog B 6 #[] R h := by
  refine F1319_ok (alK fun r1 h1 e1 f1 o1 z1 => alK fun r2 h2 e2 f2 o2 z2 => K1322c (o1.ext f2) o2 fun h3 f3 => ⟨_, _, _, rfl, ?_⟩)
  have F3 := Ext.trans (Ext.trans f1 f2) f3
  refine K1045 (a := P1) (b := P1) (w := 0) (ht.fr F3 id) (by unfold I64 P1; omega) (by unfold I64 P1; omega) (by decide) (by decide) fun h4 f4 => ⟨_, _, rfl, ?_⟩
  rw [two_one]
  refine K1323c fun h5 f5 => ⟨_, _, rfl, ?_⟩
  have HH := H h5 (Ext.trans (Ext.trans F3 f4) f5)
  refine ⟨fun _ => ⟨fun _ => ⟨fun _ => ⟨fun _ => ⟨fun _ => ⟨fun _ => HH, fun e => absurd e (by decide)⟩, fun e => absurd e (by decide)⟩, fun e => absurd e (by decide)⟩, fun e => absurd e (by decide)⟩, fun e => absurd e (by decide)⟩, fun e => absurd e (by decide)⟩
end Go.Proofs
