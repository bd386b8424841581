import Derived.Test.YtobkdplpkgikhaaGreatFmtA23
import Derived.Test.YtobkdplpkgikhaaGreatFmtA02
/- Here stand lemmas and contracts, in the order in which they are used. -/
set_option linter.unusedVariables false
namespace Go.Eng
open Go
/-- Not in a block of h. -/
def Fresh (h : Heap) (p : Option Addr) : Prop := ∀ b o, p = some (⟨b, o, none⟩ : Addr) → h.size ≤ b
theorem Fresh.nil {h : Heap} : Fresh h none := fun _ _ e => by cases e
theorem Fresh.mono {h h' : Heap} {p : Option Addr} (H : Fresh h' p) (f : h.size ≤ h'.size) : Fresh h p := fun b o e => Nat.le_trans f (H b o e)
end Go.Eng
namespace Go.Proofs
open Go Go.Eng
variable {B : World} {R : Ending → Heap → Prop} {h : Heap}
theorem td30 (s : Nat) : Int.tdiv (s : Int) (30 : Int) = ((s / 30 : Nat) : Int) := by
  rw [Int.tdiv_eq_ediv_of_nonneg (by omega)]; rfl
theorem and_mask30 (w : Nat) : w &&& 1073741823 = w % B30 := Nat.and_two_pow_sub_one_eq_mod w 30
theorem K65j {h0 h : Heap} {r3 r5 rx qx r37 q37 : Nat} {v : Int} {e e0 : Int} {M : Nat} (f : Ext h0 h) (hx : IntAt h0 rx qx v) (o3 : Own h r3 #[.pointer (some ⟨rx, 0, none⟩), .int .i64 e0]) (o5 : Own h r5 #[.bool false, .slice none 0 0, .int .i64 0])
    (g3 : h0.size ≤ r3) (g5 : h0.size ≤ r5) (ne : r3 ≠ r5) (im : IntAt h r37 q37 (M : Int)) (gm : h0.size ≤ r37) (gq : h0.size ≤ q37) (n3 : r3 ≠ r37 ∧ r3 ≠ q37) (n5 : r5 ≠ r37 ∧ r5 ≠ q37) (hM : bl M ≤ 60000)
    (H : ∀ p n c h', Ext h0 h' → Fresh h0 p → Room h' p c (fun b => h0.size ≤ b) → n ≤ c → DigI h' p n (digs B30 M) → R (.returned (.agg #[.bool (decide (v < 0)), .slice p n c, .int .i64 e])) h') :
    F65_j66 B R (some ⟨r3, 0, none⟩) (some ⟨r5, 0, none⟩) (some ⟨r37, 0, none⟩) e false h := by
  refine ⟨fun e => (by cases e), fun _ => K124 im ⟨_, rfl, by decide, ?_⟩⟩
  have eC : IntKind.i64.wrap (IntKind.i64.wrap (Int.tdiv ((bl (M : Int).natAbs : Nat) : Int) (30 : Int)) + (1 : Int)) = ((bl M / 30 + 1 : Nat) : Int) := by
    rw [Int.natAbs_natCast, td30, i64_in (x := ((bl M / 30 : Nat) : Int)) (by omega) (by omega), i64_in (by omega) (by omega)]; rfl
  rw [eC]
  refine ⟨by omega, by omega, by omega, by omega, alK fun r78 h79 e78 f79 o78 z79 => ?_⟩
  have l3 := o3.lt
  have l5 := o5.lt
  have lq := im.lq
  have lr := im.lt
  refine K120 (v := 1073741823) (by decide) (by decide) fun rm qm h81 f81 grm grm' gqm I81 => ⟨_, rfl, ?_⟩
  have hs79 : h79.size = h.size + 1 := z79
  have fs := f.size
  have T0 : Told h0 h81 r3 r5 rx rm qm r78 e0 :=
    ⟨Ext.trans f (Ext.trans f79 f81), (o3.ext f79).ext f81, (o5.ext f79).ext f81, I81, g3, g5, by omega, by omega, by omega, by omega, by omega, by omega, by omega, ne⟩
  refine ⟨fun m vs h' => match vs with
    | [.pointer p3, .pointer p5, .pointer p37, .int _ ee, .slice p n c, .pointer pm] => p3 = some (⟨r3, 0, none⟩ : Addr) ∧ p5 = some (⟨r5, 0, none⟩ : Addr) ∧ p37 = some (⟨r37, 0, none⟩ : Addr) ∧ ee = e ∧ pm = some (⟨rm, 0, none⟩ : Addr) ∧ c = bl M / 30 + 1 ∧
        ∃ (l : List Nat) (q : Nat), Told h0 h' r3 r5 rx rm qm r78 e0 ∧ IntAt h' r37 q (m : Int) ∧ h0.size ≤ q ∧ q ≠ r3 ∧ q ≠ r5 ∧ q ≠ rm ∧ q ≠ qm ∧ q ≠ r78 ∧ m ≤ M ∧ Sl .i64 h' p l ∧ l.length = n ∧ Room h' p c (fun b => b = r78) ∧ Pt p ∧ Dig B30 l ∧ l ++ digs B30 m = digs B30 M
    | _ => False, M, ⟨rfl, rfl, rfl, rfl, rfl, ?_, [], q37, T0, (im.ext f79).ext f81, gq, by omega, by omega, by omega, by omega, by omega, Nat.le_refl _, Sl.nil, rfl, ?_, pt_some, Dig.nil, rfl⟩, ?_⟩
  · rfl
  · refine .inr ⟨r78, 0, _, rfl, o78.ext f81, ?_, rfl⟩
    simp [mkCells]
  rintro m h' _ _ _ _ p n c _ ⟨rfl, rfl, rfl, rfl, rfl, rfl, l, q, T, I, hq, q3, q5, qrm, qqm, qbd, hmM, hsl, hln, hroom, hpt, hdl, hdig⟩ _
  refine K75 I ⟨_, rfl, fun e => ?_, fun e => ?_⟩
  · have hm0 : 0 < m := by
      rcases Nat.eq_zero_or_pos m with h | h
      · subst h; simp at e
      · exact h
    have hbm : bl m ≤ 60000 := by
      exact Nat.le_trans (bl_mono hmM) hM
    have hmask : bl 1073741823 ≤ 1000000 := by
      have : bl 1073741823 ≤ 30 := bl_le_iff.2 (by decide)
      omega
    refine alK fun r100 h101 e101 f101 o101 z101 => ?_
    refine K125f o101 (I.ext f101) (T.im.ext f101) (by omega) hmask hm0 (by decide) fun q100 h103 f103 d103 I103 => ⟨_, rfl, ?_⟩
    rw [and_mask30] at I103
    have hdig30 : m % B30 < 1073741824 := Nat.mod_lt _ (by decide)
    refine K126 I103 (by rw [Int.natAbs_natCast]; omega) ⟨_, rfl, ?_⟩
    refine alK fun r112 h113 e113 f113 o113 z113 => ?_
    have F13 : Ext h' h113 := by
      refine Fr.trans (Fr.trans f101 f103 fun x hx e => ?_) f113 fun _ _ e => e
      rcases e with e | e
      · omega
      · exact e
    have T13 := T.fr F13 id id id id fun _ _ => id
    have I13 := I.ext F13
    have hcap : l.length < bl M / 30 + 1 := by
      have h1 := digs_len (b := B30) (k := 30) (w := M) (n := bl M / 30 + 1) rfl (by decide) (by omega)
      rw [← hdig, List.length_append, digs_ne (by decide) (by omega), List.length_cons] at h1
      omega
    have ec : n = l.length := hln.symm
    subst ec
    refine ap1i (k := .i64) (x := m % B30) (S := fun b => b = r78) (hsl.ext F13) (hroom.ext F13) rfl (by omega) o113 fun h114 s114 r114 f114 => ?_
    have hx113 : h'.size ≤ h113.size := F13.size
    have T14 := T13.fr f114 T.d3.symm T.d5.symm T.dm.symm T.dq.symm fun x hx e => by have := T.gb; omega
    have I14 : IntAt h114 r37 q (m : Int) := I13.fr f114 (show ¬ r37 = r78 by omega) qbd
    refine K122i (s := 30) I14 (by omega) (by decide) (by decide) fun q2 h119 f119 d119 I119 => ⟨_, rfl, ?_⟩
    have hl114 := f114.size
    have lq' := I.lq
    have n2 : ∀ x, x ≠ r37 → x ≠ q → ¬ (x = r37 ∨ Rm r37 q x) := fun x h1 h2 hh => by
      rcases hh with hh | hh
      · exact h1 hh
      · exact h2 hh.1
    have T19 := T14.fr f119 (n2 _ n3.1 q3.symm) (n2 _ n5.1 q5.symm) (n2 _ (by omega) qrm.symm) (n2 _ (by omega) qqm.symm) (fun x hx => n2 x (by omega) (by omega))
    have nb : ¬ (r78 = r37 ∨ Rm r37 q r78) := n2 _ (by omega) qbd.symm
    have l3' := T.o3.lt
    have l5' := T.o5.lt
    have lm' := T.im.lt
    have lqm' := T.im.lq
    have lg := T.gb
    have lb : r78 < h'.size := by
      rcases hroom with e0 | ⟨b, o, cs, e1, e2, e3, e4⟩
      · omega
      · have := e2.lt; omega
    have q2n : ∀ x, x ≠ r37 → x ≠ q → x < h'.size → q2 ≠ x := fun x h1 h2 h3 e => by
      subst e
      rcases d119 with hh | hh | hh
      · exact h1 hh
      · exact h2 hh.1
      · omega
    refine ⟨m / 2 ^ 30, Nat.div_lt_self hm0 (by decide), rfl, rfl, rfl, rfl, rfl, rfl, l ++ [m % B30], q2, T19, I119, ?_, q2n _ n3.1 q3.symm l3', q2n _ n5.1 q5.symm l5', q2n _ (by omega) qrm.symm lm', q2n _ (by omega) qqm.symm lqm', q2n _ (by omega) qbd.symm lb, ?_, ?_, by simp, r114.fr f119 fun b e => e ▸ nb, hpt, hdl.snoc (Nat.mod_lt _ (by decide)), ?_⟩
    · have := T.f.size
      rcases d119 with hh | hh | hh
      · omega
      · have := hh.1; omega
      · omega
    · exact Nat.le_trans (Nat.div_le_self _ _) hmM
    · refine s114.fr f119 fun b o e _ => ?_
      rcases r114 with e0 | ⟨b', o', cs, e1, e2, e3, e4⟩
      · omega
      · rw [e1] at e; cases e; exact e4 ▸ nb
    · rw [← hdig]; exact (digs_snoc (by decide) hm0 l).symm
  · have hm0 : m = 0 := by
      rcases Nat.eq_zero_or_pos m with h | h
      · exact h
      · rw [Int.sign_eq_one_of_pos (by omega)] at e; cases e
    subst hm0
    rw [digs_zero, List.append_nil] at hdig
    have hsg : decide (v.sign < 0) = decide (v < 0) := by
      rcases Int.lt_trichotomy v 0 with h | h | h
      · rw [Int.sign_eq_neg_one_of_neg h]; simp [h]
      · subst h; rfl
      · rw [Int.sign_eq_one_of_pos h]; have : ¬ v < 0 := by omega
        simp [this]
    refine ⟨r3, 0, rfl, r3, 0, rfl, _, T.o3.cell _, K75 (hx.ext T.f) ⟨_, rfl, r5, 0, rfl, ?_⟩⟩
    rw [hsg]
    refine T.o5.stC (by simp) rfl fun oa fa => oa.stC (by simp) rfl fun ob fb => ob.stC (by simp) rfl fun oc fc => ⟨r5, 0, rfl, _, oc.cell _, _, _, _, oc.cell _, _, oc.cell _, ?_⟩
    have fabc := Fr.trans (S := fun x => x = r5) (Fr.trans (S := fun x => x = r5) fa fb fun _ _ e => e) fc fun _ _ e => e
    have hpb : ∀ b o, p = some (⟨b, o, none⟩ : Addr) → b = r78 := by
      intro b o e
      rcases hroom with e0 | ⟨b', o', cs, e1, e2, e3, e4⟩
      · omega
      · rw [e1] at e; cases e; exact e4
    refine H p n _ _ (Fr.trans T.f fabc fun x hx e => by have := T.g5; omega) (fun b o e => by rw [hpb b o e]; exact T.gb) ((hroom.fr fabc fun b e => e ▸ T.d5).mono fun b e => e ▸ T.gb) ?_ ⟨hpt, ?_, ?_, digs_dig (by decide) _, digs_trim (by decide) _⟩
    · have h1 := digs_len (b := B30) (k := 30) (w := M) (n := bl M / 30 + 1) rfl (by decide) (by omega)
      rw [← hdig] at h1; omega
    · rw [← hdig]; exact hsl.fr fabc fun b o e _ => by rw [hpb b o e]; exact T.d5
    · rw [← hdig]; exact hln
end Go.Proofs
namespace Go.Eng
open Go
theorem bl_eq {v : Nat} (h : v ≠ 0) : bl v = v.log2 + 1 := by rw [bl, if_neg h]
theorem bl_scale {m : Nat} (k : Nat) (h : m ≠ 0) : bl (m * 2 ^ k) = bl m + k := by
  have hk : 0 < 2 ^ k := Nat.pow_pos (by decide)
  rw [bl_eq h, bl_eq (Nat.mul_ne_zero h (by omega)), log2_scale k h]; omega
end Go.Eng
namespace Go.Proofs
open Go Go.Eng
variable {B : World} {R : Ending → Heap → Prop} {h : Heap}
theorem TabH.ext {h h' : Heap} (H : TabH h) (f : Ext h h') : TabH h' := H.fr f id
/-- An exact number in its one form, of value v in units of 2^-K. -/
def NumS (K : Nat) (h : Heap) (neg : Bool) (p : Option Addr) (n : Nat) (e v : Int) : Prop :=
  ∃ M : Nat, NumI h neg p n e (digs B30 M) ∧ 0 ≤ e + (K : Int) ∧ v = Ieee.signed neg M (e + (K : Int)).toNat
theorem NumS.ext {K : Nat} {h h' : Heap} {neg : Bool} {p : Option Addr} {n : Nat} {e v : Int} (H : NumS K h neg p n e v) (f : Ext h h') : NumS K h' neg p n e v :=
  let ⟨M, a, b⟩ := H; ⟨M, a.ext f, b⟩
theorem NumS.fr {K : Nat} {h h' : Heap} {neg : Bool} {p : Option Addr} {n : Nat} {e v : Int} {S : Nat → Prop} (H : NumS K h neg p n e v) (f : Fr S h h') (hp : ∀ b o, p = some ⟨b, o, none⟩ → ¬ S b) : NumS K h' neg p n e v :=
  let ⟨M, a, b⟩ := H; ⟨M, ⟨⟨a.d.pt, a.d.sl.fr f fun b o e _ => hp b o e, a.d.len, a.d.dig, a.d.trim⟩, a.le, a.zero, a.pos⟩, b⟩
theorem NumI.fr {h h' : Heap} {neg : Bool} {p : Option Addr} {n : Nat} {e : Int} {ds : List Nat} {S : Nat → Prop} (H : NumI h neg p n e ds) (f : Fr S h h') (hs : ∀ x, x < h.size → ¬ S x) : NumI h' neg p n e ds :=
  H.ext ⟨f.size, fun b hb _ => f.same b hb (hs b hb)⟩
theorem Fr.toExt {h h' : Heap} {S : Nat → Prop} (f : Fr S h h') (hs : ∀ x, x < h.size → ¬ S x) : Ext h h' := ⟨f.size, fun b hb _ => f.same b hb (hs b hb)⟩
theorem digI_nil {h : Heap} : DigI h none 0 (digs B30 0) := by
  rw [digs_zero]; exact ⟨.inl rfl, Sl.nil, rfl, Dig.nil, by simp [Trim]⟩
theorem numS_zero (K : Nat) (h : Heap) : NumS K h false none 0 0 0 :=
  ⟨0, ⟨digI_nil, by decide, fun _ => ⟨rfl, rfl⟩, fun h => absurd h (by decide)⟩, by omega, by simp [Ieee.signed]⟩
theorem signed_val (m : Int) (k : Nat) : Ieee.signed (decide (m < 0)) m.natAbs k = m * 2 ^ k := by
  have h1 : (2 : Int) ^ k = ((2 ^ k : Nat) : Int) := by rw [Int.natCast_pow]; rfl
  unfold Ieee.signed
  rw [Nat.shiftLeft_eq, h1]
  by_cases h : m < 0
  · rw [decide_eq_true h, if_pos rfl, Int.natCast_mul, show (m.natAbs : Int) = -m by omega, Int.neg_mul, Int.neg_neg]
  · rw [decide_eq_false h, if_neg (by decide), Int.natCast_mul, show (m.natAbs : Int) = m by omega]
theorem abs_val (m : Int) (k : Nat) : (m * 2 ^ k).natAbs = m.natAbs * 2 ^ k := by rw [Int.natAbs_mul, Int.natAbs_pow]; rfl
/-- dyadic.told, where there is a number to tell. -/
theorem K65R {r q : Nat} {m e : Int} {K : Nat} {v : Int} (ht : TabH h) (hx : IntAt h r q m) (he : 0 ≤ e + (K : Int)) (hv : v = m * 2 ^ (e + (K : Int)).toNat) (hb : bl v.natAbs ≤ 60000) (hK : K ≤ 1048576)
    (H : ∀ neg p n c e' h', Ext h h' → Fresh h p → Room h' p c (fun b => h.size ≤ b) → n ≤ c → NumS K h' neg p n e' v → R (.returned (.agg #[.bool neg, .slice p n c, .int .i64 e'])) h') :
    Ent Tryz.prog B 56 #[.agg #[.pointer (some ⟨r, 0, none⟩), .int .i64 e]] R h := by
  refine F65_ok _ _ (alK fun r3 h4 e3 f3 o3 z3 => alK fun r5 h6 e5 f5 o5 z5 => ?_)
  have o3' := o3.ext f5
  have fx := Ext.trans f3 f5
  refine ⟨r3, 0, rfl, r3, 0, rfl, _, o3'.cell _, K75 (hx.ext fx) ⟨_, rfl, fun e0 => ?_, fun e0 => ?_⟩⟩
  · have hm : m = 0 := Int.sign_eq_zero_iff_zero.1 (of_decide_eq_true e0)
    refine ⟨r5, 0, rfl, o5.stC (by simp) rfl fun oa fa => oa.stC (by simp) rfl fun ob fb => ob.stC (by simp) rfl fun oc fc => ⟨r5, 0, rfl, _, oc.cell _, _, _, _, oc.cell _, _, oc.cell _, ?_⟩⟩
    have fabc := Fr.trans (S := fun x => x = r5) (Fr.trans (S := fun x => x = r5) fa fb fun _ _ e => e) fc fun _ _ e => e
    have hv0 : v = 0 := by rw [hv, hm, Int.zero_mul]
    subst hv0
    refine H false none 0 0 0 _ (Fr.trans fx fabc fun x hx e => by omega) Fresh.nil (.inl rfl) (Nat.le_refl _) (numS_zero K _)
  · have hm : m ≠ 0 := fun h => by rw [h] at e0; cases e0
    have hm2 : m.natAbs ≠ 0 := by omega
    have hva : v.natAbs = m.natAbs * 2 ^ (e + (K : Int)).toNat := by rw [hv, abs_val]
    have hbm : bl v.natAbs = bl m.natAbs + (e + (K : Int)).toNat := by rw [hva, bl_scale _ hm2]
    refine ⟨r3, 0, rfl, r3, 0, rfl, _, o3'.cell _, K121 (hx.ext fx) hm (by omega) (ht.ext fx) fun t k ek => ⟨_, rfl, ?_⟩⟩
    have hM : m.natAbs / 2 ^ t = 2 * k + 1 := by rw [ek, Nat.mul_div_cancel_left _ (Nat.pow_pos (by decide))]
    have hbt : bl m.natAbs = bl (2 * k + 1) + t := by rw [ek, Nat.mul_comm, bl_scale _ (by omega)]
    refine alK fun r37 h38 e37 f37 o37 z37 => alK fun r39 h40 e39 f39 o39 z39 => ⟨r3, 0, rfl, r3, 0, rfl, _, ((o3'.ext f37).ext f39).cell _, ?_⟩
    have lx := hx.lt
    have lq := hx.lq
    refine K123f o39 (((hx.ext fx).ext f37).ext f39) (by omega) (by omega) fun q47 h47 f47 d47 I47 => ⟨_, rfl, ?_⟩
    have n47 : ∀ x, x ≠ r39 → ¬ (x = r39 ∨ False) := fun x h1 h2 => by rcases h2 with h2 | h2; exact h1 h2; exact h2
    have o37' : ZeroAt h47 r37 := (o37.ext f39).fr f47 (n47 _ (by omega))
    rw [i64_in (x := (t : Int)) (by omega) (by omega), show IntKind.u64.wrap (t : Int) = (t : Int) from wrap_u64_in (by omega) (by omega)]
    refine K122f o37' I47 (by omega) (by omega) fun q52 h52 f52 d52 I52 => ⟨_, rfl, ?_⟩
    rw [hM] at I52
    have n52 : ∀ x, x ≠ r37 → ¬ (x = r37 ∨ False) := fun x h1 h2 => by rcases h2 with h2 | h2; exact h1 h2; exact h2
    have o3a := (((o3'.ext f37).ext f39).fr f47 (n47 _ (by omega))).fr f52 (n52 _ (by omega))
    have o5a := (((o5.ext f37).ext f39).fr f47 (n47 _ (by omega))).fr f52 (n52 _ (by omega))
    have F : Ext h h52 := by
      refine Fr.trans (Fr.trans (Ext.trans fx (Ext.trans f37 f39)) f47 fun x hx e => ?_) f52 fun x hx e => ?_
      · exact n47 x (by omega) e
      · exact n52 x (by omega) e
    have s47 := f47.size
    refine ⟨r3, 0, rfl, r3, 0 + 1, rfl, _, o3a.cell _, K124 I52 ⟨_, rfl, fun e1 => ?_, fun e1 => ⟨fun e2 => ?_, fun e2 => ?_⟩⟩⟩
    · rw [Int.natAbs_natCast] at e1; simp at e1; omega
    · rw [i64_in (x := e + (t : Int)) (by omega) (by omega)] at e2; simp at e2; omega
    · rw [i64_in (x := e + (t : Int)) (by omega) (by omega)]
      have e3 : decide ((1048576 : Int) < e + (t : Int)) = false := by
        have : bl (2 * k + 1) ≠ 0 := Nat.pos_iff_ne_zero.1 (bl_pos (by omega))
        simp; omega
      rw [e3]
      have d52' : q52 = r37 ∨ h47.size ≤ q52 := by rcases d52 with e | e | e; exact .inl e; exact e.elim; exact .inr e
      refine K65j F hx o3a o5a (by omega) (by omega) (by omega) I52 (by omega) (by omega) (by omega) (by omega) (by omega) fun p n c h' f' fr rm le D => ?_
      refine H _ p n c _ h' f' fr rm le ⟨2 * k + 1, ⟨D, ?_, fun h0 => ?_, fun _ => ⟨?_, by omega, by
        have : bl (2 * k + 1) ≠ 0 := Nat.pos_iff_ne_zero.1 (bl_pos (by omega))
        omega⟩⟩, by omega, ?_⟩
      · rw [← D.len]; exact digs_len (k := 30) rfl (by decide) (by omega)
      · exfalso
        have := D.len
        rw [h0, digs_ne (by decide) (by omega)] at this
        simp at this
      · rw [digs_val (by decide)]; omega
      · rw [hv, ← signed_val, show e + (t : Int) + (K : Int) = (((e + (K : Int)).toNat + t : Nat) : Int) by omega, Int.toNat_natCast, ek]
        unfold Ieee.signed
        have : (2 ^ t * (2 * k + 1)) <<< (e + (K : Int)).toNat = (2 * k + 1) <<< ((e + (K : Int)).toNat + t) := by
          rw [Nat.shiftLeft_eq, Nat.shiftLeft_eq, Nat.pow_add]; ac_rfl
        rw [this]
/-- The same, without the room. -/
theorem K65 {r q : Nat} {m e : Int} {K : Nat} {v : Int} (ht : TabH h) (hx : IntAt h r q m) (he : 0 ≤ e + (K : Int)) (hv : v = m * 2 ^ (e + (K : Int)).toNat) (hb : bl v.natAbs ≤ 60000) (hK : K ≤ 1048576)
    (H : ∀ neg p n c e' h', Ext h h' → Fresh h p → NumS K h' neg p n e' v → R (.returned (.agg #[.bool neg, .slice p n c, .int .i64 e'])) h') :
    Ent Tryz.prog B 56 #[.agg #[.pointer (some ⟨r, 0, none⟩), .int .i64 e]] R h :=
  K65R ht hx he hv hb hK fun neg p n c e' h' F fr _ _ N => H neg p n c e' h' F fr N
end Go.Proofs
namespace Go.Proofs
open Go Go.Eng
variable {B : World} {R : Ending → Heap → Prop} {h : Heap}
/-- A list of exact numbers, in units of 2^-K. -/
def NumL (K : Nat) (h : Heap) (p : Option Addr) (vs : List Int) : Prop :=
  vs = [] ∨ ∃ b o cs, p = some ⟨b, o, none⟩ ∧ Own h b cs ∧ ∀ i (hi : i < vs.length), ∃ neg q n c e, cs[o + i * 3]? = some (.bool neg) ∧ cs[o + i * 3 + 1]? = some (.slice q n c) ∧ cs[o + i * 3 + 1 + 1]? = some (.int .i64 e) ∧ NumS K h neg q n e vs[i]
theorem NumL.ext {K : Nat} {h h' : Heap} {p : Option Addr} {vs : List Int} (H : NumL K h p vs) (f : Ext h h') : NumL K h' p vs := by
  rcases H with H | ⟨b, o, cs, h1, h2, h3⟩
  · exact .inl H
  · exact .inr ⟨b, o, cs, h1, h2.ext f, fun i hi => let ⟨neg, q, n, c, e, a1, a2, a3, a4⟩ := h3 i hi; ⟨neg, q, n, c, e, a1, a2, a3, a4.ext f⟩⟩
/-- An exact number as it is reckoned with: where its big.Int lies, the Int's words; m times 2^e. -/
structure Ex where
  r : Nat
  q : Nat
  m : Int
  e : Int
def ExE (K : Nat) (h : Heap) (x : Ex) (v : Int) : Prop := IntAt h x.r x.q x.m ∧ 0 ≤ x.e + (K : Int) ∧ x.e ≤ 1048576 ∧ v = x.m * 2 ^ (x.e + (K : Int)).toNat ∧ (x.m = 0 ∨ x.m.natAbs % 2 = 1)
def exApart (x y : Ex) : Prop := x.r < y.r ∧ x.q < y.r ∧ x.r < y.q ∧ x.q < y.q
structure ExL (K : Nat) (h : Heap) (b : Nat) (xs : List Ex) (vs : List Int) : Prop where
  len : xs.length = vs.length
  own : ∃ cs, Own h b cs ∧ ∀ i (hi : i < xs.length), cs[i * 2]? = some (.pointer (some ⟨xs[i].r, 0, none⟩)) ∧ cs[i * 2 + 1]? = some (.int .i64 xs[i].e)
  at_ : ∀ i (hi : i < xs.length) (hv : i < vs.length), ExE K h xs[i] vs[i] ∧ b < xs[i].r ∧ b < xs[i].q
  apart : ∀ i j (hij : i < j) (hj : j < xs.length), exApart (xs[i]'(by omega)) xs[j]
theorem ExE.ext {K : Nat} {h h' : Heap} {x : Ex} {v : Int} (H : ExE K h x v) (f : Ext h h') : ExE K h' x v := ⟨H.1.ext f, H.2⟩
theorem ExL.ext {K : Nat} {h h' : Heap} {b : Nat} {xs : List Ex} {vs : List Int} (H : ExL K h b xs vs) (f : Ext h h') : ExL K h' b xs vs :=
  ⟨H.len, let ⟨cs, a, b⟩ := H.own; ⟨cs, a.ext f, b⟩, fun i hi hv => ⟨(H.at_ i hi hv).1.ext f, (H.at_ i hi hv).2⟩, H.apart⟩
def OpenI (K : Nat) (h : Heap) (r2 n c : Nat) (p : Option Addr) (vs : List Int) (m : Nat) (l : List Value) (h' : Heap) : Prop :=
  match l with
  | [.slice a an ac, .slice b bn bc, .int _ nn, .int _ i] => a = some (⟨r2, 0, none⟩ : Addr) ∧ n = an ∧ n = ac ∧ p = b ∧ n = bn ∧ c = bc ∧ nn = (n : Int) ∧ ∃ (j : Nat) (xs : List Ex), i = (j : Int) ∧ j ≤ n ∧ m = n - j ∧ xs.length = j ∧ Ext h h' ∧
      (∃ cs, Own h' r2 cs ∧ cs.size = n * 2 ∧ ∀ i (hi : i < xs.length), cs[i * 2]? = some (.pointer (some ⟨xs[i].r, 0, none⟩)) ∧ cs[i * 2 + 1]? = some (.int .i64 xs[i].e)) ∧
      (∀ i (hi : i < xs.length) (hv : i < vs.length), ExE K h' xs[i] vs[i] ∧ r2 < xs[i].r ∧ r2 < xs[i].q) ∧ ∀ i j (hij : i < j) (hj : j < xs.length), exApart (xs[i]'(by omega)) xs[j]
  | _ => False
/-- dyadic.open, of valid ones. -/
theorem K67 {p : Option Addr} {n c K : Nat} {vs : List Int} (hx : NumL K h p vs) (hn : vs.length = n) (hl : n ≤ 1099511627776)
    (H : ∀ xs h', Ext h h' → ExL K h' h.size xs vs → R (.returned (.slice (some ⟨h.size, 0, none⟩) n n)) h') : Ent Tryz.prog B 54 #[.slice p n c] R h := by
  refine F67_ok _ _ _ ⟨by omega, by omega, by omega, by omega, alK fun r2 h3 e2 f2 o2 z2 => ?_⟩
  rw [Int.toNat_natCast] at *
  refine ⟨OpenI K h r2 n c p vs, n, ⟨rfl, rfl, rfl, rfl, rfl, rfl, rfl, 0, [], rfl, by omega, rfl, rfl, f2, ⟨_, o2, by simp [mkCells], fun i hi => absurd hi (by simp)⟩, fun i hi => absurd hi (by simp), fun i j hij hj => absurd hj (by simp)⟩, ?_⟩
  rintro m h' _ _ _ _ _ _ _ _ ⟨rfl, rfl, rfl, rfl, rfl, rfl, rfl, j, xs, rfl, hj, rfl, hxl, f, ⟨cs2, O2, hcs, hcell⟩, hE, hA⟩ _
  refine ⟨fun e => ?_, fun e => ?_⟩
  · have hjn : j < n := by simp at e; omega
    rcases hx with hx | ⟨b, o, cs, rfl, O, E⟩
    · rw [hx] at hn; simp at hn; omega
    obtain ⟨neg, q, m1, c1, e1, a1, a2, a3, N⟩ := E j (by omega)
    have O' := O.ext f
    refine ⟨b, o, rfl, by omega, by omega, b, _, rfl, _, by rw [Int.toNat_natCast, O'.cell]; exact a1, _, _, _, by rw [Int.toNat_natCast, O'.cell]; exact a2, _, by rw [Int.toNat_natCast, O'.cell]; exact a3, ?_⟩
    refine alK fun r19 h20 e19 f19 o19 z19 => ⟨r19, 0, rfl, o19.stC (by simp) rfl fun oa fa => oa.stC (by simp) rfl fun ob fb => ob.stC (by simp) rfl fun oc fc => ⟨r19, 0, rfl, _, oc.cell _, _, _, _, oc.cell _, _, oc.cell _, ?_⟩⟩
    have fabc := Fr.trans (S := fun x => x = r19) (Fr.trans (S := fun x => x = r19) fa fb fun _ _ e => e) fc fun _ _ e => e
    have F25 : Ext h' _ := Fr.trans f19 fabc fun x hx e => by omega
    obtain ⟨M, N1, N2, N3⟩ := N
    refine K129 ((N1.ext f).ext F25) fun h32 f32 => ⟨_, rfl, fun e => (by cases e), fun _ => ?_⟩
    have oc' := oc.ext f32
    have F32 : Ext h' h32 := Ext.trans F25 f32
    refine ⟨r19, 0, rfl, r19, 0, rfl, _, oc'.cell _, r19, 0, rfl, r19, 0 + 1, rfl, _, _, _, oc'.cell _, r19, 0, rfl, r19, 0 + 2, rfl, _, oc'.cell _, ?_⟩
    refine K130 ((N1.d.ext f).ext F32) (by have := N1.le; omega) fun rz qz h52 f52 hrz hqz I52 => ⟨_, rfl, same1 oc' f52 id, r2, 0, rfl, by omega, by omega, r2, _, rfl, ?_⟩
    rw [Int.toNat_natCast, Nat.zero_add]
    have F52 : Ext h' h52 := Ext.trans F32 f52
    have l2 := O2.lt
    have s32 := F32.size
    refine (O2.ext F52).stC (by omega) rfl fun og fg => og.stC (by simp; omega) rfl fun oh fh => ?_
    have fgh := Fr.trans (S := fun x => x = r2) fg fh fun _ _ e => e
    have F : Ext h _ := Fr.trans (Ext.trans f F52) fgh fun x hx e => by omega
    refine ⟨n - (j + 1), by omega, rfl, rfl, rfl, rfl, rfl, rfl, rfl, j + 1, xs ++ [⟨rz, qz, if neg then -(val B30 (digs B30 M) : Int) else (val B30 (digs B30 M) : Int), e1⟩], by rw [i64_in (by omega) (by omega)]; rfl, by omega, rfl, by simp [hxl], F, ⟨_, oh, by simp [hcs], fun i hi => ?_⟩, fun i hi hv => ?_, fun i k hik hk => ?_⟩
    · rw [List.length_append, List.length_singleton] at hi
      by_cases hij : i < xs.length
      · rw [List.getElem_append_left hij, Array.getElem?_setIfInBounds_ne (by omega), Array.getElem?_setIfInBounds_ne (by omega), Array.getElem?_setIfInBounds_ne (by omega), Array.getElem?_setIfInBounds_ne (by omega)]
        exact hcell i hij
      · have : i = xs.length := by omega
        subst this
        simp only [List.getElem_concat_length]
        subst hxl
        refine ⟨?_, ?_⟩
        · rw [Array.getElem?_setIfInBounds_ne (by omega), Array.getElem?_setIfInBounds_self_of_lt (by omega)]
        · rw [Array.getElem?_setIfInBounds_self_of_lt (by simp; omega)]
    · rw [List.length_append, List.length_singleton] at hi
      by_cases hij : i < xs.length
      · obtain ⟨⟨p1, p2⟩, p3, p4⟩ := hE i hij hv
        simp only [List.getElem_append_left hij]
        exact ⟨⟨(p1.ext F52).fr fgh (show ¬ xs[i].r = r2 by omega) (show ¬ xs[i].q = r2 by omega), p2⟩, p3, p4⟩
      · have : i = xs.length := by omega
        subst this
        simp only [List.getElem_concat_length]
        subst hxl
        refine ⟨⟨I52.fr fgh (show ¬ rz = r2 by omega) (show ¬ qz = r2 by omega), N2, ?_, ?_, ?_⟩, by show r2 < rz; omega, by show r2 < qz; omega⟩
        · show e1 ≤ 1048576
          by_cases h0 : m1 = 0
          · have := (N1.zero h0).2; omega
          · have := (N1.pos (by omega)).2; omega
        · show vs[xs.length] = (if neg then -(val B30 (digs B30 M) : Int) else (val B30 (digs B30 M) : Int)) * 2 ^ (e1 + (K : Int)).toNat
          rw [N3, digs_val (by decide)]
          unfold Ieee.signed
          rw [Nat.shiftLeft_eq]
          have h1 : (2 : Int) ^ (e1 + (K : Int)).toNat = ((2 ^ (e1 + (K : Int)).toNat : Nat) : Int) := by rw [Int.natCast_pow]; rfl
          rw [h1]
          cases neg
          · simp only [Bool.false_eq_true, if_false, Int.natCast_mul]
          · simp only [if_true, Int.natCast_mul, Int.neg_mul]
        · have hnv : (if neg then -(val B30 (digs B30 M) : Int) else (val B30 (digs B30 M) : Int)).natAbs = val B30 (digs B30 M) := by cases neg <;> simp
          show (if neg then -(val B30 (digs B30 M) : Int) else (val B30 (digs B30 M) : Int)) = 0 ∨ (if neg then -(val B30 (digs B30 M) : Int) else (val B30 (digs B30 M) : Int)).natAbs % 2 = 1
          rw [hnv]
          by_cases h0 : m1 = 0
          · left
            have hl := N1.d.len
            have : digs B30 M = [] := List.eq_nil_of_length_eq_zero (by omega)
            rw [this]
            cases neg <;> rfl
          · exact .inr (N1.pos (by omega)).1
    · rw [List.length_append, List.length_singleton] at hk
      by_cases hkx : k < xs.length
      · simp only [List.getElem_append_left hkx, List.getElem_append_left (show i < xs.length by omega)]
        exact hA i k hik hkx
      · have : k = xs.length := by omega
        subst this
        simp only [List.getElem_concat_length, List.getElem_append_left (show i < xs.length by omega)]
        obtain ⟨⟨p1, p2⟩, p3, p4⟩ := hE i (by omega) (by omega)
        have := p1.lt
        have := p1.lq
        unfold exApart
        show _ < rz ∧ _ < rz ∧ _ < qz ∧ _ < qz
        omega
  · have hjn : j = n := by simp at e; omega
    subst hjn
    subst e2
    exact H xs _ f ⟨by omega, ⟨cs2, O2, hcell⟩, hE, hA⟩
/-- A sum of one and of another one, shifted. -/
theorem addSh {g : Heap} {u w r6 rA qA rB qB k : Nat} {mA mB eu sh : Int} {cu cw : Array Value} {x0 x1 : Value} {J : Heap → Prop}
    (Ou : Own g u cu) (Ow : Own g w cw) (O6 : Own g r6 #[x0, x1]) (IA : IntAt g rA qA mA) (IB : IntAt g rB qB mB) (hsh : sh = (k : Int)) (hk : k < 4294967296)
    (bA : bl mA.natAbs ≤ 1000000) (bB : bl mB.natAbs ≤ 1000000) (bS : bl (mB * 2 ^ k).natAbs ≤ 1000000)
    (H : ∀ r q g', Fr (fun x => x = r6) g g' → Own g' r6 #[.pointer (some ⟨r, 0, none⟩), .int .i64 eu] → IntAt g' r q (mA + mB * 2 ^ k) → g.size ≤ r → g.size ≤ q → J g') :
    (alW g (.cells #[.bool false, .slice none 0 0] 148) fun r111 h112 =>
 sameCells g h112 u (0 + 1) 1 ∧ sameCells g h112 u (0 + 1) 1 ∧ sameCells g h112 w (0 + 1) 1 ∧ sameCells g h112 w 0 1 ∧ sameCells g h112 u 0 1 ∧ alW h112 (.cells #[.bool false, .slice none 0 0] 148) fun r113 h114 =>
 sameCells h112 h114 u (0 + 1) 1 ∧ sameCells h112 h114 u (0 + 1) 1 ∧ sameCells h112 h114 w (0 + 1) 1 ∧ sameCells h112 h114 w 0 1 ∧ sameCells h112 h114 u 0 1 ∧ Ent Tryz.prog B 106 #[.pointer (some ⟨r113, 0, none⟩), .pointer (some ⟨rB, 0, none⟩), .int .u64 sh] (retE (fun v115 h116 => ∃ x119, v115 = .pointer x119 ∧
 sameCells h114 h116 u (0 + 1) 1 ∧ sameCells h114 h116 u 0 1 ∧ Ent Tryz.prog B 105 #[.pointer (some ⟨r111, 0, none⟩), .pointer (some ⟨rA, 0, none⟩), .pointer x119] (retE (fun v120 h121 => ∃ x124, v120 = .pointer x124 ∧
 sameCells h116 h121 u (0 + 1) 1 ∧ isP (some ⟨r6, 0, none⟩) fun b125 o126 => stC h121 b125 o126 (.pointer x124) fun h127 =>
 stC h127 b125 (o126 + 1) (.int .i64 eu) fun h128 => J h128)
 (fun _ _ => False)) h116)
 (fun _ _ => False)) h114) ∧
(alW g (.cells #[.bool false, .slice none 0 0] 148) fun r143 h144 =>
 sameCells g h144 u (0 + 1) 1 ∧ sameCells g h144 u (0 + 1) 1 ∧ sameCells g h144 w (0 + 1) 1 ∧ sameCells g h144 w 0 1 ∧ sameCells g h144 u 0 1 ∧ (alW h144 (.cells #[.bool false, .slice none 0 0] 148) fun r145 h146 =>
 sameCells h144 h146 u (0 + 1) 1 ∧ sameCells h144 h146 u (0 + 1) 1 ∧ sameCells h144 h146 w (0 + 1) 1 ∧ sameCells h144 h146 w 0 1 ∧ sameCells h144 h146 u 0 1 ∧ Ent Tryz.prog B 106 #[.pointer (some ⟨r143, 0, none⟩), .pointer (some ⟨rB, 0, none⟩), .int .u64 sh] (retE (fun v147 h148 => ∃ x151, v147 = .pointer x151 ∧
 sameCells h146 h148 u (0 + 1) 1 ∧ sameCells h146 h148 u 0 1 ∧ Ent Tryz.prog B 105 #[.pointer (some ⟨r145, 0, none⟩), .pointer (some ⟨rA, 0, none⟩), .pointer x151] (retE (fun v152 h153 => ∃ x156, v152 = .pointer x156 ∧
 sameCells h148 h153 u (0 + 1) 1 ∧ isP (some ⟨r6, 0, none⟩) fun b157 o158 => stC h153 b157 o158 (.pointer x156) fun h159 =>
 stC h159 b157 (o158 + 1) (.int .i64 eu) fun h160 => J h160)
 (fun _ _ => False)) h148)
 (fun _ _ => False)) h146) ∧
(Ent Tryz.prog B 106 #[.pointer (some ⟨r143, 0, none⟩), .pointer (some ⟨rB, 0, none⟩), .int .u64 sh] (retE (fun v161 h162 => ∃ x165, v161 = .pointer x165 ∧
 sameCells h144 h162 u (0 + 1) 1 ∧ sameCells h144 h162 u 0 1 ∧ alW h162 (.cells #[.bool false, .slice none 0 0] 148) fun r166 h167 =>
 sameCells h162 h167 u (0 + 1) 1 ∧ sameCells h162 h167 u (0 + 1) 1 ∧ sameCells h162 h167 w (0 + 1) 1 ∧ sameCells h162 h167 w 0 1 ∧ sameCells h162 h167 u 0 1 ∧ Ent Tryz.prog B 105 #[.pointer (some ⟨r166, 0, none⟩), .pointer (some ⟨rA, 0, none⟩), .pointer x165] (retE (fun v168 h169 => ∃ x172, v168 = .pointer x172 ∧
 sameCells h167 h169 u (0 + 1) 1 ∧ isP (some ⟨r6, 0, none⟩) fun b173 o174 => stC h169 b173 o174 (.pointer x172) fun h175 =>
 stC h175 b173 (o174 + 1) (.int .i64 eu) fun h176 => J h176)
 (fun _ _ => False)) h167)
 (fun _ _ => False)) h144)) := by
  subst hsh
  have lu := Ou.lt
  have lw := Ow.lt
  have l6 := O6.lt
  have lA := IA.lt
  have lAq := IA.lq
  have lB := IB.lt
  have lBq := IB.lq
  have nn : ∀ {z x : Nat}, x ≠ z → ¬ (x = z ∨ False) := fun h1 h2 => by rcases h2 with h2 | h2; exact h1 h2; exact h2
  have fin : ∀ {r q : Nat} {g1 g2 : Heap}, Ext g g1 → Fr (fun x => x = r ∨ False) g1 g2 → g.size ≤ r → (q = r ∨ False ∨ g1.size ≤ q) → IntAt g2 r q (mA + mB * 2 ^ k) →
      isP (some ⟨r6, 0, none⟩) fun b o => stC g2 b o (.pointer (some ⟨r, 0, none⟩)) fun h127 => stC h127 b (o + 1) (.int .i64 eu) fun h128 => J h128 := by
    intro r q g1 g2 f1 f2 hr hq I
    have s1 := f1.size
    have F : Ext g g2 := Fr.trans f1 f2 fun x hx e => nn (show x ≠ r by omega) e
    have hq' : g.size ≤ q := by rcases hq with e | e | e; omega; exact e.elim; omega
    refine ⟨r6, 0, rfl, (O6.ext F).stC (by simp) rfl fun oa fa => oa.stC (by simp) rfl fun ob fb => ?_⟩
    have fab := Fr.trans (S := fun x => x = r6) fa fb fun _ _ e => e
    exact H r q _ (Fr.trans (Ext.to F) fab fun _ _ e => e) ob (I.fr fab (show ¬ r = r6 by omega) (show ¬ q = r6 by omega)) hr hq'
  refine ⟨?_, alK fun r1 g1 e1 f1 o1 z1 => ⟨same1 Ou f1 id, same1 Ou f1 id, same1 Ow f1 id, same1 Ow f1 id, same1 Ou f1 id, ?_, ?_⟩⟩
  · refine alK fun r1 g1 e1 f1 o1 z1 => ⟨same1 Ou f1 id, same1 Ou f1 id, same1 Ow f1 id, same1 Ow f1 id, same1 Ou f1 id, alK fun r3 g3 e3 f3 o3 z3 => ⟨same1 (Ou.ext f1) f3 id, same1 (Ou.ext f1) f3 id, same1 (Ow.ext f1) f3 id, same1 (Ow.ext f1) f3 id, same1 (Ou.ext f1) f3 id, ?_⟩⟩
    have F3 := Ext.trans f1 f3
    have s3 := F3.size
    refine K128f o3 (IB.ext F3) (by omega) bB hk fun q4 g4 f4 d4 I4 => ⟨_, rfl, same1 (Ou.ext F3) f4 (nn (by omega)), same1 (Ou.ext F3) f4 (nn (by omega)), ?_⟩
    have F4 : Ext g g4 := Fr.trans F3 f4 fun x hx e => nn (show x ≠ r3 by omega) e
    refine K127f ((o1.ext f3).fr f4 (nn (by omega))) (IA.ext F4) I4 (by omega) (by omega) bA bS fun q5 g5 f5 d5 I5 => ⟨_, rfl, same1 (Ou.ext F4) f5 (nn (by omega)), ?_⟩
    exact fin F4 f5 (by omega) d5 I5
  · refine alK fun r3 g3 e3 f3 o3 z3 => ⟨same1 (Ou.ext f1) f3 id, same1 (Ou.ext f1) f3 id, same1 (Ow.ext f1) f3 id, same1 (Ow.ext f1) f3 id, same1 (Ou.ext f1) f3 id, ?_⟩
    have F3 := Ext.trans f1 f3
    have s3 := F3.size
    refine K128f (Own.ext o1 f3) (IB.ext F3) (by omega) bB hk fun q4 g4 f4 d4 I4 => ⟨_, rfl, same1 (Ou.ext F3) f4 (nn (by omega)), same1 (Ou.ext F3) f4 (nn (by omega)), ?_⟩
    have F4 : Ext g g4 := Fr.trans F3 f4 fun x hx e => nn (show x ≠ r1 by omega) e
    refine K127f (Own.fr o3 f4 (nn (by omega))) (IA.ext F4) I4 (by omega) (by omega) bA bS fun q5 g5 f5 d5 I5 => ⟨_, rfl, same1 (Ou.ext F4) f5 (nn (by omega)), ?_⟩
    exact fin F4 f5 (by omega) d5 I5
  · have s1 := f1.size
    refine K128f o1 (IB.ext f1) (by omega) bB hk fun q4 g4 f4 d4 I4 => ⟨_, rfl, same1 (Ou.ext f1) f4 (nn (by omega)), same1 (Ou.ext f1) f4 (nn (by omega)), ?_⟩
    have F4 : Ext g g4 := Fr.trans f1 f4 fun x hx e => nn (show x ≠ r1 by omega) e
    refine alK fun r3 g3 e3 f3 o3 z3 => ⟨same1 (Ou.ext F4) f3 id, same1 (Ou.ext F4) f3 id, same1 (Ow.ext F4) f3 id, same1 (Ow.ext F4) f3 id, same1 (Ou.ext F4) f3 id, ?_⟩
    have F3 := Ext.trans F4 f3
    have s4 := F4.size
    have l4 := I4.lt
    refine K127f o3 (IA.ext F3) (I4.ext f3) (by omega) (by omega) bA bS fun q5 g5 f5 d5 I5 => ⟨_, rfl, same1 (Ou.ext F3) f5 (nn (by omega)), ?_⟩
    exact fin F3 f5 (by omega) d5 I5
end Go.Proofs
namespace Go.Proofs
open Go Go.Eng
variable {B : World} {R : Ending → Heap → Prop} {h : Heap}
def PlusI (K : Nat) (h : Heap) (r2 r6 b n c : Nat) (vs : List Int) (m : Nat) (l : List Value) (h' : Heap) : Prop :=
  match l with
  | [.pointer a2, .pointer a6, .slice p pn pc, .int _ nn, .int _ i] => a2 = some (⟨r2, 0, none⟩ : Addr) ∧ a6 = some (⟨r6, 0, none⟩ : Addr) ∧ p = some (⟨b, 0, none⟩ : Addr) ∧ n = pn ∧ c = pc ∧ nn = (n : Int) ∧
      ∃ (j rs qs : Nat) (ms es : Int), i = (j : Int) ∧ j ≤ n ∧ m = n - j ∧ Ext h h' ∧ Own h' r2 #[.pointer none, .int .i64 0] ∧ Own h' r6 #[.pointer (some ⟨rs, 0, none⟩), .int .i64 es] ∧ IntAt h' rs qs ms ∧
        rs ≠ r6 ∧ rs ≠ r2 ∧ qs ≠ r6 ∧ qs ≠ r2 ∧ 0 ≤ es + (K : Int) ∧ es ≤ 1048576 ∧ (vs.take j).sum = ms * 2 ^ (es + (K : Int)).toNat
  | _ => False
theorem bl_part {m : Int} {k : Nat} {v : Int} {L : Nat} (hv : v = m * 2 ^ k) (hb : bl v.natAbs ≤ L) : bl m.natAbs ≤ L := by
  have : v.natAbs = m.natAbs * 2 ^ k := by rw [hv, abs_val]
  have hp : 0 < 2 ^ k := Nat.pow_pos (by decide)
  exact Nat.le_trans (bl_mono (by rw [this]; exact Nat.le_mul_of_pos_right _ hp)) hb
theorem pow_split {m : Int} {a b : Nat} : m * 2 ^ (a + b) = m * 2 ^ a * 2 ^ b := by rw [Int.pow_add, Int.mul_assoc]
/-- dyadic.plus. -/
theorem K66 {b n c K : Nat} {xs : List Ex} {vs : List Int} (hx : ExL K h b xs vs) (hn : vs.length = n) (hl : n ≤ 1099511627776) (hK : K ≤ 1048576)
    (hS : ∀ i, i ≤ n → bl ((vs.take i).sum).natAbs ≤ 900000) (hV : ∀ v ∈ vs, bl v.natAbs ≤ 900000)
    (H : ∀ r q m e h', Ext h h' → IntAt h' r q m → 0 ≤ e + (K : Int) → vs.sum = m * 2 ^ (e + (K : Int)).toNat → R (.returned (.agg #[.pointer (some ⟨r, 0, none⟩), .int .i64 e])) h') :
    Ent Tryz.prog B 57 #[.slice (some ⟨b, 0, none⟩) n c] R h := by
  refine F66_ok _ _ _ (alK fun r2 h3 e2 f2 o2 z2 => alK fun r4 h5 e4 f4 o4 z4 => alK fun r6 h7 e6 f6 o6 z6 => ⟨r6, 0, rfl, o6.stC (by simp) rfl fun oa fa => oa.stC (by simp) rfl fun ob fb => ?_⟩)
  have fab := Fr.trans (S := fun x => x = r6) fa fb fun _ _ e => e
  have F0 : Ext h _ := Fr.trans (Ext.trans f2 (Ext.trans f4 f6)) fab fun x hx e => by omega
  have I0 : IntAt _ r4 r4 0 := (ZeroAt.int (Own.ext o4 f6)).fr fab (show ¬ r4 = r6 by omega) (show ¬ r4 = r6 by omega)
  have hxl := hx.len
  refine ⟨PlusI K h r2 r6 b n c vs, n, ⟨rfl, rfl, rfl, rfl, rfl, rfl, 0, r4, r4, 0, 0, rfl, by omega, rfl, F0, ((o2.ext f4).ext f6).fr fab (show ¬ r2 = r6 by omega), ob, I0, by omega, by omega, by omega, by omega, by omega, by omega, by simp⟩, ?_⟩
  rintro m h' _ _ _ _ _ _ _ ⟨rfl, rfl, rfl, rfl, rfl, rfl, j, rs, qs, ms, es, rfl, hj, rfl, F, O2, O6, Is, n1, n2, n3, n4, he, he2, hsum⟩ _
  refine ⟨fun e => ?_, fun e => ?_⟩
  · have hjn : j < n := by simp at e; omega
    have next : ∀ (rs' qs' : Nat) (ms' es' : Int) (hh : Heap), Ext h hh → Own hh r2 #[.pointer none, .int .i64 0] → Own hh r6 #[.pointer (some ⟨rs', 0, none⟩), .int .i64 es'] → IntAt hh rs' qs' ms' → rs' ≠ r6 → rs' ≠ r2 → qs' ≠ r6 → qs' ≠ r2 →
        0 ≤ es' + (K : Int) → es' ≤ 1048576 → (vs.take j).sum + vs[j] = ms' * 2 ^ (es' + (K : Int)).toNat →
        ∃ m50, m50 < n - j ∧ PlusI K h r2 r6 b n c vs m50 [.pointer (some ⟨r2, 0, none⟩), .pointer (some ⟨r6, 0, none⟩), .slice (some ⟨b, 0, none⟩) n c, .int .i64 (n : Int), .int .i64 (IntKind.i64.wrap ((j : Int) + (1 : Int)))] hh := by
      intro rs' qs' ms' es' hh a1 a2 a3 a4 a5 a6 a7 a8 a9 a10 a11
      refine ⟨n - (j + 1), by omega, rfl, rfl, rfl, rfl, rfl, rfl, j + 1, rs', qs', ms', es', by rw [i64_in (by omega) (by omega)]; rfl, by omega, rfl, a1, a2, a3, a4, a5, a6, a7, a8, a9, a10, ?_⟩
      rw [List.take_succ_eq_append_getElem (by omega), List.sum_append, List.sum_singleton]; exact a11
    obtain ⟨cs, Ob, hcell⟩ := hx.own
    obtain ⟨c1, c2⟩ := hcell j (by omega)
    obtain ⟨⟨Ix, x1, x2, x3, _⟩, x4, x5⟩ := hx.at_ j (by omega) (by omega)
    generalize xs[j]'(by omega) = X at *
    have hvj : bl vs[j].natAbs ≤ 900000 := hV _ (List.getElem_mem _)
    have hsj := hS j (by omega)
    have hsj1 := hS (j + 1) (by omega)
    rw [List.take_succ_eq_append_getElem (by omega), List.sum_append, List.sum_singleton] at hsj1
    have lX := Ix.lt
    have lXq := Ix.lq
    have Ob' := Ob.ext F
    have l2 := O2.lt
    have l6 := O6.lt
    refine ⟨b, 0, rfl, by omega, by omega, b, _, rfl, _, by rw [Int.toNat_natCast, Nat.zero_add, Ob'.cell]; exact c1, _, by rw [Int.toNat_natCast, Nat.zero_add, Ob'.cell]; exact c2, ?_⟩
    refine alK fun r27 h28 e27 f27 o27 z27 => ⟨r27, 0, rfl, o27.stC (by simp) rfl fun ob fb => ob.stC (by simp) rfl fun oc fc => ⟨r27, 0, rfl, r27, 0, rfl, _, oc.cell _, ?_⟩⟩
    have fbc := Fr.trans (S := fun x => x = r27) fb fc fun _ _ e => e
    have F32 : Ext h' _ := Fr.trans f27 fbc fun x hx e => by omega
    have FX := Ext.trans F F32
    refine K75 (Ix.ext FX) ⟨_, rfl, fun e0 => ?_, fun e0 => ?_⟩
    · have hm : X.m = 0 := Int.sign_eq_zero_iff_zero.1 (of_decide_eq_true e0)
      exact next rs qs ms es _ FX (O2.ext F32) (O6.ext F32) (Is.ext F32) n1 n2 n3 n4 he he2 (by rw [x3, hm, Int.zero_mul, Int.add_zero, hsum])
    · refine ⟨r6, 0, rfl, r6, 0, rfl, _, (O6.ext F32).cell _, K75 (Is.ext F32) ⟨_, rfl, fun e1 => ?_, fun e1 => ?_⟩⟩
      · have hm : ms = 0 := Int.sign_eq_zero_iff_zero.1 (of_decide_eq_true e1)
        refine ⟨r27, 0, rfl, _, oc.cell _, _, oc.cell _, r6, 0, rfl, (O6.ext F32).stC (by simp) rfl fun od fd => od.stC (by simp) rfl fun oe fe => ?_⟩
        have fde := Fr.trans (S := fun x => x = r6) fd fe fun _ _ e => e
        exact next X.r X.q X.m X.e _ (Fr.trans FX fde fun x hx e => by omega) ((O2.ext F32).fr fde (show ¬ r2 = r6 by omega)) oe ((Ix.ext FX).fr fde (show ¬ X.r = r6 by omega) (show ¬ X.q = r6 by omega)) (by omega) (by omega) (by omega) (by omega) x1 x2
          (by rw [hsum, hm, Int.zero_mul, Int.zero_add, x3])
      · have O6' := O6.ext F32
        refine ⟨r27, 0, rfl, r27, 0 + 1, rfl, _, oc.cell _, r6, 0, rfl, r6, 0 + 1, rfl, _, O6'.cell _, fun e2 => ?_, fun e2 => ?_⟩
        · have hle : es ≤ X.e := of_decide_eq_true e2
          refine ⟨r6, 0, rfl, r6, 0, rfl, _, O6'.cell _, r27, 0, rfl, r27, 0, rfl, _, oc.cell _, r27, 0, rfl, r27, 0 + 1, rfl, _, oc.cell _, r6, 0, rfl, r6, 0 + 1, rfl, _, O6'.cell _, r6, 0, rfl, r6, 0 + 1, rfl, _, O6'.cell _, ?_⟩
          have ek : (X.e + (K : Int)).toNat = (X.e - es).toNat + (es + (K : Int)).toNat := by omega
          have hxv : vs[j] = X.m * 2 ^ (X.e - es).toNat * 2 ^ (es + (K : Int)).toNat := by rw [x3, ek, pow_split]
          refine addSh (k := (X.e - es).toNat) O6' oc O6' (Is.ext F32) (Ix.ext FX) ?_ (by omega) (by have := bl_part hsum hsj; omega) (by have := bl_part x3 hvj; omega) (by have := bl_part hxv hvj; omega) fun r q g' fg og Ig hr hq => ?_
          · rw [i64_in (by omega) (by omega)]
            have : X.e - es = ((X.e - es).toNat : Int) := by omega
            rw [this, Int.toNat_natCast]; exact wrap_u64_in (by omega) (by omega)
          · have sz := F32.size
            exact next r q _ es _ (Fr.trans FX fg fun x hx e => by omega) ((O2.ext F32).fr fg (show ¬ r2 = r6 by omega)) og Ig (by omega) (by omega) (by omega) (by omega) he he2 (by rw [hsum, hxv, Int.add_mul])
        · have hle : ¬ es ≤ X.e := of_decide_eq_false e2
          refine ⟨r27, 0, rfl, r27, 0, rfl, _, oc.cell _, r6, 0, rfl, r6, 0, rfl, _, O6'.cell _, r6, 0, rfl, r6, 0 + 1, rfl, _, O6'.cell _, r27, 0, rfl, r27, 0 + 1, rfl, _, oc.cell _, r27, 0, rfl, r27, 0 + 1, rfl, _, oc.cell _, ?_⟩
          have ek : (es + (K : Int)).toNat = (es - X.e).toNat + (X.e + (K : Int)).toNat := by omega
          have hsv : (vs.take j).sum = ms * 2 ^ (es - X.e).toNat * 2 ^ (X.e + (K : Int)).toNat := by rw [hsum, ek, pow_split]
          refine addSh (k := (es - X.e).toNat) oc O6' O6' (Ix.ext FX) (Is.ext F32) ?_ (by omega) (by have := bl_part x3 hvj; omega) (by have := bl_part hsum hsj; omega) (by have := bl_part hsv hsj; omega) fun r q g' fg og Ig hr hq => ?_
          · rw [i64_in (by omega) (by omega)]
            have : es - X.e = ((es - X.e).toNat : Int) := by omega
            rw [this, Int.toNat_natCast]; exact wrap_u64_in (by omega) (by omega)
          · have sz := F32.size
            exact next r q _ X.e _ (Fr.trans FX fg fun x hx e => by omega) ((O2.ext F32).fr fg (show ¬ r2 = r6 by omega)) og Ig (by omega) (by omega) (by omega) (by omega) x1 x2 (by rw [hsv, x3, Int.add_mul, Int.add_comm])
  · have hjn : j = n := by simp at e; omega
    refine ⟨r6, 0, rfl, _, O6.cell _, _, O6.cell _, r2, 0, rfl, O2.stC (by simp) rfl fun od fd => od.stC (by simp) rfl fun oe fe => ⟨r2, 0, rfl, _, oe.cell _, _, oe.cell _, ?_⟩⟩
    have fde := Fr.trans (S := fun x => x = r2) fd fe fun _ _ e => e
    refine H rs qs ms es _ (Fr.trans F fde fun x hx e => by omega) (Is.fr fde n2 n4) he ?_
    rw [← hsum, hjn, ← hn, List.take_length]
end Go.Proofs
