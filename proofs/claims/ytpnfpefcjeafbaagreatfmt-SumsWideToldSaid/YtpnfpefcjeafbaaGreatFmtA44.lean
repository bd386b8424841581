import Derived.Test.YtpnfpefcjeafbaaGreatFmtA40
import Derived.Test.YtpnfpefcjeafbaaGreatFmtA38
import Derived.Test.YtpnfpefcjeafbaaGreatFmtA37
import Derived.Test.YtpnfpefcjeafbaaGreatFmtA26
import Derived.Test.YtpnfpefcjeafbaaGreatFmtA09
import Derived.Test.YtpnfpefcjeafbaaGreatFmtA32
import Derived.WalkKit
import Derived.Test.YtpnfpefcjeafbaaGreatFmtA12
import Derived.Test.YtpnfpefcjeafbaaGreatFmtA43
import Derived.Test.YtpnfpefcjeafbaaGreatFmtA24
/- Here stand lemmas and contracts, in the order in which they are used. -/
set_option linter.unusedVariables false
set_option linter.unusedVariables false
/-! expansion.Parts. -/
namespace Go.Proofs
open Go Go.Eng
variable {B : World} {R : Ending → Heap → Prop} {h : Heap}
/-- An element appended to a list behind g: the list's block alone changes. -/
theorem apJ3 {g h : Heap} {p : Option Addr} {n c r e : Nat} {x : Int} {ws : List Int} {K : Option Addr → Nat → Nat → Heap → Prop} (L : Lj g h p n c ws) (hg : g.size ≤ h.size) (hn : n ≤ 1099511627776) (hx : Own h r #[.int .i64 x]) (hI : I64 x)
    (hk : ∀ q c' h', Lj g h' q (n + 1) c' (ws ++ [x]) → Fr (fun b => g.size ≤ b ∧ ∃ o, p = some (⟨b, o, none⟩ : Addr)) h h' → (∀ b o, q = some (⟨b, o, none⟩ : Addr) → (∃ o, p = some (⟨b, o, none⟩ : Addr)) ∨ h.size ≤ b) → K q (n + 1) c' h') : apW h p n c (some ⟨r, 0, none⟩) 1 1 8 e #[.int .i64 0] K := by
  have hr : Room h p c (fun b => g.size ≤ b ∧ ∃ o, p = some (⟨b, o, none⟩ : Addr)) := by
    rcases L.room with k | ⟨b, o, cs, k1, k2, k3, k4⟩
    · exact .inl k
    · exact .inr ⟨b, o, cs, k1, k2, k3, k4, o, k1⟩
  refine apJ L.sl hr L.len L.le hx (by decide) (fun hlt => ?_) (by omega) rfl (fun _ => L.pt) fun q c' h' s r le f => ?_
  · have := nsc_le hlt
    omega
  · rcases r with e | ⟨b, o, cs, e, e2, e3, e4⟩
    · omega
    · have hgb : g.size ≤ b := by rcases e4 with k | k; exact k.1; omega
      refine hk q c' h' ⟨s, by simp [L.len], .inr ⟨b, o, cs, e, e2, e3, hgb⟩, le, .inr ⟨b, o, e⟩, fun b' o' e' => ?_, fun y hy => ?_⟩ f fun b' o' e' => ?_
      · rw [e] at e'; cases e'; exact hgb
      · rcases List.mem_append.1 hy with hy | hy
        · exact L.all y hy
        · rw [List.mem_singleton.1 hy]; exact hI
      · rw [e] at e'; cases e'
        rcases e4 with k | k
        · exact .inl k.2
        · exact .inr k
end Go.Proofs
set_option linter.unusedVariables false
/-! sums.total.num. -/
namespace Go.Proofs
open Go Go.Eng
variable {B : World} {R : Ending → Heap → Prop} {h : Heap}
/-- nat.rsh by 0, where it is. -/
theorem K165z {px : Option Addr} {n xc vx : Nat} {S : Nat → Prop} (hz : Dst h px xc S) (hx : NatI h px n vx) (hxc : n ≤ xc) (h0 : 0 < vx) (H : NatK R h S vx) :
    Ent Tryz.prog B 104 #[.slice px n xc, .slice px n xc, .int .u64 (0 : Int)] R h := by
  obtain ⟨ws, s1, s2, s3, s4, s5⟩ := hx.ex
  rcases s1 with e | ⟨b, o, cs, hp, O, g⟩
  · subst e; simp [val] at s5; omega
  have hn : 0 < n := by
    rcases Nat.eq_zero_or_pos n with k | k
    · have : ws = [] := List.length_eq_zero_iff.1 (by omega)
      subst this; simp [val] at s5; omega
    · exact k
  have hK := H px n xc h Fr.rfl' hxc hx (hz.mono fun b hb => .inl hb)
  refine F165_ok _ _ _ _ _ _ _ ⟨fun _ => F199_ok _ _ _ _ _ _ ⟨fun _ => ⟨fun _ => ?_, fun e => absurd (of_decide_eq_false e) (by omega)⟩, fun e => absurd rfl (of_decide_eq_false e)⟩, fun e => absurd e (by decide)⟩
  refine ⟨b, o, hp, by decide, by omega, b, o, hp, by decide, by omega, .inr (.inr ⟨b, _, b, _, rfl, rfl, .inl ⟨rfl, ?_⟩⟩)⟩
  rw [decide_eq_true rfl]
  exact ⟨_, rfl, fun _ => hK, fun e => (by cases e)⟩
/-- Rsh of what is above 0 by 0, where it is. -/
theorem K122z {r q : Nat} {v : Nat} (hx : IntAt h r q v) (hb : bl v ≤ 1000000) (h0 : 0 < v) (H : IntK R h r (Rm r q) (v : Int)) :
    Ent Tryz.prog B 69 #[.pointer (some ⟨r, 0, none⟩), .pointer (some ⟨r, 0, none⟩), .int .u64 (0 : Int)] R h := by
  obtain ⟨p, n, c, h1, h2, h3, h4⟩ := hx.ex
  rw [Int.natAbs_natCast] at h2
  have hl := h2.len hb
  have hd : decide ((v : Int) < 0) = false := by simp
  rw [hd] at h1
  refine F122_ok _ _ _ (ldB h1 ⟨fun e => (by cases e), fun _ => ldS h1 (ldS h1 (K165z h4 h2 h3 h0 fun p' n' c' h' f1 f2 f3 f4 => ⟨_, _, _, rfl, ?_⟩))⟩)
  refine stS (h1.fr f1 rm_ne) fun h2' o2 fr2 => stB o2 fun h3' o3 fr3 => ?_
  exact intEnd f1 (Fr.trans fr2 fr3 fun _ _ e => e) h1.lt rm_ne f2 f3 f4 o3 (dec_nat _) H
/-- Rsh of what is above 0, where it is. -/
theorem K122a {r q s : Nat} {v : Nat} (hx : IntAt h r q v) (hb : bl v ≤ 1000000) (h0 : 0 < v) (hs : s < 4294967296) (H : IntK R h r (Rm r q) ((v / 2 ^ s : Nat) : Int)) :
    Ent Tryz.prog B 69 #[.pointer (some ⟨r, 0, none⟩), .pointer (some ⟨r, 0, none⟩), .int .u64 (s : Int)] R h := by
  rcases Nat.eq_zero_or_pos s with e | e
  · subst e
    rw [Nat.pow_zero, Nat.div_one] at H
    exact K122z hx hb h0 H
  · exact K122i hx hb e hs H
/-- What stands at the head of the loop of total.num. -/
structure TnI (h g : Heap) (a d x rm qm : Nat) (ng : Bool) (e : Int) (M m : Nat) (h' : Heap) : Prop where
  E : Ext h h'
  gs : g.size ≤ h'.size
  oa : Own h' a #[.bool false, .slice none 0 0, .int .i64 0]
  im : IntAt h' rm qm ((1073741823 : Nat) : Int)
  ex : ∃ (p : Option Addr) (n c : Nat) (l : List Nat) (q : Nat), Own h' x #[.bool ng, .slice p n c, .int .i64 e] ∧ IntAt h' d q (m : Int) ∧ q ≠ a ∧ q ≠ x ∧ q ≠ rm ∧ q ≠ qm ∧ h.size ≤ q ∧ Lj g h' p n c (l.map fun k : Nat => (k : Int)) ∧ Dig B30 l ∧ l ++ digs B30 m = digs B30 M ∧
    ∀ b o, p = some (⟨b, o, none⟩ : Addr) → b ≠ q
theorem sl_of_sj {h : Heap} {p : Option Addr} {l : List Nat} (H : Sj .i64 h p (l.map fun k : Nat => (k : Int))) : Sl .i64 h p l := by
  rcases H with e | ⟨b, o, cs, e1, e2, e3⟩
  · exact .inl (List.map_eq_nil_iff.1 e)
  · refine .inr ⟨b, o, cs, e1, e2, fun i hi => ?_⟩
    have := e3 i (by rw [List.length_map]; exact hi)
    rw [this, List.getElem_map]
/-- sums.total.num. -/
theorem K1373 {r q : Nat} {N : Int} (ht : TabH h) (T : IntAt h r q N) (hb : bl N.natAbs ≤ 8000)
    (H : ∀ ng p n c e h', Ext h h' → NumS 2148 h' ng p n e N → R (.returned (.agg #[.bool ng, .slice p n c, .int .i64 e])) h') : Ent Tryz.prog B 41 #[.pointer (some ⟨r, 0, none⟩)] R h := by
  refine F1373_ok _ (alK fun a h1 e1 f1 o1 z1 => ⟨r, 0, rfl, r, 0, rfl, K75 (T.ext f1) ⟨_, rfl, fun e => ?_, fun e => ?_⟩⟩)
  · have hN : N = 0 := Int.sign_eq_zero_iff_zero.1 (of_decide_eq_true e)
    subst hN
    refine ⟨a, 0, rfl, o1.stC (by simp) rfl fun oa fa => oa.stC (by simp) rfl fun ob fb => ob.stC (by simp) rfl fun oc fc => ⟨a, 0, rfl, _, oc.cell _, _, _, _, oc.cell _, _, oc.cell _, ?_⟩⟩
    have fabc := Fr.trans (S := fun x => x = a) (Fr.trans (S := fun x => x = a) fa fb fun _ _ e => e) fc fun _ _ e => e
    exact H false none 0 0 0 _ (Fr.trans f1 fabc fun x hx e => by omega) (numS_zero _ _)
  have hN : N ≠ 0 := fun k => by rw [k] at e; cases e
  have lr := T.lt
  have lq := T.lq
  refine ⟨r, 0, rfl, r, 0, rfl, K121 (T.ext f1) hN (by omega) (ht.ext f1) fun t k ek => ⟨_, rfl, alK fun d h2 e2 f2 o2 z2 => ⟨r, 0, rfl, r, 0, rfl, ?_⟩⟩⟩
  have hM : N.natAbs / 2 ^ t = 2 * k + 1 := by rw [ek, Nat.mul_div_cancel_left _ (Nat.pow_pos (by decide))]
  have hbt : bl N.natAbs = bl (2 * k + 1) + t := by rw [ek, Nat.mul_comm, bl_scale _ (by omega)]
  refine K123f o2 ((T.ext f1).ext f2) (by omega) (by omega) fun q3 h3 f3 d3 I3 => ⟨_, rfl, ?_⟩
  refine K122a I3 (by omega) (by omega) (by omega) fun q4 h4 f4 d4 I4 => ⟨_, rfl, r, 0, rfl, r, 0, rfl, ?_⟩
  rw [hM] at I4
  have s3 := f3.size
  have s4 := f4.size
  have hq3 : q3 = d ∨ h2.size ≤ q3 := by rcases d3 with e | e | e; exact .inl e; exact e.elim; exact .inr e
  have hq4 : q4 = d ∨ q4 = q3 ∨ h3.size ≤ q4 := by rcases d4 with e | e | e; exact .inl e; exact .inr (.inl e.1); exact .inr (.inr e)
  have n3 : ∀ x, x < d → ¬ (x = d ∨ False) := fun x hx e => by rcases e with e | e; omega; exact e
  have n4 : ∀ x, x < d → ¬ (x = d ∨ Rm d q3 x) := fun x hx e => by
    rcases e with e | e
    · omega
    · have := e.1; omega
  have E4 : Ext h h4 := Fr.trans (Fr.trans (Ext.trans f1 f2) f3 fun x hx e => n3 x (by omega) e) f4 fun x hx e => n4 x (by omega) e
  have T4 := T.ext E4
  have la := o1.lt
  have oa4 : Own h4 a #[.bool false, .slice none 0 0, .int .i64 0] := ((o1.ext f2).fr f3 (n3 _ (by omega))).fr f4 (n4 _ (by omega))
  refine K75 T4 ⟨_, rfl, alK fun x h5 e5 f5 o5 z5 => ⟨x, 0, rfl, o5.stC (by simp) rfl fun oa fa => oa.stC (by simp) rfl fun ob fb => ob.stC (by simp) rfl fun ox fc => ?_⟩⟩
  have fabc := Fr.trans (S := fun b => b = x) (Fr.trans (S := fun b => b = x) fa fb fun _ _ e => e) fc fun _ _ e => e
  have hng : decide (N.sign < (0 : Int)) = decide (N < 0) := by
    rw [decide_eq_decide]
    exact Int.sign_neg_iff
  have he : IntKind.i64.wrap ((-2148 : Int) + (IntKind.i64.wrap (t : Int))) = (t : Int) - 2148 := by
    rw [i64_in (x := (t : Int)) (by omega) (by omega), i64_in (by omega) (by omega)]; omega
  generalize setCell (setCell (setCell h5 _ _) _ _) _ _ = h6 at *
  have ox : Own h6 x #[.bool (decide (N < 0)), .slice none 0 0, .int .i64 ((t : Int) - 2148)] := by rw [← hng, ← he]; exact ox
  have E6 : Ext h4 h6 := Fr.trans f5 fabc fun b hx e => by omega
  have I6 := I4.ext E6
  have oa6 := oa4.ext E6
  have lI := I4.lq
  have lI2 := I4.lt
  have lx := ox.lt
  have s5 := f5.size
  have s6 := E6.size
  refine K120 (v := 1073741823) (by decide) (by decide) fun rm qm g f7 g1 g2 g3 I7 => ⟨_, rfl, ?_⟩
  have lqm := I7.lq
  have I8 := I6.ext f7
  have la4 := oa4.lt
  have hx6 : x < h6.size := lx
  have hxh : x = h4.size := e5
  have s7 := f7.size
  have hdl : (digs B30 (2 * k + 1)).length ≤ 2000 := digs_len (k := 30) rfl (by decide) (by omega)
  refine ⟨fun m vs h' => match vs with
    | [.pointer pa, .pointer pd, .pointer px, .pointer pm] => pa = some (⟨a, 0, none⟩ : Addr) ∧ pd = some (⟨d, 0, none⟩ : Addr) ∧ px = some (⟨x, 0, none⟩ : Addr) ∧ pm = some (⟨rm, 0, none⟩ : Addr) ∧ TnI h g a d x rm qm (decide (N < 0)) ((t : Int) - 2148) (2 * k + 1) m h'
    | _ => False, 2 * k + 1, ⟨rfl, rfl, rfl, rfl, Ext.trans (Ext.trans E4 E6) f7, Nat.le_refl _, oa6.ext f7, I7, none, 0, 0, [], q4, ox.ext f7, I8, by omega, by omega, by omega, by omega, by omega, Lj.nil, Dig.nil, rfl, fun b o e => (by cases e)⟩, ?_⟩
  rintro m k0 _ _ _ _ ⟨rfl, rfl, rfl, rfl, E, gs, oa, im, p, n, c, l, qd, Ox, I, c1, c2, c3, c4, c5, L, hdg, hdi, hpq⟩ _
  refine K75 I ⟨_, rfl, fun hpos => ?_, fun hend => ?_⟩
  · have hm0 : 0 < m := by
      rcases Nat.eq_zero_or_pos m with h | h
      · subst h; simp at hpos
      · exact h
    have hlen : l.length + (digs B30 m).length = (digs B30 (2 * k + 1)).length := by rw [← hdi, List.length_append]
    have hmle : m ≤ 2 * k + 1 := by
      have h1 := digs_val (b := B30) (by decide) (2 * k + 1)
      have h2 := digs_val (b := B30) (by decide) m
      rw [← hdi, val_append] at h1
      rw [h2] at h1
      have : m ≤ B30 ^ l.length * m := Nat.le_mul_of_pos_left _ (Nat.pow_pos (by decide))
      omega
    have hbm : bl m ≤ 8000 := Nat.le_trans (bl_mono hmle) (by omega)
    have hn := L.len
    rw [List.length_map] at hn
    refine ⟨x, 0, rfl, x, 0 + 1, rfl, p, n, c, (Ox.cell _).trans rfl, alK fun r1 k1 a1 b1 w1 y1 => ⟨same1 Ox b1 id, ?_⟩⟩
    refine K125f w1 (I.ext b1) (im.ext b1) (by omega) (by decide) hm0 (by decide) fun q2 k2 b2 d2 I2 => ⟨_, rfl, ?_⟩
    have l0 := oa.lt
    have l1 := Ox.lt
    have l2 := I.lt
    have l3 := I.lq
    have l4 := im.lt
    have l5 := im.lq
    have nn : ∀ b, b < k0.size → ¬ (b = r1 ∨ False) := fun b hb e => by rcases e with e | e; omega; exact e
    refine ⟨same1 (Ox.ext b1) b2 (nn _ l1), ?_⟩
    rw [and_mask30] at I2
    have hd30 : m % B30 < 1073741824 := Nat.mod_lt _ (by decide)
    refine K126 I2 (by rw [Int.natAbs_natCast]; omega) ⟨_, rfl, ?_⟩
    have Ox2 := (Ox.ext b1).fr b2 (nn _ l1)
    refine ⟨same1 (S := fun _ => False) Ox2 Fr.rfl' id, alK fun r3 k3 a3 b3 w3 y3 => ⟨same1 Ox2 b3 id, ?_⟩⟩
    have G : Ext k0 k3 := Fr.trans (Fr.trans b1 b2 fun b hb e => nn b hb e) b3 fun _ _ e => e
    have sG := G.size
    refine apJ3 (L.ext G) (by omega) (by omega) w3 (by unfold I64; omega) fun p' c' k4 L4 f8 hp' => ?_
    have nS : ∀ b, b < g.size → ¬ (g.size ≤ b ∧ ∃ o, p = some (⟨b, o, none⟩ : Addr)) := fun b hb k => by omega
    have Ox4 := (Ox.ext G).fr f8 (nS _ (by omega))
    have oa4' := (oa.ext G).fr f8 (nS _ (by omega))
    have im4 := (im.ext G).fr f8 (nS _ (by omega)) (nS _ (by omega))
    have I4' := (I.ext G).fr f8 (nS _ (by omega)) (fun k => by obtain ⟨_, o, hk⟩ := k; exact hpq _ o hk rfl)
    refine ⟨x, 0, rfl, x, 0 + 1, rfl, Ox4.stC (by simp) rfl fun ox5 fl => ?_⟩
    generalize setCell k4 _ _ = k5 at *
    have ox5 : Own k5 x #[.bool (decide (N < 0)), .slice p' (n + 1) c', .int .i64 ((t : Int) - 2148)] := ox5
    have I5 := I4'.fr fl (show ¬ d = x by omega) c2
    have s8 := f8.size
    have sl := fl.size
    refine K122i (s := 30) I5 (by omega) (by decide) (by decide) fun q6 k6 f9 d9 I9 => ⟨_, rfl, ?_⟩
    have s9 := f9.size
    have n9 : ∀ b, b ≠ d → b ≠ qd → ¬ (b = d ∨ Rm d qd b) := fun b h1 h2 e => by rcases e with e | e; exact h1 e; exact h2 e.1
    have hq6 : q6 = d ∨ q6 = qd ∨ k5.size ≤ q6 := by rcases d9 with e | e | e; exact .inl e; exact .inr (.inl e.1); exact .inr (.inr e)
    have hb' : ∀ b o, p' = some (⟨b, o, none⟩ : Addr) → g.size ≤ b ∧ b < k5.size ∧ b ≠ qd := fun b o eq => by
      refine ⟨L4.fresh b o eq, ?_, ?_⟩
      · rcases L4.sl with w | ⟨b2, o2, cs, w1, w2, _⟩
        · simp at w
        · rw [eq] at w1; cases w1; have := w2.lt; omega
      · rcases hp' b o eq with ⟨o', w⟩ | w
        · exact hpq b o' w
        · omega
    refine ⟨m / 2 ^ 30, Nat.div_lt_self hm0 (by decide), rfl, rfl, rfl, rfl, ?_, by omega, (oa4'.fr fl (show ¬ a = x by omega)).fr f9 (n9 _ (by omega) (Ne.symm c1)), (im4.fr fl (show ¬ rm = x by omega) (show ¬ qm = x by omega)).fr f9 (n9 _ (by omega) (Ne.symm c3)) (n9 _ (by omega) (Ne.symm c4)), p', n + 1, c', l ++ [m % B30], q6, ox5.fr f9 (n9 _ (by omega) (Ne.symm c2)), I9, by omega, by omega, by omega, by omega, by omega, ?_, hdg.snoc (Nat.mod_lt _ (by decide)), ?_, fun b o eq => ?_⟩
    · refine Fr.trans (Fr.trans (Fr.trans (Ext.trans E G) f8 fun b hb k => by have := k.1; omega) fl fun b hb k => by omega) f9 fun b hb k => ?_
      rcases k with k | k
      · omega
      · have := k.1; omega
    · rw [List.map_append]
      refine ⟨?_, L4.len, ?_, L4.le, L4.pt, L4.fresh, L4.all⟩
      · refine (L4.sl.fr fl fun b o eq _ k => ?_).fr f9 fun b o eq _ => n9 _ ?_ ?_
        · have := hb' b o eq; omega
        · have := hb' b o eq; omega
        · exact (hb' b o eq).2.2
      · rcases L4.room with w | ⟨b, o, cs, w1, w2, w3, w4⟩
        · exact .inl w
        · have hbb := hb' b o w1
          exact .inr ⟨b, o, cs, w1, (w2.fr fl (show ¬ b = x by omega)).fr f9 (n9 _ (by omega) hbb.2.2), w3, w4⟩
    · rw [← hdi]; exact (digs_snoc (by decide) hm0 l).symm
    · have := hb' b o eq
      omega
  · have hm0 : m = 0 := by
      rcases Nat.eq_zero_or_pos m with h | h
      · exact h
      · exfalso
        have := of_decide_eq_false hend
        have hs : (m : Int).sign = 1 := Int.sign_eq_one_of_pos (by omega)
        omega
    subst hm0
    rw [digs_zero, List.append_nil] at hdi
    refine ⟨x, 0, rfl, _, Ox.cell _, _, _, _, Ox.cell _, _, Ox.cell _, a, 0, rfl, oa.stC (by simp) rfl fun ub vb => ub.stC (by simp) rfl fun uc vc => uc.stC (by simp) rfl fun ud vd => ⟨a, 0, rfl, _, ud.cell _, _, _, _, ud.cell _, _, ud.cell _, ?_⟩⟩
    have fabc := Fr.trans (S := fun b => b = a) (Fr.trans (S := fun b => b = a) vb vc fun _ _ e => e) vd fun _ _ e => e
    have hn := L.len
    rw [List.length_map, hdi] at hn
    have hsl := sl_of_sj L.sl
    rw [hdi] at hsl hdg
    have hne : (digs B30 (2 * k + 1)).length ≠ 0 := by rw [digs_ne (by decide) (by omega)]; simp
    refine H _ p n c _ _ (Fr.trans E fabc fun b hb e => by omega) ⟨2 * k + 1, ⟨⟨L.pt, hsl.fr fabc fun b o eq _ k => by have := L.fresh b o eq; omega, hn, hdg, digs_trim (by decide) _⟩, by omega, fun h0 => by omega, fun _ => ⟨?_, by omega, by omega⟩⟩, by omega, ?_⟩
    · rw [digs_val (by decide)]; omega
    · have e4 : ((t : Int) - 2148 + ((2148 : Nat) : Int)).toNat = t := by omega
      rw [e4, signed_nat, Nat.mul_comm, ← ek]
      by_cases hneg : N < 0
      · rw [decide_eq_true hneg, if_pos rfl]; omega
      · rw [decide_eq_false hneg, if_neg (by decide)]; omega
end Go.Proofs
set_option linter.unusedVariables false
/-! sums.Sum of finite floats. -/
namespace Go.Proofs
open Go Go.Eng
variable {B : World} {R : Ending → Heap → Prop} {h : Heap}
theorem fV_bd {b : Int} (fb : isFin b = true) {K : Nat} (hK : K = 2098) : (fV b).natAbs ≤ 2 ^ K := by
  have hm := fM_lt b
  have hx := fX_lt fb
  obtain ⟨L, hL⟩ : ∃ L, L = 2045 := ⟨_, rfl⟩
  rw [absV, show K = 53 + L by omega, Nat.pow_add]
  refine Nat.mul_le_mul ?_ (Nat.pow_le_pow_right (by decide) (by omega))
  rw [show (2 : Nat) ^ 53 = 9007199254740992 by decide]; omega
theorem sV_bd {l : List Int} (hf : ∀ x ∈ l, isFin x = true) {K : Nat} (hK : K = 2098) : (sV l).natAbs ≤ l.length * 2 ^ K := by
  induction l with
  | nil => simp [sV]
  | cons a l ih =>
    have h1 := fV_bd (hf a (by simp)) hK
    have h2 := ih fun x hx => hf x (by simp [hx])
    rw [List.length_cons, Nat.add_mul, Nat.one_mul]
    simp only [sV]
    generalize 2 ^ K = Q at *
    generalize l.length * Q = P at *
    omega
theorem sV_bl {l : List Int} (hf : ∀ x ∈ l, isFin x = true) (hl : l.length ≤ 4096) : bl (sV l * (UW : Int)).natAbs ≤ 3200 := by
  obtain ⟨K, hK⟩ : ∃ K, K = 2098 := ⟨_, rfl⟩
  have h1 := sV_bd hf hK
  obtain ⟨N, hN⟩ : ∃ N, N = 1074 := ⟨_, rfl⟩
  rw [Int.natAbs_mul, Int.natAbs_natCast, uw_pow hN]
  refine bl_of_lt (a := 13 + K + N) ?_ (by omega)
  have h2 : (sV l).natAbs < 2 ^ 13 * 2 ^ K := by
    have : l.length * 2 ^ K ≤ 4096 * 2 ^ K := Nat.mul_le_mul_right _ hl
    have hp : 0 < 2 ^ K := Nat.pow_pos (by decide)
    rw [show (2 : Nat) ^ 13 = 8192 by decide]
    generalize 2 ^ K = Q at *
    omega
  rw [← Nat.pow_add] at h2
  rw [Nat.pow_add]
  exact Nat.mul_lt_mul_of_pos_right h2 (Nat.pow_pos (by decide))
theorem sV_take {l : List Int} {j : Nat} (hj : j < l.length) : sV (l.take (j + 1)) = sV (l.take j) + fV l[j] := by
  rw [List.take_add_one, sV_append, List.getElem?_eq_getElem hj]
  show _ + (fV l[j] + 0) = _
  rw [Int.add_zero]
/-- sums.summed, of finite floats. -/
theorem K1365 {f1 f2 e n c : Nat} {l : List Int} {w v : Int} (ht : TabH h) (A : FlsA h e l) (hn : l.length = n) (hl : n ≤ 4096) (hf : ∀ x ∈ l, I64 x ∧ isFin x = true)
    (Hto : ∀ {R' : Ending → Heap → Prop} {h' : Heap} {ng : Bool} {p : Option Addr} {n c : Nat} {e : Int}, Ext h h' → NumS 2148 h' ng p n e (sV l * (UW : Int)) → (∀ h'' b, Ext h' h'' → R' (.returned (.tuple #[.int .i64 v, .bool b, .int .i64 (0 : Int)])) h'') →
      EntV Tryz.prog B (.func (.func f1) #[] #[]) #[.agg #[.bool ng, .slice p n c, .int .i64 e], .int .i64 w] R' h')
    (H : ∀ h', Ext h h' → R (.returned (.tuple #[.int .i64 v, .int .i64 (0 : Int)])) h') :
    Ent Tryz.prog B 29 #[.slice (some ⟨e, 0, none⟩) n c, .func (.func f1) #[] #[], .func (.func f2) #[] #[], .int .i64 w] R h := by
  obtain ⟨cs, oc, hs, hc⟩ := A
  have hcell : ∀ {k : Heap} (j : Nat) (hj : j < l.length), Ext h k → cell? k ⟨e, 0 + (j : Int).toNat * 1, none⟩ = some (.float .f64 (wd l[j])) := fun j hj E => by
    rw [Int.toNat_natCast, Nat.mul_one, Nat.zero_add]
    exact ((oc.ext E).cell _).trans (hc j hj)
  refine F1365_ok _ _ _ _ _ _ (alK fun a h1 e1 f1 o1 z1 => alK fun b h2 e2 f2 o2 z2 => ⟨fun m vs h' => match vs with
    | [.slice p1 n1 c1, g1, g2, .int _ ww, .pointer pa, .pointer pb, .int _ nn, .int _ i] => p1 = some (⟨e, 0, none⟩ : Addr) ∧ n = n1 ∧ g1 = .func (.func _) #[] #[] ∧ g2 = .func (.func _) #[] #[] ∧ ww = w ∧ pa = some (⟨a, 0, none⟩ : Addr) ∧ pb = some (⟨b, 0, none⟩ : Addr) ∧ nn = (n : Int) ∧
        ∃ j q : Nat, i = (j : Int) ∧ j ≤ n ∧ m = n - j ∧ Ext h h' ∧ Own h' a MET ∧ IntAt h' b q (sV (l.take j) * (UW : Int)) ∧ h.size ≤ q ∧ q ≠ a
    | _ => False, n, ⟨rfl, rfl, rfl, rfl, rfl, rfl, rfl, rfl, 0, b, rfl, by omega, rfl, Ext.trans f1 f2, o1.ext f2, ?_, by have := f1.size; omega, by have := o1.lt; omega⟩, ?_⟩)
  · have : sV (l.take 0) * (UW : Int) = 0 := by show (0 : Int) * _ = 0; rw [Int.zero_mul]
    rw [this]
    exact ZeroAt.int o2
  have la := o1.lt
  have s1 := f1.size
  rintro m h' _ _ _ _ _ _ _ _ _ _ ⟨rfl, rfl, rfl, rfl, rfl, rfl, rfl, rfl, j, q, rfl, hj, rfl, E, Oa, T, hq, hqa⟩ _
  have hT : ∀ x ∈ l.take j, isFin x = true := fun x hx => (hf x (List.mem_of_mem_take hx)).2
  have hbl := sV_bl hT (by rw [List.length_take]; omega)
  refine ⟨fun e2 => ?_, fun e2 => ?_⟩
  · have hjl : j < l.length := by have := of_decide_eq_true e2; omega
    obtain ⟨ij, fj⟩ := hf l[j] (List.getElem_mem _)
    have ljl : j < n := by omega
    refine ⟨e, 0, rfl, by omega, by omega, e, _, rfl, wd l[j], hcell j hjl E, K1370 Oa ij fj fun h3 f3 O3 => ⟨rfl, ?_⟩⟩
    have E3 : Ext h h3 := Fr.trans E f3 fun x hx k => by omega
    have T3 := T.fr f3 (show ¬ b = a by omega) hqa
    refine ⟨e, 0, rfl, by omega, by omega, e, _, rfl, wd l[j], hcell j hjl E3, K1371 T3 ij fj (by decide) (by omega) fun q' h4 f4 hq' T4 => ⟨rfl, n - (j + 1), by omega, rfl, rfl, rfl, rfl, rfl, rfl, rfl, rfl, j + 1, q', ?_, by omega, rfl, ?_, ?_, ?_, ?_, ?_⟩⟩
    · rw [i64_in (x := (j : Int) + 1) (by omega) (by omega)]; omega
    · refine Fr.trans E3 f4 fun x hx k => ?_
      rcases k with k | k
      · omega
      · have := k.1; omega
    · exact O3.fr f4 fun k => by rcases k with k | k; omega; exact hqa k.1.symm
    · rw [sV_take hjl, Int.add_mul]; exact T4
    · have := E3.size; omega
    · have := E3.size
      have := O3.lt
      omega
  · have hjn : j = n := by have := of_decide_eq_false e2; omega
    rw [hjn, List.take_of_length_le (by omega)] at T
    have hbl2 := sV_bl (fun x hx => (hf x hx).2) (by omega)
    refine K1372 Oa ⟨_, _, rfl, fun e => (by cases e), fun _ => K1373 (ht.fr E id) T (by omega) fun ng p n c e h5 f5 NS => ⟨_, _, _, _, _, rfl, ?_⟩⟩
    exact Hto (Ext.trans E f5) NS fun h6 b f6 => ⟨_, _, _, rfl, H h6 (Ext.trans (Ext.trans E f5) f6)⟩
/-- What sums.Sum tells. -/
def sumV (w : Int) (l : List Int) : Int := pz (dirV w.toNat (sV l * (UW : Int)) (-((2148 : Nat) : Int)))
/-- sums.Sum, of finite floats. -/
theorem K1360 {p : Option Addr} {n c : Nat} {l : List Int} {w : Int} (ht : TabH h) (I : IntsH h p l) (hn : l.length = n) (hl : n ≤ 4096) (hf : ∀ x ∈ l, isFin x = true) (h0 : 0 ≤ w) (h4 : w < 4)
    (H : ∀ h', Ext h h' → R (.returned (.tuple #[.int .i64 (sumV w l), .int .i64 (0 : Int)])) h') : Ent Tryz.prog B 7 #[.slice p n c, .int .i64 w] R h := by
  refine F1360_ok _ _ _ _ (alK fun e h1 e1 f1 o1 z1 => K1364 o1 h0 h4 hl ⟨_, rfl, fun e => absurd e (by decide), fun _ => ?_⟩)
  refine K1366 (φ := id) (I.ext f1) hn (by omega) (fun x h' _ k => K54 k) fun e2 h2 f2 l2 A => ⟨_, _, _, rfl, ?_⟩
  rw [List.map_id] at A
  refine K1365 (v := sumV w l) ((ht.fr f1 id).fr f2 id) A hn hl (fun x hx => ⟨I.1 x hx, hf x hx⟩) (fun {R' h' ng p n c e} E N k => ?_) fun h3 f3 => ⟨_, _, rfl, H h3 (Ext.trans (Ext.trans f1 f2) f3)⟩
  exact K1030 N h0 h4 fun h'' f => k h'' _ f
end Go.Proofs
namespace Go.Proofs
open Go Go.Eng
/-- plumb/plumblaw5.alive -/
def F1361_j69 (B : World) (R : Po) (a0 : Bool) (b0 : Heap) : Prop :=
 R (.returned (.bool a0)) b0
def F1361_j57 (B : World) (R : Po) (c0 d0 : Int) (e0 : Bool) (f0 : Heap) : Prop :=
(e0 = true →
 alW f0 (.cells #[.int .i64 c0, .int .i64 c0] 3) fun g0 i0 =>
 Ec B 9 #[.slice (some ⟨g0, 0, none⟩) 2 2] (retE (fun j0 k0 => ∃ l0, j0 = .int .i64 l0 ∧
 F1361_j69 B R (decide (l0 = d0)) k0)
(pk R)) i0) ∧
(e0 = false →
 F1361_j69 B R false f0)
def F1361_j51 (B : World) (R : Po) (m0 n0 o0 : Int) (p0 : Bool) (q0 : Heap) : Prop :=
(p0 = true →
 F1361_j57 B R m0 o0 (decide (n0 = (0 : Int))) q0) ∧
(p0 = false →
 F1361_j57 B R m0 o0 false q0)
def F1361_j44 (B : World) (R : Po) (r0 s0 t0 u0 : Int) (v0 : Bool) (w0 : Heap) : Prop :=
(v0 = true →
 F1361_j51 B R r0 t0 u0 (decide (s0 = (1073741824 : Int))) w0) ∧
(v0 = false →
 F1361_j51 B R r0 t0 u0 false w0)
def F1361_j36 (B : World) (R : Po) (x0 y0 z0 a1 b1 : Int) (c1 : Bool) (d1 : Heap) : Prop :=
(c1 = true →
 F1361_j44 B R x0 z0 a1 b1 (decide (y0 = (0 : Int))) d1) ∧
(c1 = false →
 F1361_j44 B R x0 z0 a1 b1 false d1)
def F1361_j27 (B : World) (R : Po) (e1 f1 g1 i1 j1 k1 : Int) (l1 : Bool) (m1 : Heap) : Prop :=
(l1 = true →
 F1361_j36 B R e1 g1 i1 j1 k1 (decide (f1 = k1)) m1) ∧
(l1 = false →
 F1361_j36 B R e1 g1 i1 j1 k1 false m1)
def F1361 (B : World) (R : Po) (h : Heap) : Prop :=
 alW h (.cells #[.int .i64 (4607182418800017408 : Int), .int .i64 (4607182418800017408 : Int)] 3) fun n1 o1 =>
 Ec B 7 #[.slice (some ⟨n1, 0, none⟩) 2 2, .int .i64 (0 : Int)] (retE (fun p1 q1 => ∃ r1 s1, p1 = .tuple #[.int .i64 r1, .int .i64 s1] ∧
 alW q1 (.cells #[.int .i64 (4607182418800017408 : Int), .int .i64 (4607182418800017408 : Int)] 3) fun t1 u1 =>
 alW u1 (.cells #[.int .i64 (4607182418800017408 : Int), .int .i64 (4607182418800017408 : Int)] 3) fun v1 w1 =>
 Ec B 18 #[.slice (some ⟨t1, 0, none⟩) 2 2, .slice (some ⟨v1, 0, none⟩) 2 2, .int .i64 (0 : Int)] (retE (fun x1 y1 => ∃ z1 a2, x1 = .tuple #[.int .i64 z1, .int .i64 a2] ∧
 alW y1 (.cells #[.int .i64 (1065353216 : Int), .int .i64 (1065353216 : Int)] 3) fun b2 c2 =>
 Ec B 21 #[.slice (some ⟨b2, 0, none⟩) 2 2, .int .i64 (0 : Int)] (retE (fun d2 e2 => ∃ f2 g2, d2 = .tuple #[.int .i64 f2, .int .i64 g2] ∧
((decide (r1 = (4611686018427387904 : Int))) = true →
 F1361_j27 B R (4607182418800017408 : Int) z1 a2 f2 g2 (4611686018427387904 : Int) (decide (s1 = (0 : Int))) e2) ∧
((decide (r1 = (4611686018427387904 : Int))) = false →
 F1361_j27 B R (4607182418800017408 : Int) z1 a2 f2 g2 (4611686018427387904 : Int) false e2))
(pk R)) c2)
(pk R)) w1)
(pk R)) o1
def F1361_L : Nat → List (Nat × TypeDesc) := fun _ => []
theorem F1361_ok {B : World} {R : Ending → Heap → Prop} {h : Heap} (H : F1361 B R h) : Ec B 8 #[] R h :=
 Ek Tryz.func8 (by kernel_rfl) (by kernel_rfl) (by kernel_rfl) F1361_L [] (by kernel_rfl) H

/-- plumb/plumblaw5.total -/
def F1362 (B : World) (R : Po) (a0 : OA) (b0 c0 : Nat) (h : Heap) : Prop :=
 alW h (.cells #[.bool false, .slice none 0 0, .int .i64 0] 38) fun d0 e0 =>
∃ f0 : Lp, ∃ g0, f0 g0 [.slice a0 b0 c0, .pointer (some ⟨d0, 0, none⟩), .slice none 0 0, .int .i64 (0 : Int)] e0 ∧
∀ (i0 : Nat) (j0 : Heap) (k0 : OA) (l0 m0 : Nat) (n0 o0 : OA) (p0 q0 : Nat) (r0 : Int), f0 i0 [.slice k0 l0 m0, .pointer n0, .slice o0 p0 q0, .int .i64 r0] j0 → ∀ _r : Nat → Value,
((decide (r0 < (l0 : Int))) = true →
 ixW k0 l0 r0 1 fun s0 t0 =>
 iP s0 t0 fun u0 v0 => ∃ w0, cI j0 u0 v0 .i64 w0 ∧
 Ec B 51 #[.int .i64 w0] (retE (fun x0 y0 => ∃ z0 a1 b1 c1 d1 e1, x0 = .tuple #[.agg #[.bool z0, .slice a1 b1 c1, .int .i64 d1], .int .i64 e1] ∧
 alW y0 (.cells #[.bool false, .slice none 0 0, .int .i64 0] 38) fun f1 g1 =>
 iP f1 0 fun i1 j1 => stC g1 i1 j1 (.bool z0) fun k1 =>
 stC k1 i1 (j1 + 1) (.slice a1 b1 c1) fun l1 =>
 stC l1 i1 (j1 + 1 + 1) (.int .i64 d1) fun m1 =>
 iP f1 0 fun n1 o1 =>
∃ p1, cell? m1 ⟨n1, o1, none⟩ = some (.bool p1) ∧
∃ q1 r1 s1, cell? m1 ⟨n1, o1 + 1, none⟩ = some (.slice q1 r1 s1) ∧
∃ t1, cell? m1 ⟨n1, o1 + 1 + 1, none⟩ = some (.int .i64 t1) ∧
 alW m1 (.cells #[.bool p1, .slice q1 r1 s1, .int .i64 t1] 38) fun u1 v1 =>
 apW v1 o0 p0 q0 (some ⟨u1, 0, none⟩) 1 3 40 38 #[.bool false, .slice none 0 0, .int .i64 0] fun w1 x1 y1 z1 =>
∃ a2, a2 < i0 ∧ f0 a2 [.slice k0 l0 m0, .pointer n0, .slice w1 x1 y1, .int .i64 (IntKind.i64.wrap (r0 + (1 : Int)))] z1)
(pk R)) j0) ∧
((decide (r0 < (l0 : Int))) = false →
 Ec B 52 #[.slice o0 p0 q0] (retE (fun b2 c2 => ∃ d2 e2 f2 g2 i2 j2, b2 = .tuple #[.agg #[.bool d2, .slice e2 f2 g2, .int .i64 i2], .int .i64 j2] ∧
 alW c2 (.cells #[.bool false, .slice none 0 0, .int .i64 0] 38) fun k2 l2 =>
 iP k2 0 fun m2 n2 => stC l2 m2 n2 (.bool d2) fun o2 =>
 stC o2 m2 (n2 + 1) (.slice e2 f2 g2) fun p2 =>
 stC p2 m2 (n2 + 1 + 1) (.int .i64 i2) fun q2 =>
 iP k2 0 fun r2 s2 =>
∃ t2, cell? q2 ⟨r2, s2, none⟩ = some (.bool t2) ∧
∃ u2 v2 w2, cell? q2 ⟨r2, s2 + 1, none⟩ = some (.slice u2 v2 w2) ∧
∃ x2, cell? q2 ⟨r2, s2 + 1 + 1, none⟩ = some (.int .i64 x2) ∧
 isP n0 fun y2 z2 => stC q2 y2 z2 (.bool t2) fun a3 =>
 stC a3 y2 (z2 + 1) (.slice u2 v2 w2) fun b3 =>
 stC b3 y2 (z2 + 1 + 1) (.int .i64 x2) fun c3 =>
 isP n0 fun d3 e3 =>
∃ f3, cell? c3 ⟨d3, e3, none⟩ = some (.bool f3) ∧
∃ g3 i3 j3, cell? c3 ⟨d3, e3 + 1, none⟩ = some (.slice g3 i3 j3) ∧
∃ k3, cell? c3 ⟨d3, e3 + 1 + 1, none⟩ = some (.int .i64 k3) ∧
 R (.returned (.agg #[.bool f3, .slice g3 i3 j3, .int .i64 k3])) c3)
(pk R)) j0)
def F1362_L : Nat → List (Nat × TypeDesc) := fun i => match i with
  | 3 => [(0, .slice 0), (2, .pointer 0), (3, .slice 0), (4, .int .i64)]
  | _ => []
theorem F1362_ok {B : World} {R : Ending → Heap → Prop} (a0 : OA) (b0 c0 : Nat) {h : Heap} (H : F1362 B R a0 b0 c0 h) : Ec B 23 #[.slice a0 b0 c0] R h :=
 Ek Tryz.func23 (by kernel_rfl) (by kernel_rfl) (by kernel_rfl) F1362_L [] (by kernel_rfl) H
end Go.Proofs
