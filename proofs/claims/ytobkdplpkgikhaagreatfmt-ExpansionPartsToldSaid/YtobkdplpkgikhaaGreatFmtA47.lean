import Derived.Test.YtobkdplpkgikhaaGreatFmtA46
import Derived.Test.YtobkdplpkgikhaaGreatFmtA35
import Derived.Test.YtobkdplpkgikhaaGreatFmtA09
import Derived.Test.YtobkdplpkgikhaaGreatFmtA45
import Derived.Test.YtobkdplpkgikhaaGreatFmtA30
/- Here stand lemmas and contracts, in the order in which they are used. -/
set_option linter.unusedVariables false
set_option linter.unusedVariables false
/-! expansion.Parts of whatever number. -/
namespace Go.Proofs
open Go Go.Eng
variable {B : World} {R : Ending → Heap → Prop} {h : Heap}
/-- What stands at the head of the loop. -/
def PgI (K : Nat) (h g : Heap) (x : Int) (rx rl re : Nat) (m0 : Nat) (vs : List Value) (h' : Heap) : Prop := match vs with
  | [.pointer a, .pointer b, .pointer c] => a = some (⟨rx, 0, none⟩ : Addr) ∧ b = some (⟨rl, 0, none⟩ : Addr) ∧ c = some (⟨re, 0, none⟩ : Addr) ∧ ∃ ng p n cc e r q m mc ws, m0 = r.natAbs ∧ Ext h h' ∧ g.size ≤ h'.size ∧
      Own h' rx #[.bool ng, .slice p n cc, .int .i64 e] ∧ NumS K h' ng p n e r ∧ Own h' rl #[.slice q m mc] ∧ Own h' re #[.int .i64 0] ∧ Lj g h' q m mc ws ∧ prt K x = (prt K r).map (ws ++ ·) ∧ r.natAbs ≤ x.natAbs ∧ (r ≠ 0 → ¬ (cls (toR 0 r K) = 0 ∨ cls (toR 0 r K) = 3) → ws = [] ∨ ws.length + bl r.natAbs ≤ 50000) ∧
      (r ≠ 0 → ∀ b o, p = some (⟨b, o, none⟩ : Addr) → b ≠ rx ∧ b ≠ rl ∧ ∀ b' o', q = some (⟨b', o', none⟩ : Addr) → b' ≠ b)
  | _ => False
/-- What stands at the head of the loop that turns a list round. -/
def TgI (g hs : Heap) (rl re : Nat) (q : Option Addr) (m mc : Nat) (ws : List Int) (m0 : Nat) (vs : List Value) (h' : Heap) : Prop := match vs with
  | [.pointer b, .pointer c, .int _ k, .int _ i] => b = some (⟨rl, 0, none⟩ : Addr) ∧ c = some (⟨re, 0, none⟩ : Addr) ∧ k = ((m / 2 : Nat) : Int) ∧ ∃ j : Nat, i = (j : Int) ∧ j ≤ m / 2 ∧ m0 = m / 2 - j ∧ Fr (fun b => g.size ≤ b) hs h' ∧ Own h' rl #[.slice q m mc] ∧ Own h' re #[.int .i64 0] ∧
      ((m = 0 ∧ h' = hs) ∨ ∃ b o cs, q = some (⟨b, o, none⟩ : Addr) ∧ g.size ≤ b ∧ Own h' b cs ∧ o + mc ≤ cs.size ∧ ∀ i, i < m → cs[o + i]? = some (.int .i64 (if i < j ∨ m ≤ i + j then ws.getD (m - 1 - i) 0 else ws.getD i 0)))
  | _ => False
/-- What the parts of a number are answered as. -/
def prtA (K : Nat) (x : Int) : List Int × Int := match prt K x with
  | some l => (l.reverse, 0)
  | none => ([], 14)
theorem prt_len2 {K : Nat} (hK : 1074 ≤ K) : ∀ (k : Nat) (r : Int) (l : List Int), r.natAbs ≤ k → r ≠ 0 → prt K r = some l → l.length + (K - 1074) ≤ bl r.natAbs + 1
  | 0, r, l, h, h0, hl => absurd (by omega) h0
  | k + 1, r, l, h, h0, hl => by
    by_cases hc : cls (toR 0 r K) = 0 ∨ cls (toR 0 r K) = 3
    · rw [prt_fail h0 hc] at hl; cases hl
    rw [prt_step hK h0 hc] at hl
    obtain ⟨_, p2, _, p4, _, p6, p7⟩ := part_one hK h0 (fun e => hc (.inl e)) (fun e => hc (.inr e))
    obtain ⟨l', hl', rfl⟩ := Option.map_eq_some_iff.1 hl
    rw [List.length_cons]
    by_cases hz : r - fV (toR 0 r K) * ((2 ^ (K - 1074) : Nat) : Int) = 0
    · rw [hz, prt_zero] at hl'
      cases hl'
      rw [List.length_nil]
      omega
    · have ih := prt_len2 hK k _ l' (by omega) hz hl'
      rcases p7 with q | q
      · have := bl_half q (by omega)
        omega
      · exfalso
        by_cases hc2 : cls (toR 0 (r - fV (toR 0 r K) * ((2 ^ (K - 1074) : Nat) : Int)) K) = 0 ∨ cls (toR 0 (r - fV (toR 0 r K) * ((2 ^ (K - 1074) : Nat) : Int)) K) = 3
        · rw [prt_fail hz hc2] at hl'; cases hl'
        · have := (part_one hK hz (fun e => hc2 (.inl e)) (fun e => hc2 (.inr e))).2.2.2.2.2.1
          omega
/-- A number's floats are at most 2099. -/
theorem prt_short {K : Nat} {r : Int} {l : List Int} (hK : 1074 ≤ K) (hl : prt K r = some l) : l.length ≤ 2099 := by
  by_cases h0 : r = 0
  · subst h0
    rw [prt_zero] at hl
    cases hl
    exact Nat.zero_le _
  by_cases hc : cls (toR 0 r K) = 0 ∨ cls (toR 0 r K) = 3
  · rw [prt_fail h0 hc] at hl; cases hl
  have h1 := prt_len2 hK _ r l (Nat.le_refl _) h0 hl
  have h2 := (part_one hK h0 (fun e => hc (.inl e)) (fun e => hc (.inr e))).2.2.1
  omega
/-- expansion.Parts, of a number in its one form. -/
theorem K1341g {K : Nat} {ng : Bool} {p : Option Addr} {n c : Nat} {e x : Int} (ht : TabH h) (hK1 : 1074 ≤ K) (hK2 : K ≤ 1048576) (N : NumS K h ng p n e x) (hxb : K = 1074 ∨ bl x.natAbs ≤ 40000)
    (H : ∀ q m c' h', Ext h h' → Lj h h' q m c' (prtA K x).1 → R (.returned (.tuple #[.slice q m c', .int .i64 (prtA K x).2])) h') :
    Ent Tryz.prog B 12 #[.agg #[.bool ng, .slice p n c, .int .i64 e]] R h := by
  obtain ⟨M0, NI, NI2⟩ := N
  have N : NumS K h ng p n e x := ⟨M0, NI, NI2⟩
  refine F1341_ok _ _ _ _ _ (alK fun rx h1 e1 f1 o1 z1 => alK fun rl h2 e2 f2 o2 z2 => alK fun re g e3 f3 o3 z3 => ?_)
  have F := Ext.trans (Ext.trans f1 f2) f3
  have Ox := (o1.ext f2).ext f3
  have Ol := o2.ext f3
  have s1 := f1.size
  refine ⟨rx, 0, rfl, _, Ox.cell _, _, _, _, Ox.cell _, _, Ox.cell _, K129 (NI.ext F) fun h4 f4 => ⟨_, rfl, fun e => (by cases e), fun _ => ?_⟩⟩
  refine ⟨PgI K h g x rx rl re, x.natAbs, ⟨rfl, rfl, rfl, ng, p, n, c, e, x, none, 0, 0, [], rfl, Ext.trans F f4, f4.size, Ox.ext f4, (N.ext F).ext f4, Ol.ext f4, o3.ext f4, Lj.nil, by simp, Nat.le_refl _, fun _ _ => .inl rfl, fun h0 b o e => ⟨?_, ?_, fun b' o' e' => (by cases e')⟩⟩, ?_⟩
  · have := num_lt N h0 b o e; omega
  · have := num_lt N h0 b o e; omega
  clear Ox Ol f4
  rintro m0 k1 _ _ _ ⟨rfl, rfl, rfl, ng, p, n, cc, e, r, q, m, mc, ws, rfl, E, hgs, Ox, Nr, Ol, Oe, L, hpar, hr, hlen, hdis⟩ _
  refine ⟨rx, 0, rfl, rx, 0 + 1, rfl, _, _, _, Ox.cell _, fun hpos => ?_, fun hz => ?_⟩
  · have hn : n ≠ 0 := by have := of_decide_eq_true hpos; omega
    have hr0 : r ≠ 0 := fun k => hn ((num_nz Nr).2 k)
    have hwf := toR_wf 0 r K
    refine ⟨rx, 0, rfl, _, Ox.cell _, _, _, _, Ox.cell _, _, Ox.cell _, K1030 Nr (by decide) (by decide) fun k2 fk2 => ⟨_, _, _, rfl, K17 ⟨_, rfl, ?_⟩⟩⟩
    by_cases hc : cls (toR 0 r K) = 0 ∨ cls (toR 0 r K) = 3
    · have hnone : prt K x = none := by rw [hpar, prt_fail hr0 hc]; rfl
      have die : F1341_j99 B R rl re (PgI K h g x rx rl re) r.natAbs (some ⟨rx, 0, none⟩) (some ⟨rl, 0, none⟩) (some ⟨re, 0, none⟩) (toR 0 r K) true (some ⟨rl, 0, none⟩) (some ⟨re, 0, none⟩) k2 := by
        refine ⟨fun _ => expDie (Ol.ext fk2) (Oe.ext fk2) (by have := Ol.lt; have := o2.lt; have := f3.size; omega) fun h' f => ?_, fun e => (by cases e)⟩
        have hA : prtA K x = ([], 14) := by unfold prtA; rw [hnone]
        rw [hA] at H
        exact H none 0 0 h' (Fr.trans (Ext.trans E fk2) f fun y hy k => by omega) Lj.nil
      have ew : cls (pz (dirV (0 : Int).toNat r (-(K : Int)))) = cls (toR 0 r K) := rfl
      refine ⟨fun _ => die, fun e => ?_⟩
      have e3 : cls (toR 0 r K) = 3 := by
        rcases hc with q | q
        · exact absurd (ew.trans q) (of_decide_eq_false e)
        · exact q
      rw [decide_eq_true (ew.trans e3)]
      exact die
    obtain ⟨fb, g2, g3, g4, g5, g6, g7⟩ := part_one hK1 hr0 (fun e => hc (.inl e)) (fun e => hc (.inr e))
    have c0 : ¬ cls (pz (dirV (0 : Int).toNat r (-(K : Int)))) = 0 := fun e => hc (.inl e)
    have c3 : ¬ cls (pz (dirV (0 : Int).toNat r (-(K : Int)))) = 3 := fun e => hc (.inr e)
    have hbr : bl r.natAbs ≤ 40000 := by
      rcases hxb with q | q
      · omega
      · exact Nat.le_trans (bl_mono hr) q
    rw [decide_eq_false c0, decide_eq_false c3]
    refine ⟨fun e => (by cases e), fun _ => ⟨fun e => (by cases e), fun _ => ?_⟩⟩
    have Ol2 := Ol.ext fk2
    refine ⟨rl, 0, rfl, _, _, _, Ol2.cell _, alK fun r5 k3 e5 f5 o5 z5 => ?_⟩
    have L3 := (L.ext fk2).ext f5
    have E3 := Ext.trans (Ext.trans E fk2) f5
    have s2 := fk2.size
    have s5 := f5.size
    have lp := num_lt Nr hr0
    have hm : m ≤ 50000 := by
      have h1 := L.len
      rcases hlen hr0 hc with q | q
      · rw [q] at h1; have : m = 0 := h1.symm; omega
      · omega
    refine apJ3 L3 (by omega) (by omega) o5 hwf.1 fun q' c' k4 L4 f6 hq' => ?_
    have nS : ∀ b, b < g.size → ¬ (g.size ≤ b ∧ ∃ o, q = some (⟨b, o, none⟩ : Addr)) := fun b hb k => by omega
    have Ol4 := (Ol2.ext f5).fr f6 (nS _ (by have := f3.size; omega))
    have Ox4 := ((Ox.ext fk2).ext f5).fr f6 (nS _ (by have := f3.size; have := f2.size; omega))
    have Oe4 := ((Oe.ext fk2).ext f5).fr f6 (nS _ (by have := o3.lt; omega))
    have N4 : NumS K k4 ng p n e r := ((Nr.ext fk2).ext f5).fr f6 fun b o ep k => by
      obtain ⟨_, o', hq⟩ := k
      exact (hdis hr0 b o ep).2.2 b o' hq rfl
    have E4 : Ext h k4 := Fr.trans E3 f6 fun x hx k => by have := k.1; have := F.size; omega
    refine ⟨rl, 0, rfl, Ol4.stC (by simp) rfl fun ol5 fl => ?_⟩
    generalize setCell k4 _ _ = k5 at *
    have Ol5 : Own k5 rl #[.slice q' (m + 1) c'] := ol5
    have E5 : Ext h k5 := Fr.trans E4 fl fun x hx k => by omega
    have Ox5 := Ox4.fr fl (show ¬ rx = rl by omega)
    have Oe5 := Oe4.fr fl (show ¬ re = rl by have := Ol.lt; have := f3.size; omega)
    have N5 : NumS K k5 ng p n e r := N4.fr fl fun b o ep k => (hdis hr0 b o ep).2.1 k
    have s6 := f6.size
    have sl := fl.size
    have L5 : Lj g k5 q' (m + 1) c' (ws ++ [toR 0 r K]) := ⟨L4.sl.fr fl fun b o ep _ k => by have := L4.fresh b o ep; have := o3.lt; omega, L4.len, L4.room.fr fl fun b k1 k2 => by have := o3.lt; omega, L4.le, L4.pt, L4.fresh, L4.all⟩
    refine K21g (ht.fr E5 id) fun n1 p1 m1 d1 x1 err k6 f7 A1 A2 => ⟨_, _, _, _, _, _, rfl, lay3 fun r7 k7 f8 l8 O7 => ?_⟩
    obtain ⟨_, N1'⟩ := A1 fb
    have N1 := N1'.upK (K := K) (d := K - 1074) (by omega)
    have Ox7 := (Ox5.ext f7).ext f8
    have N7 := (N5.ext f7).ext f8
    refine ⟨rx, 0, rfl, _, Ox7.cell _, _, _, _, Ox7.cell _, _, Ox7.cell _, r7, 0, rfl, _, O7.cell _, _, _, _, O7.cell _, _, O7.cell _, ?_⟩
    have b1 : bl r.natAbs ≤ 50000 := by omega
    have b2 : bl (fV (toR 0 r K) * ((2 ^ (K - 1074) : Nat) : Int)).natAbs ≤ 50000 := by
      have h1 : r.natAbs < 2 ^ bl r.natAbs := bl_le_iff.1 (Nat.le_refl _)
      have : bl (fV (toR 0 r K) * ((2 ^ (K - 1074) : Nat) : Int)).natAbs ≤ bl r.natAbs + 1 := bl_le_iff.2 (by rw [Nat.pow_succ]; omega)
      omega
    refine K44 (ht.fr (Ext.trans (Ext.trans E5 f7) f8) id) N7 (N1.ext f8) hK2 b1 b2 fun ng' p' n' c'' e' k8 f9 fr9 N8 => ⟨_, _, _, _, _, _, rfl, ?_⟩
    have Ox8 := Ox7.ext f9
    refine ⟨rx, 0, rfl, Ox8.stC (by simp) rfl fun oa fa => oa.stC (by simp) rfl fun ob fb' => ob.stC (by simp) rfl fun oc fc => ⟨rfl, (r - fV (toR 0 r K) * ((2 ^ (K - 1074) : Nat) : Int)).natAbs, g2, ?_⟩⟩
    have fabc := Fr.trans (S := fun x => x = rx) (Fr.trans (S := fun x => x = rx) fa fb' fun _ _ e => e) fc fun _ _ e => e
    generalize setCell (setCell (setCell k8 _ _) _ _) _ _ = k9 at *
    have s7 := f7.size
    have s8 := f8.size
    have s9 := f9.size
    have s10 := fabc.size
    have l3 := o3.lt
    have G8 : Ext k5 k8 := Ext.trans (Ext.trans f7 f8) f9
    have hq9 : ∀ b o, q' = some (⟨b, o, none⟩ : Addr) → b < k5.size := fun b o eq => by
      rcases hq' b o eq with ⟨o', k⟩ | k
      · have := L5.len
        rcases L5.sl with w | ⟨b2, o2, cs, w1, w2, _⟩
        · rw [w] at this; cases this
        · rw [eq] at w1; cases w1; exact w2.lt
      · have := L5.len
        rcases L5.sl with w | ⟨b2, o2, cs, w1, w2, _⟩
        · rw [w] at this; cases this
        · rw [eq] at w1; cases w1; exact w2.lt
    refine ⟨rfl, rfl, rfl, ng', p', n', c'', e', _, q', m + 1, c', ws ++ [toR 0 r K], rfl, Fr.trans (Ext.trans E5 G8) fabc fun x hx k => by omega, by omega, oc, N8.fr fabc fun b o ep k => by have := fr9 b o ep; omega,
      (Ol5.ext G8).fr fabc (by omega), (Oe5.ext G8).fr fabc (by omega), ?_, ?_, by omega, ?_, fun _ b o ep => ⟨by have := fr9 b o ep; omega, by have := fr9 b o ep; omega, fun b' o' eq k => by have := fr9 b o ep; have := hq9 b' o' eq; omega⟩⟩
    · have L8 := L5.ext G8
      exact ⟨L8.sl.fr fabc fun b o ep _ k => by have := L8.fresh b o ep; omega, L8.len, L8.room.fr fabc fun b k1 k2 => by omega, L8.le, L8.pt, L8.fresh, L8.all⟩
    · rw [hpar, prt_step hK1 hr0 hc, Option.map_map]
      congr 1
      funext l
      simp
    · intro hz2 hc2
      right
      have := (part_one hK1 hz2 (fun e => hc2 (.inl e)) (fun e => hc2 (.inr e))).2.2.2.2.2.1
      have hhalf := bl_half (g7.resolve_right (by omega)) (by omega)
      rw [List.length_append, List.length_singleton]
      rcases hlen hr0 hc with q | q
      · rw [q, List.length_nil]; omega
      · omega
  · have hn : n = 0 := by have := of_decide_eq_false hz; omega
    have hr0 : r = 0 := (num_nz Nr).1 hn
    rw [hr0, prt_zero] at hpar
    have hsome : prt K x = some ws := by rw [hpar]; simp
    have hA : prtA K x = (ws.reverse, 0) := by unfold prtA; rw [hsome]
    rw [hA] at H
    have hshort := prt_short hK1 hsome
    have hwl := L.len
    have l3 := o3.lt
    have s2 := f2.size
    have s3 := f3.size
    have htd : IntKind.i64.wrap (Int.tdiv (m : Int) (2 : Int)) = ((m / 2 : Nat) : Int) := by
      rw [Int.tdiv_eq_ediv_of_nonneg (by omega), i64_in (by omega) (by omega)]; omega
    refine ⟨rl, 0, rfl, _, _, _, Ol.cell _, by decide, TgI g k1 rl re q m mc ws, m / 2, ⟨rfl, rfl, htd, 0, rfl, by omega, by omega, Fr.rfl', Ol, Oe, ?_⟩, ?_⟩
    · rcases L.sl with k | ⟨b, o, cs, k1, k2, k3⟩
      · left; refine ⟨?_, rfl⟩; rw [← hwl, k]; rfl
      · by_cases hm0 : m = 0
        · exact .inl ⟨hm0, rfl⟩
        have hroom : o + mc ≤ cs.size := by
          have := L.le
          rcases L.room with w | ⟨b2, o2, cs2, w1, w2, w3, _⟩
          · omega
          · rw [k1] at w1; cases w1; rw [k2.inj w2]; exact w3
        refine .inr ⟨b, o, cs, k1, L.fresh b o k1, k2, hroom, fun i hi => ?_⟩
        rw [if_neg (by omega), k3 i (by omega), List.getD_eq_getElem?_getD, List.getElem?_eq_getElem (by omega)]; rfl
    rintro m1 t1 _ _ _ _ ⟨rfl, rfl, rfl, j, rfl, hj, rfl, T, Tl, Te, hc⟩ _
    refine ⟨fun hlt => ?_, fun hge => ?_⟩
    · have hlt : j < m / 2 := by have := of_decide_eq_true hlt; omega
      rcases hc with ⟨hc, _⟩ | ⟨b, o, cs, hb, hgb, Ob, hmc, hcs⟩
      · omega
      have ixe : IntKind.i64.wrap ((IntKind.i64.wrap ((m : Int) - (1 : Int))) - (j : Int)) = ((m - 1 - j : Nat) : Int) := by
        rw [i64_in (x := (m : Int) - 1) (by omega) (by omega), i64_in (by omega) (by omega)]; omega
      refine ⟨rl, 0, rfl, _, _, _, Tl.cell _, rl, 0, rfl, _, _, _, Tl.cell _, rl, 0, rfl, _, _, _, Tl.cell _, rl, 0, rfl, _, _, _, Tl.cell _, rl, 0, rfl, _, _, _, Tl.cell _, ?_⟩
      rw [ixe, hb]
      refine ⟨b, o, rfl, by omega, by omega, b, _, rfl, _, by rw [Int.toNat_natCast, Nat.mul_one]; exact (Ob.cell _).trans (hcs _ (by omega)), rl, 0, rfl, _, _, _, Tl.cell _, ?_⟩
      rw [hb]
      refine ⟨b, o, rfl, by omega, by omega, b, _, rfl, _, by rw [Int.toNat_natCast, Nat.mul_one]; exact (Ob.cell _).trans (hcs _ (by omega)), ?_⟩
      have hsz : o + m ≤ cs.size := by
        have := hcs (m - 1) (by omega)
        have := (Array.getElem?_eq_some_iff.1 this).1
        omega
      refine ⟨b, o, rfl, by omega, by omega, b, _, rfl, ?_⟩
      rw [Int.toNat_natCast, Nat.mul_one]
      refine Ob.stC (by omega) rfl fun oc fc => ?_
      refine ⟨b, o, rfl, by omega, by omega, b, _, rfl, ?_⟩
      rw [Int.toNat_natCast, Nat.mul_one]
      refine oc.stC (by rw [Array.size_setIfInBounds]; omega) rfl fun od fd => ⟨rfl, m / 2 - (j + 1), by omega, ?_⟩
      have fcd := Fr.trans (S := fun x => x = b) fc fd fun _ _ e => e
      generalize setCell (setCell t1 _ _) _ _ = t2 at *
      refine ⟨rfl, rfl, rfl, j + 1, by rw [i64_in (by omega) (by omega)]; rfl, by omega, rfl, Fr.trans T fcd fun x hx k => by omega, hb ▸ Tl.fr fcd (by omega), Te.fr fcd (by omega), .inr ⟨b, o, _, rfl, hgb, od, by simp only [Array.size_setIfInBounds]; exact hmc, fun i hi => ?_⟩⟩
      rw [if_neg (show ¬ (m - 1 - j < j ∨ m ≤ m - 1 - j + j) by omega), if_neg (show ¬ (j < j ∨ m ≤ j + j) by omega)]
      by_cases hi2 : i = m - 1 - j
      · subst hi2
        rw [Array.getElem?_setIfInBounds_self_of_lt (by rw [Array.size_setIfInBounds]; omega), if_pos (by omega), show m - 1 - (m - 1 - j) = j by omega]
      · rw [Array.getElem?_setIfInBounds_ne (by omega)]
        by_cases hi1 : i = j
        · subst hi1
          rw [Array.getElem?_setIfInBounds_self_of_lt (by omega), if_pos (by omega)]
        · rw [Array.getElem?_setIfInBounds_ne (by omega), hcs i hi]
          congr 2
          by_cases h1 : i < j ∨ m ≤ i + j
          · rw [if_pos h1, if_pos (by omega)]
          · rw [if_neg h1, if_neg (by omega)]
    · have hj2 : j = m / 2 := by have := of_decide_eq_false hge; omega
      refine ⟨rl, 0, rfl, _, _, _, Tl.cell _, K89 (fun _ => ⟨_, _, _, _, rfl, ?_⟩) (fun k => by omega)⟩
      refine expEnd Tl Te (by omega) fun h' f => ?_
      have E1 : Ext h t1 := Fr.trans E T fun x hx k => by omega
      have sF := F.size
      refine H q m mc h' (Fr.trans E1 f fun x hx k => by omega) ?_
      rcases hc with ⟨hc, ht1⟩ | ⟨b, o, cs, hb, hgb, Ob, hmc, hcs⟩
      · have hw0 : ws = [] := List.length_eq_zero_iff.1 (hwl.trans hc)
        subst ht1 hw0
        rw [List.reverse_nil]
        exact (L.fr2 f (by omega) (by omega)).base sF
      · have Ob' := Ob.fr f (show ¬ (b = rl ∨ b = re) by omega)
        refine ⟨.inr ⟨b, o, cs, hb, Ob', fun i hi => ?_⟩, by rw [List.length_reverse]; exact hwl, .inr ⟨b, o, cs, hb, Ob', hmc, by omega⟩, L.le, L.pt, fun b' o' e => by have := L.fresh b' o' e; omega, fun w hw => L.all w (List.mem_reverse.1 hw)⟩
        rw [List.length_reverse] at hi
        rw [hcs i (by omega), List.getElem_reverse]
        by_cases h1 : i < j ∨ m ≤ i + j
        · rw [if_pos h1, List.getD_eq_getElem?_getD, List.getElem?_eq_getElem (by omega)]
          simp [hwl]
        · rw [if_neg h1, List.getD_eq_getElem?_getD, List.getElem?_eq_getElem (by omega)]
          have : i = ws.length - 1 - i := by omega
          simp only [Option.getD_some, ← this]
end Go.Proofs
namespace Go.Proofs
open Go Go.Eng
/-- plumb/plumbref3.Sub -/
def F1102 (B : World) (R : Po) (a0 : Bool) (b0 : OA) (c0 d0 : Nat) (e0 : Int) (f0 : Bool) (g0 : OA) (i0 j0 : Nat) (k0 : Int) (h : Heap) : Prop :=
 alW h (.cells #[.bool a0, .slice b0 c0 d0, .int .i64 e0] 24) fun l0 m0 =>
 alW m0 (.cells #[.bool f0, .slice g0 i0 j0, .int .i64 k0] 24) fun n0 o0 =>
 alW o0 (.cells #[.bool false, .slice none 0 0, .int .i64 0] 24) fun p0 q0 =>
 iP l0 0 fun r0 s0 =>
∃ t0, cell? q0 ⟨r0, s0, none⟩ = some (.bool t0) ∧
∃ u0 v0 w0, cell? q0 ⟨r0, s0 + 1, none⟩ = some (.slice u0 v0 w0) ∧
∃ x0, cell? q0 ⟨r0, s0 + 1 + 1, none⟩ = some (.int .i64 x0) ∧
 iP n0 0 fun y0 z0 =>
∃ a1, cell? q0 ⟨y0, z0, none⟩ = some (.bool a1) ∧
∃ b1 c1 d1, cell? q0 ⟨y0, z0 + 1, none⟩ = some (.slice b1 c1 d1) ∧
∃ e1, cell? q0 ⟨y0, z0 + 1 + 1, none⟩ = some (.int .i64 e1) ∧
 Ec B 63 #[.agg #[.bool a1, .slice b1 c1 d1, .int .i64 e1]] (retE (fun f1 g1 => ∃ i1 j1 k1 l1 m1, f1 = .agg #[.bool i1, .slice j1 k1 l1, .int .i64 m1] ∧
 sameCells q0 g1 r0 s0 3 ∧ Ec B 62 #[.agg #[.bool t0, .slice u0 v0 w0, .int .i64 x0], .agg #[.bool i1, .slice j1 k1 l1, .int .i64 m1]] (retE (fun n1 o1 => ∃ p1 q1 r1 s1 t1, n1 = .agg #[.bool p1, .slice q1 r1 s1, .int .i64 t1] ∧
 iP p0 0 fun u1 v1 => stC o1 u1 v1 (.bool p1) fun w1 =>
 stC w1 u1 (v1 + 1) (.slice q1 r1 s1) fun x1 =>
 stC x1 u1 (v1 + 1 + 1) (.int .i64 t1) fun y1 =>
 iP p0 0 fun z1 a2 =>
∃ b2, cell? y1 ⟨z1, a2, none⟩ = some (.bool b2) ∧
∃ c2 d2 e2, cell? y1 ⟨z1, a2 + 1, none⟩ = some (.slice c2 d2 e2) ∧
∃ f2, cell? y1 ⟨z1, a2 + 1 + 1, none⟩ = some (.int .i64 f2) ∧
 R (.returned (.agg #[.bool b2, .slice c2 d2 e2, .int .i64 f2])) y1)
(fun _ _ => False)) g1)
(fun _ _ => False)) q0
def F1102_L : Nat → List (Nat × TypeDesc) := fun _ => []
theorem F1102_ok {B : World} {R : Ending → Heap → Prop} (a0 : Bool) (b0 : OA) (c0 d0 : Nat) (e0 : Int) (f0 : Bool) (g0 : OA) (i0 j0 : Nat) (k0 : Int) {h : Heap} (H : F1102 B R a0 b0 c0 d0 e0 f0 g0 i0 j0 k0 h) : Ec B 36 #[.agg #[.bool a0, .slice b0 c0 d0, .int .i64 e0], .agg #[.bool f0, .slice g0 i0 j0, .int .i64 k0]] R h :=
 Ek Tryz.func36 (by kernel_rfl) (by kernel_rfl) (by kernel_rfl) F1102_L [] (by kernel_rfl) H
end Go.Proofs
set_option linter.unusedVariables false
namespace Go.Eng
open Go
theorem sameN {h h' : Heap} {b o : Nat} {cs : Array Value} {S : Nat → Prop} (H : Own h b cs) (f : Fr S h h') (hb : ¬ S b) : ∀ n, sameCells h h' b o n := by
  have h1 := H.fr f hb
  have e : ∀ k, cell? h' ⟨b, k, none⟩ = cell? h ⟨b, k, none⟩ := fun k => by rw [H.cell, h1.cell]
  intro n
  induction n with
  | zero => trivial
  | succ n ih =>
    cases n with
    | zero => exact e o
    | succ n => exact ⟨ih, e _⟩
end Go.Eng
namespace Go.Proofs
open Go Go.Eng
variable {B : World} {R : Ending → Heap → Prop} {h : Heap}
/-- A number's digits do not lie in a block without odd ints. -/
theorem NumS.off {K : Nat} {h' : Heap} {neg : Bool} {p : Option Addr} {n r : Nat} {e v : Int} {cs : Array Value} (N : NumS K h neg p n e v) (O : Own h r cs) (hcs : ∀ (i : Nat) (x : Int), cs[i]? = some (Value.int .i64 x) → x % 2 = 0) (f : Fr (fun x => x = r) h h') : NumS K h' neg p n e v := by
  obtain ⟨M, I, a, b⟩ := N
  refine ⟨M, ⟨⟨I.d.pt, ?_, I.d.len, I.d.dig, I.d.trim⟩, I.le, I.zero, I.pos⟩, a, b⟩
  rcases I.d.sl with hnil | ⟨b0, o, cs0, hp, O0, hc⟩
  · exact .inl hnil
  · by_cases hb : b0 = r
    · subst hb
      have hcc := O.r.inj O0.r
      subst hcc
      by_cases hl : 0 < (digs B30 M).length
      · exfalso
        have h1 := hc 0 hl
        have h2 := (I.pos (by have := I.d.len; omega)).1
        rw [val_mod2 hl] at h2
        have h3 := hcs _ _ h1
        omega
      · exact .inl (List.eq_nil_of_length_eq_zero (by omega))
    · exact .inr ⟨b0, o, cs0, hp, O0.fr f hb, hc⟩
theorem zero3 : ∀ (i : Nat) (x : Int), (#[.bool false, .slice none 0 0, .int .i64 (0 : Int)] : Array Value)[i]? = some (Value.int .i64 x) → x % 2 = 0 := by
  intro i x hx
  match i with
  | 0 => simp at hx
  | 1 => simp at hx
  | 2 => simp at hx; omega
  | n + 3 => simp at hx
theorem dirV_M {K w M : Nat} {e v : Int} {neg : Bool} (hM : M ≠ 0) (he : 0 ≤ e + (K : Int)) (hv : v = Ieee.signed neg M (e + (K : Int)).toNat) : dirV w v (-(K : Int)) = pat neg (dirP w neg M e) ∧ inxV v (-(K : Int)) = inx w neg M e := by
  have h0 : v ≠ 0 := by rw [hv]; exact signed_ne hM
  have h2 : decide (v < 0) = neg := by rw [hv]; exact signed_neg hM
  have h1 : v.natAbs = M * 2 ^ (e + (K : Int)).toNat := by rw [hv, signed_abs]
  unfold dirV inxV
  rw [if_neg h0, if_neg h0, h2, h1, dirP_scale _ _ _ _ hM, (near_scale _ _ hM).2, show -(K : Int) + ((e + (K : Int)).toNat : Int) = e by omega, inx_near]
  exact ⟨rfl, rfl⟩
/-- plumbref4.Kind.Cut, in each way, of a number in its one form. -/
theorem cutW {K w : Nat} {xneg : Bool} {p : Option Addr} {n c : Nat} {e v : Int} (hw : w ≤ 3) (N : NumS K h xneg p n e v) (H : ∀ h', Ext h h' → R (.returned (.tuple #[.int .i64 (dirV w v (-(K : Int))), .bool (inxV v (-(K : Int)))])) h') :
    Ent Tryz.prog B 108 #[K64V, .bool xneg, .slice p n c, .int .i64 e, .bool false, .int .i64 (w : Int)] R h := by
  obtain ⟨M, I, a1, a2⟩ := N
  have len := I.d.len
  by_cases hM : M = 0
  · subst hM
    have hv : v = 0 := by rw [a2]; unfold Ieee.signed; simp
    have hn : n = 0 := by rw [digs_zero] at len; simp at len; omega
    obtain ⟨z1, z2⟩ := I.zero hn
    subst z1
    refine F237_ok _ _ _ _ _ _ _ _ _ _ _ _ (alK fun r h12 e11 f11 o11 z11 => ⟨fun e => (by cases e), fun _ => ?_⟩)
    have HH := H h12 f11
    rw [hv, dirV_zero] at HH
    unfold inxV at HH
    rw [if_pos rfl] at HH
    refine K253 (I.d.ext f11) (by omega) ⟨_, rfl, fun e0 => ⟨fun _ => HH, fun e => (by cases e)⟩, fun e0 => ?_⟩
    rw [digs_zero] at e0
    exact absurd e0 (by decide)
  · have hn : 0 < n := by rw [← len, digs_ne (by decide) hM]; simp
    obtain ⟨p1, p2, p3⟩ := I.pos hn
    have le := I.le
    obtain ⟨d1, d2⟩ := dirV_M (w := w) hM a1 a2
    rw [d1, d2] at H
    exact K237w hw I.d (by omega) (by omega) (by omega) (by omega) H
/-- plumbref4.Kind.told. -/
theorem K1113 {b : Int} {od : Bool} (H : ∀ h', Ext h h' → R (.returned (.tuple #[.int .i64 (pz b), .bool od])) h') : Ent Tryz.prog B 107 #[K64V, .int .i64 b, .bool od] R h := by
  refine F1113_ok _ _ _ _ _ _ _ (alK fun r1 h1 e1 f1 o1 z1 => ⟨r1, 0, rfl, r1, 0 + 4, rfl, _, o1.cell _, fun e => ?_, fun e => ?_⟩)
  · have HH := H h1 f1
    unfold pz at HH
    rw [if_pos (of_decide_eq_true e)] at HH
    exact HH
  · have HH := H h1 f1
    unfold pz at HH
    rw [if_neg (of_decide_eq_false e)] at HH
    exact HH
/-- plumbref4.Kind.To. -/
theorem K1103 {K w : Nat} {neg : Bool} {p : Option Addr} {n c : Nat} {e v : Int} (hw : w ≤ 3) (N : NumS K h neg p n e v) (H : ∀ h', Ext h h' → R (.returned (.tuple #[.int .i64 (pz (dirV w v (-(K : Int)))), .bool (inxV v (-(K : Int)))])) h') :
    Ent Tryz.prog B 59 #[K64V, .agg #[.bool neg, .slice p n c, .int .i64 e], .int .i64 (w : Int)] R h := by
  refine F1103_ok _ _ _ _ _ _ _ _ _ _ _ (alK fun r1 h1 e1 f1 o1 z1 => alK fun r2 h2 e2 f2 o2 z2 => ?_)
  have O1 := o1.ext f2
  refine ⟨r1, 0, rfl, _, O1.cell _, _, O1.cell _, _, O1.cell _, _, O1.cell _, _, O1.cell _, r1, 0, rfl, _, O1.cell _, _, O1.cell _, _, O1.cell _, _, O1.cell _, _, O1.cell _,
    r2, 0, rfl, r2, 0, rfl, _, o2.cell _, r2, 0, rfl, r2, 0 + 1, rfl, _, _, _, o2.cell _, r2, 0, rfl, r2, 0 + 2, rfl, _, o2.cell _, ?_⟩
  refine cutW hw (N.ext (Ext.trans f1 f2)) fun h3 f3 => ⟨_, _, rfl, sameN O1 f3 id 5, K1113 fun h4 f4 => ⟨_, _, rfl, H h4 (Ext.trans (Ext.trans (Ext.trans f1 f2) f3) f4)⟩⟩
end Go.Proofs
namespace Go.Proofs
open Go Go.Eng
/-- (*plumb/plumblaw2.Keep).Apart -/
def F31_j44 (B : World) (R : Po) (a0 : Lp) (b0 : Nat) (c0 : OA) (d0 : Int) (e0 : Bool) (f0 : Heap) : Prop :=
(e0 = true →
 R (.returned (.bool false)) f0) ∧
(e0 = false →
 ∃ g0, g0 < b0 ∧ a0 g0 [.pointer c0, .int .i64 (IntKind.i64.wrap (d0 + (1 : Int)))] f0)
def F31_j130 (B : World) (R : Po) (a0 : Lp) (b0 : Nat) (i0 : Lp) (j0 : Nat) (k0 : Lp) (l0 : Nat) (m0 : Lp) (n0 : Nat) (o0 : OA) (p0 q0 r0 : Int) (s0 : Bool) (t0 : Heap) : Prop :=
(s0 = true →
 R (.returned (.bool false)) t0) ∧
(s0 = false →
 ∃ u0, u0 < n0 ∧ m0 u0 [.pointer o0, .int .i64 p0, .int .i64 q0, .int .i64 (IntKind.i64.wrap (r0 + (1 : Int)))] t0)
def F31_j107 (B : World) (R : Po) (a0 : Lp) (b0 : Nat) (i0 : Lp) (j0 : Nat) (k0 : Lp) (l0 : Nat) (m0 : Lp) (n0 : Nat) (v0 : OA) (w0 x0 y0 : Int) (z0 : Heap) : Prop :=
((decide (w0 = (2 : Int))) = true →
 isP v0 fun a1 b1 =>
 iP a1 b1 fun c1 d1 =>
 iP c1 d1 fun e1 f1 => ∃ g1 i1 j1, cS z0 e1 f1 g1 i1 j1 ∧
 ixW g1 i1 x0 1 fun k1 l1 =>
 iP k1 l1 fun m1 n1 => ∃ o1 p1 q1, cS z0 m1 n1 o1 p1 q1 ∧
 ixW o1 p1 y0 1 fun r1 s1 =>
 iP r1 s1 fun t1 u1 => ∃ v1, cI z0 t1 u1 .i64 v1 ∧
 F31_j130 B R a0 b0 i0 j0 k0 l0 m0 n0 v0 w0 x0 y0 (!decide (v1 = (IntKind.i64.wrap ((-2 : Int) - x0)))) z0) ∧
((decide (w0 = (2 : Int))) = false →
 F31_j130 B R a0 b0 i0 j0 k0 l0 m0 n0 v0 w0 x0 y0 false z0)
def F31_j146 (B : World) (R : Po) (a0 : Lp) (b0 : Nat) (i0 : Lp) (j0 : Nat) (k0 : Lp) (l0 : Nat) (m0 : Lp) (n0 : Nat) (w1 : Lp) (x1 : Nat) (y1 : OA) (z1 a2 b2 : Int) (c2 : Bool) (d2 : Heap) : Prop :=
(c2 = true →
 isP y1 fun e2 f2 =>
 iP e2 f2 fun g2 i2 =>
 iP g2 i2 fun j2 k2 => ∃ l2 m2 n2, cS d2 j2 k2 l2 m2 n2 ∧
 ixW l2 m2 a2 1 fun o2 p2 =>
 iP o2 p2 fun q2 r2 => ∃ s2 t2 u2, cS d2 q2 r2 s2 t2 u2 ∧
(17 : Int) ≠ 0 ∧
 azW d2 s2 t2 u2 (IntKind.i64.wrap (b2 + (IntKind.i64.wrap ((IntKind.i64.wrap (Int.tdiv b2 (17 : Int))) * (80 : Int))))) 1 8 3 #[.int .i64 0] fun v2 w2 x2 y2 =>
 ixW v2 w2 (IntKind.i64.wrap ((w2 : Int) - (1 : Int))) 1 fun z2 a3 =>
 iP z2 a3 fun b3 c3 => stC y2 b3 c3 (.int .i64 (7 : Int)) fun d3 =>
∃ e3, e3 < x1 ∧ w1 e3 [.pointer y1, .int .i64 z1, .int .i64 a2, .int .i64 (IntKind.i64.wrap (b2 + (1 : Int)))] d3) ∧
(c2 = false →
 ∃ f3, f3 < l0 ∧ k0 f3 [.pointer y1, .int .i64 z1, .int .i64 (IntKind.i64.wrap (a2 + (1 : Int)))] d2)
def F31 (B : World) (R : Po) (g3 : OA) (h : Heap) : Prop :=
 ∃ a0 : Lp, ∃ i3, a0 i3 [.pointer g3, .int .i64 (0 : Int)] h ∧
∀ (b0 : Nat) (j3 : Heap) (k3 : OA) (l3 : Int), a0 b0 [.pointer k3, .int .i64 l3] j3 → ∀ _r : Nat → Value,
 isP k3 fun m3 n3 =>
 iP m3 n3 fun o3 p3 =>
 iP o3 p3 fun q3 r3 => ∃ s3 t3 u3, cS j3 q3 r3 s3 t3 u3 ∧
((decide (l3 < (t3 : Int))) = true →
 isP k3 fun v3 w3 =>
 iP v3 w3 fun x3 y3 =>
 iP x3 y3 fun z3 a4 => ∃ b4 c4 d4, cS j3 z3 a4 b4 c4 d4 ∧
 ixW b4 c4 l3 1 fun e4 f4 =>
 iP e4 f4 fun g4 i4 => ∃ j4 k4 l4, cS j3 g4 i4 j4 k4 l4 ∧
 isP k3 fun m4 n4 =>
 iP m4 n4 fun o4 p4 =>
 isP (some ⟨o4, p4 + 1, none⟩) fun q4 r4 => ∃ s4 t4 u4, cS j3 q4 r4 s4 t4 u4 ∧
 ixW s4 t4 l3 1 fun v4 w4 =>
 iP v4 w4 fun x4 y4 => ∃ z4 a5 b5, cS j3 x4 y4 z4 a5 b5 ∧
 Ec B 9 #[.slice j4 k4 l4, .slice z4 a5 b5] (retE (fun c5 d5 => ∃ e5, c5 = .bool e5 ∧
 F31_j44 B R a0 b0 k3 l3 (!e5) d5)
(fun _ _ => False)) j3) ∧
((decide (l3 < (t3 : Int))) = false →
 ∃ i0 : Lp, ∃ f5, i0 f5 [.pointer k3, .int .i64 (0 : Int)] j3 ∧
∀ (j0 : Nat) (g5 : Heap) (i5 : OA) (j5 : Int), i0 j0 [.pointer i5, .int .i64 j5] g5 → ∀ _r : Nat → Value,
((decide (j5 < (3 : Int))) = true →
 ∃ k0 : Lp, ∃ k5, k0 k5 [.pointer i5, .int .i64 j5, .int .i64 (0 : Int)] g5 ∧
∀ (l0 : Nat) (l5 : Heap) (m5 : OA) (n5 o5 : Int), k0 l0 [.pointer m5, .int .i64 n5, .int .i64 o5] l5 → ∀ _r : Nat → Value,
 isP m5 fun p5 q5 =>
 iP p5 q5 fun r5 s5 =>
 iP r5 s5 fun t5 u5 => ∃ v5 w5 x5, cS l5 t5 u5 v5 w5 x5 ∧
((decide (o5 < (w5 : Int))) = true →
 ∃ m0 : Lp, ∃ y5, m0 y5 [.pointer m5, .int .i64 n5, .int .i64 o5, .int .i64 (0 : Int)] l5 ∧
∀ (n0 : Nat) (z5 : Heap) (a6 : OA) (b6 c6 d6 : Int), m0 n0 [.pointer a6, .int .i64 b6, .int .i64 c6, .int .i64 d6] z5 → ∀ _r : Nat → Value,
 isP a6 fun e6 f6 =>
 iP e6 f6 fun g6 i6 =>
 iP g6 i6 fun j6 k6 => ∃ l6 m6 n6, cS z5 j6 k6 l6 m6 n6 ∧
 ixW l6 m6 c6 1 fun o6 p6 =>
 iP o6 p6 fun q6 r6 => ∃ s6 t6 u6, cS z5 q6 r6 s6 t6 u6 ∧
((decide (d6 < (t6 : Int))) = true →
((decide (b6 = (0 : Int))) = true →
 isP a6 fun v6 w6 =>
 iP v6 w6 fun x6 y6 =>
 iP x6 y6 fun z6 a7 => ∃ b7 c7 d7, cS z5 z6 a7 b7 c7 d7 ∧
 ixW b7 c7 c6 1 fun e7 f7 =>
 iP e7 f7 fun g7 i7 => ∃ j7 k7 l7, cS z5 g7 i7 j7 k7 l7 ∧
 ixW j7 k7 d6 1 fun m7 n7 =>
 iP m7 n7 fun o7 p7 => stC z5 o7 p7 (.int .i64 (IntKind.i64.wrap ((-2 : Int) - c6))) fun q7 =>
 F31_j107 B R a0 b0 i0 j0 k0 l0 m0 n0 a6 b6 c6 d6 q7) ∧
((decide (b6 = (0 : Int))) = false →
 F31_j107 B R a0 b0 i0 j0 k0 l0 m0 n0 a6 b6 c6 d6 z5)) ∧
((decide (d6 < (t6 : Int))) = false →
 ∃ w1 : Lp, ∃ r7, w1 r7 [.pointer a6, .int .i64 b6, .int .i64 c6, .int .i64 (1 : Int)] z5 ∧
∀ (x1 : Nat) (s7 : Heap) (t7 : OA) (u7 v7 w7 : Int), w1 x1 [.pointer t7, .int .i64 u7, .int .i64 v7, .int .i64 w7] s7 → ∀ _r : Nat → Value,
((decide (w7 ≤ (17 : Int))) = true →
 F31_j146 B R a0 b0 i0 j0 k0 l0 m0 n0 w1 x1 t7 u7 v7 w7 (decide (u7 = (1 : Int))) s7) ∧
((decide (w7 ≤ (17 : Int))) = false →
 F31_j146 B R a0 b0 i0 j0 k0 l0 m0 n0 w1 x1 t7 u7 v7 w7 false s7))) ∧
((decide (o5 < (w5 : Int))) = false →
 ∃ x7, x7 < j0 ∧ i0 x7 [.pointer m5, .int .i64 (IntKind.i64.wrap (n5 + (1 : Int)))] l5)) ∧
((decide (j5 < (3 : Int))) = false →
 R (.returned (.bool true)) g5))
def F31_L : Nat → List (Nat × TypeDesc) := fun i => match i with
  | 2 => [(0, .pointer 0), (3, .int .i64)]
  | 7 => [(0, .pointer 0), (4, .int .i64)]
  | 10 => [(0, .pointer 0), (4, .int .i64), (5, .int .i64)]
  | 13 => [(0, .pointer 0), (4, .int .i64), (5, .int .i64), (6, .int .i64)]
  | 20 => [(0, .pointer 0), (4, .int .i64), (5, .int .i64), (7, .int .i64)]
  | _ => []
theorem F31_ok {B : World} {R : Ending → Heap → Prop} (g3 : OA) {h : Heap} (H : F31 B R g3 h) : Ec B 6 #[.pointer g3] R h :=
 Ek Tryz.func6 (by kernel_rfl) (by kernel_rfl) (by kernel_rfl) F31_L [] (by kernel_rfl) H
end Go.Proofs
