import Derived.Test.YtpnfpefcjeafbaaGreatFmtA47
import Derived.Test.YtpnfpefcjeafbaaGreatFmtA26
import Derived.Test.YtpnfpefcjeafbaaGreatFmtA09
/- Here stand lemmas and contracts, in the order in which they are used. -/
set_option linter.unusedVariables false
set_option linter.unusedVariables false
/-! A list of structs that is being made; plumblaw5.total. -/
namespace Go.Eng
open Go
/-- A list of rows of w values that is being made, in blocks that g has not. -/
structure Lw (w : Nat) (g h : Heap) (p : Option Addr) (n c : Nat) (vs : List Value) : Prop where
  sl : vs = [] ∨ ∃ b o cs, p = some ⟨b, o, none⟩ ∧ Own h b cs ∧ ∀ i (hi : i < vs.length), cs[o + i]? = some vs[i]
  len : vs.length = n * w
  room : c = 0 ∨ ∃ b o cs, p = some ⟨b, o, none⟩ ∧ Own h b cs ∧ o + c * w ≤ cs.size ∧ g.size ≤ b
  le : n ≤ c
  pt : Pt p
theorem Lw.nil {w : Nat} {g h : Heap} : Lw w g h none 0 0 [] := ⟨.inl rfl, by simp, .inl rfl, Nat.le_refl _, .inl rfl⟩
theorem Lw.ext {w : Nat} {g h h' : Heap} {p : Option Addr} {n c : Nat} {vs : List Value} (L : Lw w g h p n c vs) (f : Ext h h') : Lw w g h' p n c vs := by
  refine ⟨?_, L.len, ?_, L.le, L.pt⟩
  · rcases L.sl with k | ⟨b, o, cs, a1, a2, a3⟩
    · exact .inl k
    · exact .inr ⟨b, o, cs, a1, a2.ext f, a3⟩
  · rcases L.room with k | ⟨b, o, cs, a1, a2, a3⟩
    · exact .inl k
    · exact .inr ⟨b, o, cs, a1, a2.ext f, a3⟩
theorem zerosL_size (z : Array Value) (n : Nat) : (zerosL z n).length = n * z.size := by simp [zerosL]
/-- One row appended. -/
theorem apRow {w : Nat} {g h : Heap} {p : Option Addr} {n c r e bytes : Nat} {vs xs : List Value} {z : Array Value} {K : Option Addr → Nat → Nat → Heap → Prop} (hw : 0 < w) (hz : z.size = w) (hb : 0 < bytes) (hb2 : bytes ≤ 100) (L : Lw w g h p n c vs) (hg : g.size ≤ h.size) (hn : n ≤ 1000000000)
    (hx : Own h r xs.toArray) (hl : xs.length = w) (ho : ∀ v ∈ xs, oneCell v = true)
    (hk : ∀ q c' h', Lw w g h' q (n + 1) c' (vs ++ xs) → ((q = p ∧ 0 < c ∧ Fr (fun x => ∃ o, p = some ⟨x, o, none⟩) h h') ∨ (q = some ⟨h.size, 0, none⟩ ∧ Ext h h')) → K q (n + 1) c' h') :
    apW h p n c (some ⟨r, 0, none⟩) 1 w bytes e z K := by
  have hrow : rowAt h (some ⟨r, 0, none⟩) (1 * w) xs := ⟨by omega, r, 0, rfl, fun i hi => by
    rw [hx.cell, Nat.zero_add, List.getElem?_toArray, List.getElem?_eq_getElem hi]⟩
  have hlen := L.len
  have hmul : (n + 1) * w = n * w + w := by rw [Nat.add_mul, Nat.one_mul]
  refine ⟨fun hle => ⟨_, hrow, ?_⟩, fun hlt => ⟨hb, by omega, ?_, vs, xs, ?_, hrow, fun cap h1 h2 => ?_⟩⟩
  · rcases L.room with hr | ⟨b, o, cs, e1, e2, e3, e4⟩
    · omega
    have hcw : (n + 1) * w ≤ c * w := Nat.mul_le_mul_right _ hle
    subst e1
    obtain ⟨cs', O', s', g1, g2, f⟩ := setRow_own xs h (o + n * w) cs e2 (by omega)
    refine ⟨b, o, rfl, ho, fun i hi => ⟨⟨_, by rw [e2.cell, Array.getElem?_eq_getElem (by omega)]⟩, e2.frozen _⟩, ?_⟩
    refine hk _ _ _ ⟨.inr ⟨b, o, cs', rfl, O', fun i hi => ?_⟩, by rw [List.length_append]; omega, .inr ⟨b, o, cs', rfl, O', by omega, e4⟩, hle, .inr ⟨b, o, rfl⟩⟩ (.inl ⟨rfl, by omega, Fr.mono f fun x _ e => by rw [e]; exact ⟨o, rfl⟩⟩)
    rw [List.length_append] at hi
    by_cases hil : i < vs.length
    · rw [List.getElem_append_left hil, g2 _ (by omega)]
      rcases L.sl with k | ⟨b', o', cs2, f1, f2, f3⟩
      · subst k; exact absurd hil (by simp)
      · cases f1; rw [e2.inj f2]; exact f3 i hil
    · have hi2 : i - vs.length < xs.length := by omega
      have := g1 (i - vs.length) hi2
      rw [show o + n * w + (i - vs.length) = o + i by omega] at this
      rw [this, List.getElem_append_right (by omega)]
  · have h1 := nsc_le hlt
    have h2 : Builtin.nextslicecap (n + 1) c * bytes ≤ (2 * (n + 1) + 200) * 100 := Nat.mul_le_mul h1 hb2
    omega
  · rcases L.pt with e | ⟨b, o, e⟩
    · subst e
      rcases L.sl with k | ⟨b', o', cs2, f1, f2, f3⟩
      · exact k
      · cases f1
    · subst e
      refine ⟨hlen, b, o, rfl, fun i hi => ?_⟩
      rcases L.sl with k | ⟨b', o', cs2, f1, f2, f3⟩
      · subst k; exact absurd hi (by simp)
      · cases f1; rw [f2.cell]; exact f3 i hi
  · have H' : Own (h.push (.cells (vs ++ xs ++ zerosL z (cap - (n + 1))).toArray e)) h.size _ := own_new
    refine hk _ _ _ ⟨.inr ⟨_, 0, _, rfl, H', fun i hi => ?_⟩, by rw [List.length_append]; omega, .inr ⟨_, 0, _, rfl, H', ?_, hg⟩, h1, .inr ⟨_, _, rfl⟩⟩ (.inr ⟨rfl, Ext.push⟩)
    · rw [Nat.zero_add, List.getElem?_toArray, List.getElem?_append_left hi, List.getElem?_eq_getElem hi]
    · rw [List.size_toArray, List.length_append, List.length_append, zerosL_size, hz, hlen, hl]
      have : cap * w = (n + 1) * w + (cap - (n + 1)) * w := by rw [← Nat.add_mul]; congr 1; omega
      omega
end Go.Eng
namespace Go.Proofs
open Go Go.Eng
variable {B : World} {R : Ending → Heap → Prop} {h : Heap}
theorem NumS.lt {K : Nat} {neg : Bool} {p : Option Addr} {n : Nat} {e v : Int} (N : NumS K h neg p n e v) (hn : 0 < n) : ∀ b o, p = some ⟨b, o, none⟩ → b < h.size := by
  obtain ⟨M, N1, _⟩ := N
  intro b o hp
  rcases N1.d.sl with k | ⟨b', o', cs, e1, e2, _⟩
  · have := N1.d.len; rw [k] at this; simp at this; omega
  · rw [hp] at e1; cases e1; exact e2.lt
theorem NumS.fr2 {K : Nat} {h' : Heap} {neg : Bool} {p : Option Addr} {n : Nat} {e v : Int} {S : Nat → Prop} (H : NumS K h neg p n e v) (f : Fr S h h') (hp : 0 < n → ∀ b o, p = some ⟨b, o, none⟩ → ¬ S b) : NumS K h' neg p n e v := by
  rcases Nat.eq_zero_or_pos n with a | a
  · obtain ⟨M, N1, N2⟩ := H
    have hd : digs B30 M = [] := List.eq_nil_of_length_eq_zero (by rw [N1.d.len, a])
    refine ⟨M, ⟨⟨N1.d.pt, .inl hd, N1.d.len, N1.d.dig, N1.d.trim⟩, N1.le, N1.zero, N1.pos⟩, N2⟩
  · exact H.fr f (hp a)
theorem lsum_bl {L : Nat} {vs : List Int} (h : ∀ v ∈ vs, bl v.natAbs ≤ L) : bl vs.sum.natAbs ≤ L + vs.length := by
  induction vs with
  | nil => exact Nat.zero_le _
  | cons v r ih =>
    rw [List.sum_cons, List.length_cons]
    have h1 := h v (List.mem_cons_self ..)
    have h2 := ih fun x hx => h x (List.mem_cons_of_mem _ hx)
    exact bl_add (L := L + r.length) (by omega) h2
/-- dyadic.Sum, of any list. -/
theorem K119g {K n c : Nat} {p : Option Addr} {vs : List Int} (ht : TabH h) (N : NumL K h p vs) (hn : vs.length = n) (hl : n ≤ 20000) (hK : K ≤ 1048576) (hv : ∀ v ∈ vs, bl v.natAbs ≤ 3000)
    (H : ∀ neg' p' n' c' e' h', Ext h h' → Fresh h p' → NumS K h' neg' p' n' e' vs.sum → R (.returned (.tuple #[.agg #[.bool neg', .slice p' n' c', .int .i64 e'], .int .i64 (0 : Int)])) h') :
    Ent Tryz.prog B 52 #[.slice p n c] R h := by
  refine F119_ok _ _ _ (alK fun r2 h3 e2 f2 o2 z2 => alK fun r4 h5 e4 f4 o4 z4 => ?_)
  have F := Ext.trans f2 f4
  refine K67 (N.ext F) hn (by omega) fun xs h28 f28 X => ⟨_, _, _, rfl, ?_⟩
  refine K66 X hn (by omega) hK (fun i _ => ?_) (fun x hx => Nat.le_trans (hv x hx) (by decide)) fun r q m e' h46 f46 I he hs => ⟨_, _, rfl, ?_⟩
  · have := lsum_bl (L := 3000) (vs := vs.take i) fun v h => hv v (List.mem_of_mem_take h)
    have h2 : (vs.take i).length ≤ n := by rw [List.length_take, hn]; exact Nat.min_le_right _ _
    omega
  refine K65 (ht.ext (Ext.trans F (Ext.trans f28 f46))) I he hs (by have := lsum_bl hv; omega) hK fun neg' p' n' c' e' h65 f65 fr65 N => ⟨_, _, _, _, _, rfl, ?_⟩
  have FX := Ext.trans f28 (Ext.trans f46 f65)
  have s5 := F.size
  have s46 := (Ext.trans f28 f46).size
  have l2 := (o2.ext f4).lt
  have l4 := o4.lt
  refine numEnd ((o2.ext f4).ext FX) (o4.ext FX) (by omega) fun h' f => ?_
  exact H neg' p' n' c' e' h' (Fr.trans (Ext.trans F FX) f fun x hx e => by omega) (fr65.mono (by omega)) (N.fr f fun b o e e3 => by have := fr65 b o e; omega)
/-- The cells of numbers. -/
def numC (t : Bool × Option Addr × Nat × Nat × Int) : List Value := [.bool t.1, .slice t.2.1 t.2.2.1 t.2.2.2.1, .int .i64 t.2.2.2.2]
def numCs (ts : List (Bool × Option Addr × Nat × Nat × Int)) : List Value := ts.flatMap numC
theorem numCs_len (ts) : (numCs ts).length = ts.length * 3 := by
  induction ts with
  | nil => rfl
  | cons t r ih => rw [show numCs (t :: r) = numC t ++ numCs r from rfl, List.length_append, ih, List.length_cons]; show 3 + _ = _; omega
theorem numCs_get (ts : List (Bool × Option Addr × Nat × Nat × Int)) (i : Nat) (hi : i < ts.length) (k : Nat) (hk : k < 3) : (numCs ts)[i * 3 + k]? = (numC ts[i])[k]? := by
  induction ts generalizing i with
  | nil => simp at hi
  | cons t r ih =>
    rw [show numCs (t :: r) = numC t ++ numCs r from rfl]
    have h3 : (numC t).length = 3 := rfl
    cases i with
    | zero => rw [Nat.zero_mul, Nat.zero_add, List.getElem?_append_left (by omega)]; rfl
    | succ i =>
      rw [List.getElem?_append_right (by omega), h3, show (i + 1) * 3 + k - 3 = i * 3 + k by omega, ih i (by simpa using hi)]
      rfl
/-- Numbers of a list, whose digits lie apart from the block of p. -/
def NumT (K : Nat) (h : Heap) (p : Option Addr) (ts : List (Bool × Option Addr × Nat × Nat × Int)) (vs : List Int) : Prop :=
  ts.length = vs.length ∧ ∀ i (hi : i < ts.length) (hv : i < vs.length), NumS K h ts[i].1 ts[i].2.1 ts[i].2.2.1 ts[i].2.2.2.2 vs[i] ∧ (0 < ts[i].2.2.1 → ∀ b o o', ts[i].2.1 = some ⟨b, o, none⟩ → p ≠ some ⟨b, o', none⟩)
theorem numL_of {K : Nat} {g : Heap} {p : Option Addr} {n c : Nat} {ts : List (Bool × Option Addr × Nat × Nat × Int)} {vs : List Int} (L : Lw 3 g h p n c (numCs ts)) (N : NumT K h p ts vs) : NumL K h p vs := by
  obtain ⟨hl, hN⟩ := N
  rcases L.sl with k | ⟨b, o, cs, e1, e2, e3⟩
  · have := numCs_len ts
    rw [k] at this
    simp at this
    exact .inl (List.eq_nil_of_length_eq_zero (by omega))
  · refine .inr ⟨b, o, cs, e1, e2, fun i hi => ?_⟩
    have hi' : i < ts.length := by omega
    have hc := numCs_len ts
    have get : ∀ k, k < 3 → cs[o + (i * 3 + k)]? = (numC ts[i])[k]? := fun k hk => by
      rw [e3 (i * 3 + k) (by omega), ← List.getElem?_eq_getElem, numCs_get ts i hi' k hk]
    have g0 := get 0 (by decide)
    have g1 := get 1 (by decide)
    have g2 := get 2 (by decide)
    refine ⟨_, _, _, ts[i].2.2.2.1, _, ?_, ?_, ?_, (hN i hi' hi).1⟩
    · rw [Nat.add_zero] at g0; exact g0
    · rw [Nat.add_assoc]; exact g1
    · rw [Nat.add_assoc, Nat.add_assoc]; exact g2
theorem sum_sV (l : List Int) : (l.map fV).sum = sV l := by
  induction l with
  | nil => rfl
  | cons a r ih => rw [List.map_cons, List.sum_cons, ih]; rfl
theorem fV_bl2 {b : Int} (fb : isFin b = true) : bl (fV b).natAbs ≤ 3000 := by
  obtain ⟨K, hK⟩ : ∃ K, K = 2098 := ⟨_, rfl⟩
  exact bl_of_lt (a := K + 1) (Nat.lt_of_le_of_lt (fV_bd fb hK) (Nat.pow_lt_pow_right (by decide) (by omega))) (by omega)
/-- plumblaw5.total. -/
theorem K1362 {p : Option Addr} {n c : Nat} {l : List Int} (ht : TabH h) (I : IntsH h p l) (hn : l.length = n) (hl : n ≤ 10000) (hf : ∀ x ∈ l, isFin x = true)
    (H : ∀ neg q m c' e h', Ext h h' → NumS 1074 h' neg q m e (sV l) → R (.returned (.agg #[.bool neg, .slice q m c', .int .i64 e])) h') : Ent Tryz.prog B 23 #[.slice p n c] R h := by
  refine F1362_ok _ _ _ (alK fun r1 h1 e1 f1 o1 z1 => ?_)
  have s1 := f1.size
  refine ⟨fun k vs h' => match vs with
    | [.slice p1 n1 c1, .pointer a, .slice g gn gc, .int _ i] => p = p1 ∧ n = n1 ∧ c = c1 ∧ a = some (⟨r1, 0, none⟩ : Addr) ∧ ∃ (j : Nat) (ts : List (Bool × Option Addr × Nat × Nat × Int)), i = (j : Int) ∧ j ≤ n ∧ k = n - j ∧ gn = j ∧ Ext h1 h' ∧ Lw 3 h1 h' g gn gc (numCs ts) ∧ NumT 1074 h' g ts ((l.take j).map fV)
    | _ => False, n, ⟨rfl, rfl, rfl, rfl, 0, [], rfl, by omega, by omega, rfl, Fr.rfl', Lw.nil, rfl, fun i hi => absurd hi (by simp)⟩, ?_⟩
  rintro k h' _ _ _ _ g gn gc _ ⟨rfl, rfl, rfl, rfl, j, ts, rfl, hj, rfl, rfl, F, L, hT, hN⟩ _
  have sF := F.size
  have F1 := Ext.trans f1 F
  refine ⟨fun e => ?_, fun e => ?_⟩
  · have hjl : gn < l.length := by have := of_decide_eq_true e; omega
    refine (I.ext F1).get hn hjl (K21 (ht.ext F1) (hf _ (List.getElem_mem hjl)) fun neg q m c' e' h2 f2 fr N => ⟨_, _, _, _, _, _, rfl, ?_⟩)
    refine alK fun r3 h3 e3 f3 o3 z3 => ⟨r3, 0, rfl, o3.stC (by simp) rfl fun oa fa => oa.stC (by simp) rfl fun ob fb => ob.stC (by simp) rfl fun oc fc => ⟨r3, 0, rfl, _, oc.cell _, _, _, _, oc.cell _, _, oc.cell _, ?_⟩⟩
    have fabc := Fr.trans (S := fun x => x = r3) (Fr.trans (S := fun x => x = r3) fa fb fun _ _ e => e) fc fun _ _ e => e
    generalize setCell (setCell (setCell h3 _ _) _ _) _ _ = h4 at *
    have G4 : Ext h2 h4 := Fr.trans (S := fun _ => False) f3 fabc fun x hx e => by omega
    refine alK fun r5 h5 e5 f5 o5 z5 => ?_
    have G5 : Ext h2 h5 := Ext.trans G4 f5
    have G25 := Ext.trans f2 G5
    have N5 := N.ext G5
    have s25 := G25.size
    have s2 := f2.size
    refine apRow (xs := numC (neg, q, m, c', e')) (by decide) rfl (by decide) (by decide) (L.ext G25) (by omega) (by omega) o5 rfl (fun v hv => ?_) fun q2 c2 h6 L6 hq => ?_
    · simp only [numC, List.mem_cons, List.not_mem_nil, or_false] at hv
      rcases hv with rfl | rfl | rfl <;> rfl
    have e6 : numCs ts ++ numC (neg, q, m, c', e') = numCs (ts ++ [(neg, q, m, c', e')]) := by unfold numCs; rw [List.flatMap_append]; simp
    rw [e6] at L6
    have hE : Ext h1 h6 := by
      rcases hq with ⟨_, hc0, f⟩ | ⟨_, f⟩
      · refine Fr.trans (S := fun _ => False) (Ext.trans F G25) f fun x hx ⟨o, ho⟩ => ?_
        rcases L.room with k | ⟨b, o', cs, a1, a2, a3, a4⟩
        · omega
        · rw [ho] at a1; cases a1; omega
      · exact Ext.trans (Ext.trans F G25) f
    have htl : (l.take (gn + 1)).map fV = (l.take gn).map fV ++ [fV l[gn]] := by rw [List.take_succ_eq_append_getElem hjl, List.map_append]; rfl
    refine ⟨n - (gn + 1), by omega, rfl, rfl, rfl, rfl, gn + 1, ts ++ [(neg, q, m, c', e')], ?_, by omega, rfl, rfl, hE, L6, ?_⟩
    · rw [i64_in (by omega) (by omega)]; rfl
    rw [htl]
    refine ⟨by rw [List.length_append, List.length_append, hT]; rfl, fun i hi hv => ?_⟩
    have hlen : ((l.take gn).map fV).length = gn := by rw [List.length_map, List.length_take]; omega
    by_cases hij : i < ts.length
    · obtain ⟨a1, a2⟩ := hN i hij (by omega)
      rw [List.getElem_append_left hij]
      have hv2 : ((l.take gn).map fV ++ [fV l[gn]])[i] = ((l.take gn).map fV)[i]'(by omega) := List.getElem_append_left (by omega)
      rw [hv2]
      have a1' := a1.ext G25
      rcases hq with ⟨rfl, hc0, f⟩ | ⟨rfl, f⟩
      · exact ⟨a1'.fr2 f fun h0 b o hb ⟨o', ho'⟩ => a2 h0 b o o' hb ho', a2⟩
      · refine ⟨a1'.ext f, fun h0 b o o' hb hq' => ?_⟩
        have := a1'.lt h0 b o hb
        cases hq'
        omega
    · have hi2 : i = ts.length := by rw [List.length_append] at hi; simp at hi; omega
      subst hi2
      have e1 : (ts ++ [(neg, q, m, c', e')])[ts.length] = (neg, q, m, c', e') := by simp
      have e2 : ((l.take gn).map fV ++ [fV l[gn]])[ts.length] = fV l[gn] := by
        rw [List.getElem_append_right (by omega)]; simp
      rw [e1, e2]
      rcases hq with ⟨rfl, hc0, f⟩ | ⟨rfl, f⟩
      · have hap : 0 < m → ∀ b o o', q = some ⟨b, o, none⟩ → q2 ≠ some ⟨b, o', none⟩ := fun h0 b o o' hb hp => by
          have := fr b o hb
          rcases L.room with k | ⟨b2, o2, cs, a1, a2, a3, a4⟩
          · omega
          · rw [hp] at a1; cases a1; have := a2.lt; omega
        exact ⟨N5.fr2 f fun h0 b o hb ⟨o', ho'⟩ => hap h0 b o o' hb ho', hap⟩
      · refine ⟨N5.ext f, fun h0 b o o' hb hq' => ?_⟩
        have := N5.lt h0 b o hb
        cases hq'
        omega
  · have hjn : gn = n := by have := of_decide_eq_false e; omega
    rw [List.take_of_length_le (by omega)] at hT hN
    have NL := numL_of L ⟨hT, hN⟩
    refine K119g (ht.ext F1) NL (by rw [List.length_map]; omega) (by omega) (by decide) (fun v hv => ?_) fun neg q m c' e' h2 f2 fr N => ⟨_, _, _, _, _, _, rfl, ?_⟩
    · obtain ⟨x, hx, rfl⟩ := List.mem_map.1 hv
      exact fV_bl2 (hf x hx)
    rw [sum_sV] at N
    refine alK fun r3 h3 e3 f3 o3 z3 => ⟨r3, 0, rfl, o3.stC (by simp) rfl fun oa fa => oa.stC (by simp) rfl fun ob fb => ob.stC (by simp) rfl fun oc fc => ⟨r3, 0, rfl, _, oc.cell _, _, _, _, oc.cell _, _, oc.cell _, ?_⟩⟩
    have fabc := Fr.trans (S := fun x => x = r3) (Fr.trans (S := fun x => x = r3) fa fb fun _ _ e => e) fc fun _ _ e => e
    generalize setCell (setCell (setCell h3 _ _) _ _) _ _ = h4 at *
    have G4 : Ext h2 h4 := Fr.trans (S := fun _ => False) f3 fabc fun x hx e => by omega
    have G14 : Ext h1 h4 := Ext.trans (Ext.trans F f2) G4
    have O1 := o1.ext G14
    refine ⟨r1, 0, rfl, O1.stC (by simp) rfl fun oa' fa' => oa'.stC (by simp) rfl fun ob' fb' => ob'.stC (by simp) rfl fun oc' fc' => ⟨r1, 0, rfl, _, oc'.cell _, _, _, _, oc'.cell _, _, oc'.cell _, ?_⟩⟩
    have fabc' := Fr.trans (S := fun x => x = r1) (Fr.trans (S := fun x => x = r1) fa' fb' fun _ _ e => e) fc' fun _ _ e => e
    have N4 := N.ext G4
    have lr := o1.lt
    exact H neg q m c' e' _ (Fr.trans (S := fun _ => False) (Ext.trans f1 G14) fabc' fun x hx e => by omega) (N4.fr fabc' fun b o hb e => by have := fr b o hb; omega)
end Go.Proofs
namespace Go.Proofs
open Go Go.Eng
/-- plumb/plumblaw5.SumsWide -/
def F1381_j5 (B : World) (R : Po) (a0 : Lp) (b0 : Nat) (c0 : OA) (d0 e0 : Nat) (f0 : Int) (g0 : OA) (i0 j0 : Nat) (k0 : OA) (l0 m0 : Nat) (n0 : Int) (o0 : Heap) : Prop :=
 ∃ p0, p0 < b0 ∧ a0 p0 [.slice c0 d0 e0, .int .i64 f0, .slice g0 i0 j0, .slice k0 l0 m0, .int .i64 (IntKind.i64.wrap (n0 + (1 : Int)))] o0
def F1381_j6 (B : World) (R : Po) (a0 : Lp) (b0 : Nat) (q0 : OA) (r0 s0 : Nat) (t0 : Int) (u0 : OA) (v0 w0 : Nat) (x0 : OA) (y0 z0 : Nat) (a1 : Int) (b1 : Heap) : Prop :=
 ixW q0 r0 a1 1 fun c1 d1 =>
 iP c1 d1 fun e1 f1 => ∃ g1, cI b1 e1 f1 .i64 g1 ∧
 Ec B 19 #[.int .i64 (bitsI .and .i64 g1 (4294967295 : Int))] (retE (fun i1 j1 => ∃ k1, i1 = .int .i64 k1 ∧
((decide (k1 < (3 : Int))) = true →
 alW j1 (.cells #[.int .i64 (bitsI .and .i64 g1 (4294967295 : Int))] 3) fun l1 m1 =>
 apW m1 u0 v0 w0 (some ⟨l1, 0, none⟩) 1 1 8 3 #[.int .i64 0] fun n1 o1 p1 q1 =>
 Ec B 20 #[.int .i64 (bitsI .and .i64 g1 (4294967295 : Int))] (retE (fun r1 s1 => ∃ t1, r1 = .int .i64 t1 ∧
 alW s1 (.cells #[.int .i64 t1] 3) fun u1 v1 =>
 apW v1 x0 y0 z0 (some ⟨u1, 0, none⟩) 1 1 8 3 #[.int .i64 0] fun w1 x1 y1 z1 =>
 F1381_j5 B R a0 b0 q0 r0 s0 t0 n1 o1 p1 w1 x1 y1 a1 z1)
(pk R)) q1) ∧
((decide (k1 < (3 : Int))) = false →
 F1381_j5 B R a0 b0 q0 r0 s0 t0 u0 v0 w0 x0 y0 z0 a1 j1))
(pk R)) b1
def F1381_j82 (B : World) (R : Po) (a2 : Bool) (b2 : Heap) : Prop :=
 R (.returned (.bool a2)) b2
def F1381_j77 (B : World) (R : Po) (c2 d2 : Int) (e2 : Bool) (f2 : Heap) : Prop :=
(e2 = true →
 F1381_j82 B R (decide (c2 = d2)) f2) ∧
(e2 = false →
 F1381_j82 B R false f2)
def F1381_j115 (B : World) (R : Po) (g2 : Bool) (i2 : Heap) : Prop :=
 R (.returned (.bool g2)) i2
def F1381_j110 (B : World) (R : Po) (j2 k2 : Int) (l2 : Bool) (m2 : Heap) : Prop :=
(l2 = true →
 F1381_j115 B R (decide (j2 = k2)) m2) ∧
(l2 = false →
 F1381_j115 B R false m2)
def F1381 (B : World) (R : Po) (n2 : OA) (o2 p2 : Nat) (q2 : Int) (h : Heap) : Prop :=
 ∃ a0 : Lp, ∃ r2, a0 r2 [.slice n2 o2 p2, .int .i64 (bitsI .and .i64 q2 (3 : Int)), .slice none 0 0, .slice none 0 0, .int .i64 (0 : Int)] h ∧
∀ (b0 : Nat) (s2 : Heap) (t2 : OA) (u2 v2 : Nat) (w2 : Int) (x2 : OA) (y2 z2 : Nat) (a3 : OA) (b3 c3 : Nat) (d3 : Int), a0 b0 [.slice t2 u2 v2, .int .i64 w2, .slice x2 y2 z2, .slice a3 b3 c3, .int .i64 d3] s2 → ∀ _r : Nat → Value,
((decide (d3 < (u2 : Int))) = true →
((decide (d3 < (200 : Int))) = true →
 F1381_j6 B R a0 b0 t2 u2 v2 w2 x2 y2 z2 a3 b3 c3 d3 s2) ∧
((decide (d3 < (200 : Int))) = false →
 Ec B 21 #[.slice x2 y2 z2, .int .i64 w2] (retE (fun e3 f3 => ∃ g3 i3, e3 = .tuple #[.int .i64 g3, .int .i64 i3] ∧
 Ec B 23 #[.slice a3 b3 c3] (retE (fun j3 k3 => ∃ l3 m3 n3 o3 p3, j3 = .agg #[.bool l3, .slice m3 n3 o3, .int .i64 p3] ∧
 Ec B 22 #[.agg #[.bool l3, .slice m3 n3 o3, .int .i64 p3], .int .i64 w2] (retE (fun q3 r3 => ∃ s3 t3 u3, q3 = .tuple #[.int .i64 s3, .bool t3, .int .i64 u3] ∧
 Ec B 8 #[] (retE (fun v3 w3 => ∃ x3, v3 = .bool x3 ∧
(x3 = true →
 F1381_j77 B R g3 s3 (decide (i3 = (0 : Int))) w3) ∧
(x3 = false →
 F1381_j77 B R g3 s3 false w3))
(pk R)) r3)
(pk R)) k3)
(pk R)) f3)
(pk R)) s2)) ∧
((decide (d3 < (u2 : Int))) = false →
(false = true →
 F1381_j6 B R a0 b0 t2 u2 v2 w2 x2 y2 z2 a3 b3 c3 d3 s2) ∧
(false = false →
 Ec B 21 #[.slice x2 y2 z2, .int .i64 w2] (retE (fun y3 z3 => ∃ a4 b4, y3 = .tuple #[.int .i64 a4, .int .i64 b4] ∧
 Ec B 23 #[.slice a3 b3 c3] (retE (fun c4 d4 => ∃ e4 f4 g4 i4 j4, c4 = .agg #[.bool e4, .slice f4 g4 i4, .int .i64 j4] ∧
 Ec B 22 #[.agg #[.bool e4, .slice f4 g4 i4, .int .i64 j4], .int .i64 w2] (retE (fun k4 l4 => ∃ m4 n4 o4, k4 = .tuple #[.int .i64 m4, .bool n4, .int .i64 o4] ∧
 Ec B 8 #[] (retE (fun p4 q4 => ∃ r4, p4 = .bool r4 ∧
(r4 = true →
 F1381_j110 B R a4 m4 (decide (b4 = (0 : Int))) q4) ∧
(r4 = false →
 F1381_j110 B R a4 m4 false q4))
(pk R)) l4)
(pk R)) d4)
(pk R)) z3)
(pk R)) s2))
def F1381_L : Nat → List (Nat × TypeDesc) := fun i => match i with
  | 4 => [(0, .slice 0), (1, .int .i64), (5, .slice 0), (6, .slice 0), (7, .int .i64)]
  | _ => []
def F1381_J (B : World) (R : Po) : Nat → Option JT := fun i => match i with
  | 5 => some ⟨[(0, .slice 0), (1, .int .i64), (5, .slice 0), (6, .slice 0), (7, .int .i64)], fun s v h => match s, v with
    | [(a0, b0)], [.slice c0 d0 e0, .int _ f0, .slice g0 i0 j0, .slice k0 l0 m0, .int _ n0] => F1381_j5 B R a0 b0 c0 d0 e0 f0 g0 i0 j0 k0 l0 m0 n0 h
    | _, _ => False⟩
  | 6 => some ⟨[(0, .slice 0), (1, .int .i64), (5, .slice 0), (6, .slice 0), (7, .int .i64)], fun s v h => match s, v with
    | [(a0, b0)], [.slice q0 r0 s0, .int _ t0, .slice u0 v0 w0, .slice x0 y0 z0, .int _ a1] => F1381_j6 B R a0 b0 q0 r0 s0 t0 u0 v0 w0 x0 y0 z0 a1 h
    | _, _ => False⟩
  | _ => none
theorem F1381_ok {B : World} {R : Ending → Heap → Prop} (n2 : OA) (o2 p2 : Nat) (q2 : Int) {h : Heap} (H : F1381 B R n2 o2 p2 q2 h) : Ec B 5 #[.slice n2 o2 p2, .int .i64 q2] R h :=
 Ej Tryz.func5 (by kernel_rfl) (by kernel_rfl) (by kernel_rfl) F1381_L (F1381_J B R) [] (by kernel_rfl) (by kernel_rfl) H

/-- plumb/bits.Class32 -/
def F1388 (B : World) (R : Po) (a0 : Int) (h : Heap) : Prop :=
 Ec B 43 #[.int .i64 a0] (retE (fun b0 c0 => ∃ d0, b0 = .bool d0 ∧
((!d0) = true →
 R (.returned (.int .i64 (4 : Int))) c0) ∧
((!d0) = false →
 0 ≤ (23 : Int) ∧
 Ec B 44 #[.int .i64 (bitsI .and .i64 (Int.fdiv a0 (2 ^ min (Int.toNat (23 : Int)) IntKind.i64.bits)) (255 : Int)), .int .i64 (bitsI .and .i64 a0 (8388607 : Int)), .int .i64 (255 : Int)] (retE (fun e0 f0 => ∃ g0, e0 = .int .i64 g0 ∧
 R (.returned (.int .i64 g0)) f0)
(pk R)) c0))
(pk R)) h
def F1388_L : Nat → List (Nat × TypeDesc) := fun _ => []
theorem F1388_ok {B : World} {R : Ending → Heap → Prop} (a0 : Int) {h : Heap} (H : F1388 B R a0 h) : Ec B 19 #[.int .i64 a0] R h :=
 Ek Tryz.func19 (by kernel_rfl) (by kernel_rfl) (by kernel_rfl) F1388_L [] (by kernel_rfl) H
end Go.Proofs
