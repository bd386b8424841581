import Derived.Test.YtobkdplpkgikhaaGreatFmtA08
/- Here stand lemmas and contracts, in the order in which they are used. -/
set_option linter.unusedVariables false
namespace Go.Eng
open Go

/-- The frame: the blocks of h other than those of S are as they were. -/
structure Fr (S : Nat → Prop) (h h' : Heap) : Prop where
  size : h.size ≤ h'.size
  same : ∀ b, b < h.size → ¬ S b → h'[b]? = h[b]?
/-- Only new blocks. -/
abbrev Ext (h h' : Heap) : Prop := Fr (fun _ => False) h h'
theorem Fr.rfl' {S : Nat → Prop} {h : Heap} : Fr S h h := ⟨Nat.le_refl _, fun _ _ _ => rfl⟩
theorem Fr.trans {S T : Nat → Prop} {h h' h'' : Heap} (a : Fr S h h') (b : Fr T h' h'') (ht : ∀ x, x < h.size → T x → S x) : Fr S h h'' :=
  ⟨Nat.le_trans a.size b.size, fun x hx hs => (b.same x (Nat.lt_of_lt_of_le hx a.size) (fun t => hs (ht x hx t))).trans (a.same x hx hs)⟩
theorem Fr.mono {S T : Nat → Prop} {h h' : Heap} (a : Fr S h h') (ht : ∀ x, x < h.size → S x → T x) : Fr T h h' :=
  ⟨a.size, fun x hx hs => a.same x hx fun s => hs (ht x hx s)⟩
theorem Ext.trans {h h' h'' : Heap} (a : Ext h h') (b : Ext h' h'') : Ext h h'' := Fr.trans a b fun _ _ t => t
theorem Ext.to {S : Nat → Prop} {h h' : Heap} (a : Ext h h') : Fr S h h' := Fr.mono a fun _ _ t => t.elim
theorem Ext.push {h : Heap} {o : Obj} : Ext h (h.push o) :=
  ⟨by simp, fun b hb _ => by rw [Array.getElem?_push]; simp [Nat.ne_of_lt hb]⟩
theorem Fr.push {S : Nat → Prop} {h h' : Heap} {o : Obj} (a : Fr S h h') : Fr S h (h'.push o) := Fr.trans a (Ext.push (o := o)) fun _ _ t => t.elim
theorem Fr.new {S : Nat → Prop} {h h' : Heap} {b : Nat} (hb : h.size ≤ b) (a : Fr S h h') {h'' : Heap} (c : Fr (fun x => x = b) h' h'') : Fr S h h'' :=
  Fr.trans a c fun x hx e => absurd hx (by subst e; omega)

/-- The block b is cs. -/
def Own (h : Heap) (b : Nat) (cs : Array Value) : Prop := ∃ e, h[b]? = some (.cells cs e (0, 0))
theorem Own.lt {h : Heap} {b : Nat} {cs : Array Value} : Own h b cs → b < h.size
  | ⟨_, he⟩ => by rcases Array.getElem?_eq_some_iff.1 he with ⟨hb, _⟩; exact hb
theorem Own.cell {h : Heap} {b : Nat} {cs : Array Value} (H : Own h b cs) (o : Nat) : cell? h ⟨b, o, none⟩ = cs[o]? := by
  obtain ⟨e, he⟩ := H; simp [cell?, he]
theorem Own.frozen {h : Heap} {b : Nat} {cs : Array Value} (H : Own h b cs) (o : Nat) : frozen? h ⟨b, o, none⟩ = false := by
  obtain ⟨e, he⟩ := H; simp [frozen?, he]
theorem Own.fr {h h' : Heap} {b : Nat} {cs : Array Value} {S : Nat → Prop} (H : Own h b cs) (f : Fr S h h') (hb : ¬ S b) : Own h' b cs := by
  obtain ⟨e, he⟩ := H; exact ⟨e, (f.same b (Own.lt ⟨e, he⟩) hb).trans he⟩
theorem Own.ext {h h' : Heap} {b : Nat} {cs : Array Value} (H : Own h b cs) (f : Ext h h') : Own h' b cs := H.fr f id
/-- The block b reads as cs. -/
def OwnR (h : Heap) (b : Nat) (cs : Array Value) : Prop := ∃ e z, h[b]? = some (.cells cs e z)
theorem Own.r {h : Heap} {b : Nat} {cs : Array Value} : Own h b cs → OwnR h b cs := fun ⟨e, he⟩ => ⟨e, _, he⟩
instance ownCoe {h : Heap} {b : Nat} {cs : Array Value} : Coe (Own h b cs) (OwnR h b cs) := ⟨Own.r⟩
theorem OwnR.lt {h : Heap} {b : Nat} {cs : Array Value} : OwnR h b cs → b < h.size
  | ⟨_, _, he⟩ => by rcases Array.getElem?_eq_some_iff.1 he with ⟨hb, _⟩; exact hb
theorem OwnR.cell {h : Heap} {b : Nat} {cs : Array Value} (H : OwnR h b cs) (o : Nat) : cell? h ⟨b, o, none⟩ = cs[o]? := by
  obtain ⟨e, z, he⟩ := H; simp [cell?, he]
theorem OwnR.fr {h h' : Heap} {b : Nat} {cs : Array Value} {S : Nat → Prop} (H : OwnR h b cs) (f : Fr S h h') (hb : ¬ S b) : OwnR h' b cs := by
  obtain ⟨e, z, he⟩ := H; exact ⟨e, z, (f.same b (OwnR.lt ⟨e, z, he⟩) hb).trans he⟩
theorem OwnR.ext {h h' : Heap} {b : Nat} {cs : Array Value} (H : OwnR h b cs) (f : Ext h h') : OwnR h' b cs := H.fr f id
theorem OwnR.inj {h : Heap} {b : Nat} {cs cs' : Array Value} (H : OwnR h b cs) (H' : OwnR h b cs') : cs = cs' := by
  obtain ⟨e, z, he⟩ := H; obtain ⟨e', z', he'⟩ := H'; rw [he] at he'; cases he'; rfl
theorem Own.inj {h : Heap} {b : Nat} {cs cs' : Array Value} (H : Own h b cs) (H' : Own h b cs') : cs = cs' := H.r.inj H'.r
/-- The block b reads as cs; of whole numbers it may be a caller's own. -/
def OwnK : IntKind → Heap → Nat → Array Value → Prop
  | .i64, h, b, cs => OwnR h b cs
  | _, h, b, cs => Own h b cs
theorem Own.k {k : IntKind} {h : Heap} {b : Nat} {cs : Array Value} (H : Own h b cs) : OwnK k h b cs := by cases k <;> first | exact H | exact H.r
theorem OwnK.r {k : IntKind} {h : Heap} {b : Nat} {cs : Array Value} (H : OwnK k h b cs) : OwnR h b cs := by cases k <;> first | exact H | exact Own.r H
instance ownKCoe {k : IntKind} {h : Heap} {b : Nat} {cs : Array Value} : Coe (Own h b cs) (OwnK k h b cs) := ⟨Own.k⟩
theorem OwnK.lt {k : IntKind} {h : Heap} {b : Nat} {cs : Array Value} (H : OwnK k h b cs) : b < h.size := H.r.lt
theorem OwnK.cell {k : IntKind} {h : Heap} {b : Nat} {cs : Array Value} (H : OwnK k h b cs) (o : Nat) : cell? h ⟨b, o, none⟩ = cs[o]? := H.r.cell o
theorem OwnK.fr {k : IntKind} {h h' : Heap} {b : Nat} {cs : Array Value} {S : Nat → Prop} (H : OwnK k h b cs) (f : Fr S h h') (hb : ¬ S b) : OwnK k h' b cs := by
  cases k <;> first | exact Own.fr H f hb | exact OwnR.fr H f hb
theorem OwnK.ext {k : IntKind} {h h' : Heap} {b : Nat} {cs : Array Value} (H : OwnK k h b cs) (f : Ext h h') : OwnK k h' b cs := H.fr f id
theorem OwnK.inj {k : IntKind} {h : Heap} {b : Nat} {cs cs' : Array Value} (H : OwnK k h b cs) (H' : Own h b cs') : cs = cs' := H.r.inj H'.r
theorem own_new {h : Heap} {cs : Array Value} {e : TypeId} : Own (h.push (.cells cs e)) h.size cs := ⟨e, by simp⟩
theorem own_push {h : Heap} {b : Nat} {cs : Array Value} {o : Obj} (H : Own h b cs) : Own (h.push o) b cs := H.ext Ext.push
theorem size_setCell {h : Heap} {a : Addr} {v : Value} : (setCell h a v).size = h.size := by simp [setCell]
theorem setCell_ne {h : Heap} {b o x : Nat} {v : Value} (hx : x ≠ b) : (setCell h ⟨b, o, none⟩ v)[x]? = h[x]? := by
  unfold setCell; rw [Array.getElem?_modify, if_neg (fun e : b = x => hx e.symm)]
theorem fr_setCell {h : Heap} {b o : Nat} {v : Value} : Fr (fun x => x = b) h (setCell h ⟨b, o, none⟩ v) :=
  ⟨by simp [size_setCell], fun x _ hs => setCell_ne hs⟩
theorem own_set {h : Heap} {b o : Nat} {cs : Array Value} {v : Value} (H : Own h b cs) : Own (setCell h ⟨b, o, none⟩ v) b (cs.setIfInBounds o v) := by
  obtain ⟨e, he⟩ := H
  exact ⟨e, by unfold setCell; rw [Array.getElem?_modify]; simp [he]⟩
theorem own_set_ne {h : Heap} {b b' o : Nat} {cs : Array Value} {v : Value} (H : Own h b cs) (hb : b ≠ b') : Own (setCell h ⟨b', o, none⟩ v) b cs := H.fr fr_setCell hb
theorem Own.stC {h : Heap} {b o : Nat} {cs : Array Value} {v : Value} {K : Heap → Prop} (H : Own h b cs) (ho : o < cs.size) (hv : oneCell v = true)
    (k : Own (setCell h ⟨b, o, none⟩ v) b (cs.setIfInBounds o v) → Fr (fun x => x = b) h (setCell h ⟨b, o, none⟩ v) → K (setCell h ⟨b, o, none⟩ v)) : stC h b o v K :=
  ⟨hv, ⟨_, by rw [H.cell, Array.getElem?_eq_getElem ho]⟩, H.frozen o, k (own_set H) fr_setCell⟩

/-- From h0 to h the cells of b from o on became zs, and nothing else changed. -/
structure Wrote (k : IntKind) (h0 h : Heap) (b o : Nat) (zs : List Nat) : Prop where
  size : h.size = h0.size
  same : ∀ x, x ≠ b → h[x]? = h0[x]?
  blk : ∃ cs0 cs e, h0[b]? = some (.cells cs0 e (0, 0)) ∧ h[b]? = some (.cells cs e (0, 0)) ∧ cs.size = cs0.size ∧ (∀ j, j < o ∨ o + zs.length ≤ j → cs[j]? = cs0[j]?) ∧
    ∀ j (hj : j < zs.length), cs[o + j]? = some (.int k (zs[j] : Int))
theorem Wrote.nil {k : IntKind} {h : Heap} {b o : Nat} {cs : Array Value} (H : Own h b cs) : Wrote k h h b o [] := by
  obtain ⟨e, he⟩ := H
  exact ⟨rfl, fun _ _ => rfl, cs, cs, e, he, he, rfl, fun _ _ => rfl, fun j hj => absurd hj (by simp)⟩
theorem Wrote.snoc {k : IntKind} {h0 h : Heap} {b o : Nat} {zs : List Nat} (W : Wrote k h0 h b o zs) (w : Nat) {cs0 : Array Value} (H0 : Own h0 b cs0) (hl : o + zs.length < cs0.size) :
    Wrote k h0 (setCell h ⟨b, o + zs.length, none⟩ (.int k (w : Int))) b o (zs ++ [w]) := by
  obtain ⟨c0, cs, e, h1, h2, h3, h4, h5⟩ := W.blk
  have hc : cs0 = c0 := H0.inj ⟨e, h1⟩
  subst hc
  refine ⟨by rw [size_setCell, W.size], fun x hx => ?_, cs0, cs.setIfInBounds (o + zs.length) (.int k (w : Int)), e, h1, ?_, by simpa using h3, fun j hj => ?_, fun j hj => ?_⟩
  · rw [← W.same x hx, setCell_ne hx]
  · unfold setCell; rw [Array.getElem?_modify]; simp [h2]
  · rw [List.length_append, List.length_singleton] at hj
    rw [Array.getElem?_setIfInBounds_ne (by omega)]
    exact h4 j (by omega)
  · rw [List.length_append, List.length_singleton] at hj
    by_cases hjl : j < zs.length
    · rw [Array.getElem?_setIfInBounds_ne (by omega), h5 j hjl, List.getElem_append_left hjl]
    · have : j = zs.length := by omega
      subst this
      rw [Array.getElem?_setIfInBounds_self_of_lt (by omega)]; simp
theorem Wrote.cons {k : IntKind} {h0 h : Heap} {b o : Nat} {zs : List Nat} (W : Wrote k h0 h b (o + 1) zs) (w : Nat) {cs0 : Array Value} (H0 : Own h0 b cs0) (hl : o < cs0.size) :
    Wrote k h0 (setCell h ⟨b, o, none⟩ (.int k (w : Int))) b o (w :: zs) := by
  obtain ⟨c0, cs, e, h1, h2, h3, h4, h5⟩ := W.blk
  have hc : cs0 = c0 := H0.inj ⟨e, h1⟩
  subst hc
  refine ⟨by rw [size_setCell, W.size], fun x hx => ?_, cs0, cs.setIfInBounds o (.int k (w : Int)), e, h1, ?_, by simpa using h3, fun j hj => ?_, fun j hj => ?_⟩
  · rw [← W.same x hx, setCell_ne hx]
  · unfold setCell; rw [Array.getElem?_modify]; simp [h2]
  · rw [List.length_cons] at hj
    rw [Array.getElem?_setIfInBounds_ne (by omega)]
    exact h4 j (by omega)
  · rw [List.length_cons] at hj
    cases j with
    | zero => rw [Nat.add_zero, Array.getElem?_setIfInBounds_self_of_lt (by omega)]; simp
    | succ j => rw [Array.getElem?_setIfInBounds_ne (by omega), show o + (j + 1) = o + 1 + j from by omega, h5 j (by omega), List.getElem_cons_succ]
theorem Wrote.fr {k : IntKind} {h0 h : Heap} {b o : Nat} {zs : List Nat} (W : Wrote k h0 h b o zs) : Fr (fun x => x = b) h0 h :=
  ⟨Nat.le_of_eq W.size.symm, fun x _ hs => W.same x hs⟩
theorem Wrote.out {k : IntKind} {h0 h : Heap} {b o : Nat} {zs : List Nat} (W : Wrote k h0 h b o zs) {b' j : Nat} (hb : b' ≠ b ∨ j < o ∨ o + zs.length ≤ j) :
    cell? h ⟨b', j, none⟩ = cell? h0 ⟨b', j, none⟩ := by
  by_cases e : b' = b
  · subst e
    obtain ⟨c0, cs, e, h1, h2, h3, h4, h5⟩ := W.blk
    rw [Own.cell ⟨e, h1⟩, Own.cell ⟨e, h2⟩]
    exact h4 j (hb.resolve_left (fun h => h rfl))
  · unfold cell?; rw [W.same b' e]
theorem Wrote.own {k : IntKind} {h0 h : Heap} {b o : Nat} {zs : List Nat} (W : Wrote k h0 h b o zs) {cs0 : Array Value} (H0 : Own h0 b cs0) : ∃ cs, Own h b cs ∧ cs.size = cs0.size ∧
    (∀ j, j < o ∨ o + zs.length ≤ j → cs[j]? = cs0[j]?) ∧ ∀ j (hj : j < zs.length), cs[o + j]? = some (.int k (zs[j] : Int)) := by
  obtain ⟨c0, cs, e, h1, h2, h3, h4, h5⟩ := W.blk
  have hc : cs0 = c0 := H0.inj ⟨e, h1⟩
  subst hc
  exact ⟨cs, ⟨e, h2⟩, h3, h4, h5⟩

/-- The cells from p on hold ws, of kind k. -/
def Sl (k : IntKind) (h : Heap) (p : Option Addr) (ws : List Nat) : Prop :=
  ws = [] ∨ ∃ b o cs, p = some ⟨b, o, none⟩ ∧ OwnK k h b cs ∧ ∀ i (hi : i < ws.length), cs[o + i]? = some (.int k (ws[i] : Int))
/-- There is room for c cells from p on, in a block that fulfils S. -/
def Room (h : Heap) (p : Option Addr) (c : Nat) (S : Nat → Prop) : Prop :=
  c = 0 ∨ ∃ b o cs, p = some ⟨b, o, none⟩ ∧ Own h b cs ∧ o + c ≤ cs.size ∧ S b
theorem Sl.nil {k : IntKind} {h : Heap} {p : Option Addr} : Sl k h p [] := .inl rfl
theorem Sl.ext {k : IntKind} {h h' : Heap} {p : Option Addr} {ws : List Nat} (H : Sl k h p ws) (f : Ext h h') : Sl k h' p ws := by
  rcases H with H | ⟨b, o, cs, h1, h2, h3⟩
  · exact .inl H
  · exact .inr ⟨b, o, cs, h1, h2.ext f, h3⟩
theorem Sl.fr {k : IntKind} {h h' : Heap} {p : Option Addr} {ws : List Nat} {S : Nat → Prop} (H : Sl k h p ws) (f : Fr S h h') (hp : ∀ b o, p = some ⟨b, o, none⟩ → b < h.size → ¬ S b) : Sl k h' p ws := by
  rcases H with H | ⟨b, o, cs, h1, h2, h3⟩
  · exact .inl H
  · exact .inr ⟨b, o, cs, h1, h2.fr f (hp b o h1 h2.lt), h3⟩
theorem Sl.get {k : IntKind} {h : Heap} {p : Option Addr} {ws : List Nat} {n : Nat} {i : Int} {G : Int → Prop} (H : Sl k h p ws) (j : Nat) (hj : i = j) (hi : j < ws.length) (hn : ws.length ≤ n) (g : G (ws[j] : Int)) :
    ixW p n i 1 fun b o => isP (some ⟨b, o, none⟩) fun b o => ∃ x, cell? h ⟨b, o, none⟩ = some (.int k x) ∧ G x := by
  subst hj
  rcases H with H | ⟨b, o, cs, h1, h2, h3⟩
  · subst H; exact absurd hi (by simp)
  · exact ⟨b, o, h1, by omega, by omega, b, _, rfl, _, by rw [h2.cell, Int.toNat_natCast, Nat.mul_one, h3 j hi], g⟩
theorem Sl.take {k : IntKind} {h : Heap} {p : Option Addr} {ws : List Nat} (H : Sl k h p ws) (n : Nat) : Sl k h p (ws.take n) := by
  rcases H with H | ⟨b, o, cs, h1, h2, h3⟩
  · exact .inl (by simp [H])
  · exact .inr ⟨b, o, cs, h1, h2, fun i hi => by rw [List.length_take] at hi; rw [h3 i (by omega), List.getElem_take]⟩
theorem Sl.drop {k : IntKind} {h : Heap} {p : Option Addr} {ws : List Nat} (H : Sl k h p ws) (l m : Nat) (hm : l < ws.length → m ≠ l) : Sl k h (slP p l m 1) (ws.drop l) := by
  by_cases hl : l < ws.length
  · rcases H with H | ⟨b, o, cs, h1, h2, h3⟩
    · exact .inl (by simp [H])
    · refine .inr ⟨b, o + l, cs, ?_, h2, fun i hi => ?_⟩
      · subst h1; simp [slP, hm hl, add_addr]
      · rw [List.length_drop] at hi; rw [List.getElem_drop, Nat.add_assoc, h3 (l + i) (by omega)]
  · exact .inl (List.drop_eq_nil_of_le (by omega))
theorem Wrote.sl {k : IntKind} {h0 h : Heap} {b o : Nat} {zs : List Nat} (W : Wrote k h0 h b o zs) : Sl k h (some ⟨b, o, none⟩) zs := by
  obtain ⟨c0, cs, e, h1, h2, h3, h4, h5⟩ := W.blk
  exact .inr ⟨b, o, cs, rfl, Own.k ⟨e, h2⟩, h5⟩
theorem Room.fr {h h' : Heap} {p : Option Addr} {c : Nat} {S T : Nat → Prop} (H : Room h p c S) (f : Fr T h h') (hp : ∀ b, S b → ¬ T b) : Room h' p c S := by
  rcases H with H | ⟨b, o, cs, h1, h2, h3, h4⟩
  · exact .inl H
  · exact .inr ⟨b, o, cs, h1, h2.fr f (hp b h4), h3, h4⟩
theorem Room.ext {h h' : Heap} {p : Option Addr} {c : Nat} {S : Nat → Prop} (H : Room h p c S) (f : Ext h h') : Room h' p c S := H.fr f fun _ _ t => t
theorem Room.mono {h : Heap} {p : Option Addr} {c : Nat} {S T : Nat → Prop} (H : Room h p c S) (hs : ∀ b, S b → T b) : Room h p c T := by
  rcases H with H | ⟨b, o, cs, h1, h2, h3, h4⟩
  · exact .inl H
  · exact .inr ⟨b, o, cs, h1, h2, h3, hs b h4⟩

theorem Sl.getW {k k2 : IntKind} {h0 h : Heap} {p : Option Addr} {ws zs : List Nat} {b o n : Nat} {i : Int} {G : Int → Prop} (H : Sl k h0 p ws) (W : Wrote k2 h0 h b o zs) (j : Nat) (hj : i = j) (hi : j < ws.length) (hn : ws.length ≤ n)
    (ha : ∀ b' o', p = some ⟨b', o', none⟩ → b' ≠ b ∨ o' + j < o ∨ o + zs.length ≤ o' + j) (g : G (ws[j] : Int)) :
    ixW p n i 1 fun b o => isP (some ⟨b, o, none⟩) fun b o => ∃ x, cell? h ⟨b, o, none⟩ = some (.int k x) ∧ G x := by
  subst hj
  rcases H with H | ⟨b', o', cs, h1, h2, h3⟩
  · subst H; exact absurd hi (by simp)
  · exact ⟨b', o', h1, by omega, by omega, b', _, rfl, _, by rw [Int.toNat_natCast, Nat.mul_one, W.out (ha b' o' h1), h2.cell, h3 j hi], g⟩
/-- The next cell of a row that is written from its start. -/
theorem Wrote.put {k : IntKind} {h0 h : Heap} {b o n : Nat} {zs : List Nat} {cs0 : Array Value} {i : Int} {x : Int} {K : Heap → Prop} (W : Wrote k h0 h b o zs) (H0 : Own h0 b cs0) (w : Nat) (hx : x = (w : Int)) (hi : i = (zs.length : Int)) (hn : zs.length < n) (hl : o + n ≤ cs0.size)
    (g : Wrote k h0 (setCell h ⟨b, o + zs.length, none⟩ (.int k (w : Int))) b o (zs ++ [w]) → K (setCell h ⟨b, o + zs.length, none⟩ (.int k (w : Int)))) :
    ixW (some ⟨b, o, none⟩) n i 1 fun b o => isP (some ⟨b, o, none⟩) fun b o => stC h b o (.int k x) K := by
  subst hi hx
  obtain ⟨cs, h1, h2, _, _⟩ := W.own H0
  refine ⟨b, o, rfl, by omega, by omega, b, _, rfl, ?_⟩
  rw [Int.toNat_natCast, Nat.mul_one]
  exact h1.stC (by omega) rfl fun _ _ => g (W.snoc w H0 (by omega))
/-- The cell ahead of a row that is written from its end. -/
theorem Wrote.putd {k : IntKind} {h0 h : Heap} {b o n j : Nat} {zs : List Nat} {cs0 : Array Value} {i : Int} {x : Int} {K : Heap → Prop} (W : Wrote k h0 h b (o + j + 1) zs) (H0 : Own h0 b cs0) (w : Nat) (hx : x = (w : Int)) (hi : i = (j : Int)) (hn : j < n) (hl : o + n ≤ cs0.size)
    (g : Wrote k h0 (setCell h ⟨b, o + j, none⟩ (.int k (w : Int))) b (o + j) (w :: zs) → K (setCell h ⟨b, o + j, none⟩ (.int k (w : Int)))) :
    ixW (some ⟨b, o, none⟩) n i 1 fun b o => isP (some ⟨b, o, none⟩) fun b o => stC h b o (.int k x) K := by
  subst hi hx
  obtain ⟨cs, h1, h2, _, _⟩ := W.own H0
  refine ⟨b, o, rfl, by omega, by omega, b, _, rfl, ?_⟩
  rw [Int.toNat_natCast, Nat.mul_one]
  exact h1.stC (by omega) rfl fun _ _ => g (W.cons w H0 (by omega))

/-- A pointer of the simple form. -/
def Pt (p : Option Addr) : Prop := p = none ∨ ∃ b o, p = some ⟨b, o, none⟩
theorem pt_some {b o : Nat} : Pt (some ⟨b, o, none⟩) := .inr ⟨b, o, rfl⟩
theorem Pt.slP {p : Option Addr} (h : Pt p) (l m : Nat) : Pt (slP p l m 1) := by
  rcases h with h | ⟨b, o, h⟩
  · subst h; left; simp [Go.Eng.slP]
  · subst h; unfold Go.Eng.slP; split
    · exact pt_some
    · right; exact ⟨b, o + l * 1, by simp [add_addr]⟩
theorem setRow_wrote {k : IntKind} {h0 : Heap} {b o : Nat} {cs0 : Array Value} (H0 : Own h0 b cs0) : ∀ (ws zs : List Nat) (h : Heap), Wrote k h0 h b o zs → o + zs.length + ws.length ≤ cs0.size →
    Wrote k h0 (setRow h b (o + zs.length) (ws.map fun w : Nat => Value.int k (w : Int))) b o (zs ++ ws)
  | [], zs, h, W, _ => by rw [List.append_nil]; exact W
  | w :: ws, zs, h, W, hl => by
    rw [List.length_cons] at hl
    have := setRow_wrote H0 ws (zs ++ [w]) _ (W.snoc w H0 (by omega)) (by rw [List.length_append, List.length_singleton]; omega)
    rw [List.length_append, List.length_singleton, List.append_assoc] at this
    exact this
theorem Sl.row {k : IntKind} {h : Heap} {p : Option Addr} {ws : List Nat} (H : Sl k h p ws) (hp : Pt p) {n : Nat} (hn : ws.length = n) : rowAt h p n (ws.map fun w : Nat => Value.int k (w : Int)) := by
  rcases hp with hp | ⟨b, o, hp⟩
  · subst hp
    rcases H with H | ⟨b, o, cs, h1, _⟩
    · subst H; rfl
    · cases h1
  · subst hp
    refine ⟨by simp [hn], b, o, rfl, fun i hi => ?_⟩
    rw [List.length_map] at hi
    rcases H with H | ⟨b', o', cs, h1, h2, h3⟩
    · subst H; exact absurd hi (by simp)
    · cases h1; rw [h2.cell, h3 i hi, List.getElem_map]
/-- Words copied into a block. -/
theorem copyK {k : IntKind} {h : Heap} {sp : Option Addr} {dn sn bz oz : Nat} {xs : List Nat} {cs : Array Value} {K : Nat → Heap → Prop} (hx : Sl k h sp xs) (ls : xs.length = sn) (px : Pt sp) (hO : Own h bz cs) (hl : oz + dn ≤ cs.size)
    (H : ∀ h', Wrote k h h' bz oz (xs.take (Nat.min sn dn)) → K (Nat.min sn dn) h') : cpW h (some ⟨bz, oz, none⟩) dn sp sn 1 K := by
  have hm : Nat.min sn dn ≤ dn := Nat.min_le_right _ _
  have hms : Nat.min sn dn ≤ sn := Nat.min_le_left _ _
  refine ⟨(xs.take (Nat.min sn dn)).map fun w : Nat => Value.int k (w : Int), ?_, bz, oz, rfl, ?_, ?_, ?_⟩
  · rw [Nat.mul_one]; exact (hx.take _).row px (by rw [List.length_take]; omega)
  · intro x hx; obtain ⟨w, _, rfl⟩ := List.mem_map.1 hx; rfl
  · intro i hi
    rw [List.length_map, List.length_take] at hi
    exact ⟨⟨_, by rw [hO.cell, Array.getElem?_eq_getElem (by omega)]⟩, hO.frozen _⟩
  · have := setRow_wrote (k := k) (o := oz) hO (xs.take (Nat.min sn dn)) [] h (Wrote.nil hO) (by rw [List.length_take, List.length_nil]; omega)
    exact H _ (by simpa using this)
theorem copy0 {h : Heap} {sp : Option Addr} {sn : Nat} {K : Nat → Heap → Prop} (px : Pt sp) (H : K 0 h) : cpW h none 0 sp sn 1 K := by
  have e : Nat.min sn 0 = 0 := Nat.min_zero sn
  refine ⟨[], ?_, ?_⟩
  · rw [e]
    rcases px with h1 | ⟨b, o, h1⟩
    · subst h1; rfl
    · subst h1; exact ⟨rfl, b, o, rfl, fun i hi => absurd hi (by simp)⟩
  · rw [e]; exact H

theorem Wrote.append {k : IntKind} {h0 h1 h2 : Heap} {b o o2 : Nat} {xs ys : List Nat} (W1 : Wrote k h0 h1 b o xs) (W2 : Wrote k h1 h2 b o2 ys) (ho : o2 = o + xs.length) : Wrote k h0 h2 b o (xs ++ ys) := by
  subst ho
  obtain ⟨c0, c1, e, a1, a2, a3, a4, a5⟩ := W1.blk
  obtain ⟨d1, d2, e', b1, b2, b3, b4, b5⟩ := W2.blk
  have : d1 = c1 ∧ e' = e := by rw [a2] at b1; cases b1; exact ⟨rfl, rfl⟩
  obtain ⟨rfl, rfl⟩ := this
  refine ⟨W2.size.trans W1.size, fun x hx => (W2.same x hx).trans (W1.same x hx), c0, d2, e', a1, b2, by omega, fun j hj => ?_, fun j hj => ?_⟩
  · rw [List.length_append] at hj
    rw [b4 j (by omega), a4 j (by omega)]
  · rw [List.length_append] at hj
    by_cases h : j < xs.length
    · rw [b4 _ (by omega), a5 j h, List.getElem_append_left h]
    · have := b5 (j - xs.length) (by omega)
      rw [show o + xs.length + (j - xs.length) = o + j by omega] at this
      rw [this, List.getElem_append_right (by omega)]
theorem Sl.afterW {k k2 : IntKind} {h0 h : Heap} {p : Option Addr} {ws zs : List Nat} {b o : Nat} (H : Sl k h0 p ws) (W : Wrote k2 h0 h b o zs) (hp : ∀ b' o', p = some ⟨b', o', none⟩ → b' ≠ b) : Sl k h p ws :=
  H.fr W.fr fun b' o' e _ => hp b' o' e
theorem Sl.block {k : IntKind} {h : Heap} {p : Option Addr} {ws : List Nat} (H : Sl k h p ws) (hw : ws ≠ []) {b o : Nat} (hp : p = some ⟨b, o, none⟩) : b < h.size := by
  rcases H with H | ⟨b', o', cs, h1, h2, _⟩
  · exact absurd H hw
  · rw [hp] at h1; cases h1; exact h2.lt

/-- An element appended. -/
theorem ap1 {k : IntKind} {h : Heap} {p : Option Addr} {n c r e : Nat} {ws : List Nat} {x : Nat} {S : Nat → Prop} {zero : Array Value} {bytes : Nat} {K : Option Addr → Nat → Nat → Heap → Prop}
    (hs : Sl k h p ws) (hr : Room h p c S) (hn : ws.length = n) (hc : n ≤ c) (hx : Own h r #[.int k (x : Int)]) (hb : 0 < bytes) (hlim : c < n + 1 → Builtin.nextslicecap (n + 1) c * bytes ≤ 281474976710656) (hlim2 : n + 1 ≤ 281474976710656)
    (hz : zero.size = 1) (hp : c = 0 → p = none ∨ ∃ b o, p = some ⟨b, o, none⟩)
    (hk : ∀ q c' h', Sl k h' q (ws ++ [x]) → Room h' q c' (fun b => S b ∨ h.size ≤ b) → n + 1 ≤ c' → Fr S h h' → K q (n + 1) c' h') :
    apW h p n c (some ⟨r, 0, none⟩) 1 1 bytes e zero K := by
  have hrow : rowAt h (some ⟨r, 0, none⟩) (1 * 1) [.int k (x : Int)] := by
    refine ⟨rfl, r, 0, rfl, fun i hi => ?_⟩
    have : i = 0 := by simp at hi; exact hi
    subst this
    rw [hx.cell]; rfl
  refine ⟨fun hle => ?_, fun hlt => ⟨hb, hlim2, hlim hlt, ws.map (fun w : Nat => Value.int k (w : Int)), [.int k (x : Int)], ?_, hrow, fun cap h1 h2 => ?_⟩⟩
  · refine ⟨_, hrow, ?_⟩
    rcases hr with hr | ⟨b, o, cs, e1, e2, e3, e4⟩
    · omega
    subst e1
    have hsz : o + n < cs.size := by omega
    refine ⟨b, o, rfl, fun y hy => ?_, fun i hi => ?_, ?_⟩
    · rw [List.mem_singleton] at hy; subst hy; rfl
    · have : i = 0 := by simp at hi; exact hi
      subst this
      exact ⟨⟨_, by rw [e2.cell, Array.getElem?_eq_getElem (by omega)]⟩, e2.frozen _⟩
    · simp only [setRow, Nat.mul_one]
      have H' := own_set (o := o + n) (v := .int k (x : Int)) e2
      refine hk _ _ _ (.inr ⟨b, o, _, rfl, H'.k, fun i hi => ?_⟩) (.inr ⟨b, o, _, rfl, H', by simpa using e3, .inl e4⟩) (by omega) (Fr.mono fr_setCell fun y _ hy => hy ▸ e4)
      rw [List.length_append, List.length_singleton] at hi
      by_cases hil : i < ws.length
      · rw [Array.getElem?_setIfInBounds_ne (by omega), List.getElem_append_left hil]
        rcases hs with hs | ⟨b', o', cs', f1, f2, f3⟩
        · subst hs; exact absurd hil (by simp)
        · cases f1; rw [e2.r.inj f2.r]; exact f3 i hil
      · have : i = ws.length := by omega
        subst this
        simp only [hn, List.getElem_concat_length]
        rw [Array.getElem?_setIfInBounds_self_of_lt hsz]
  · cases p with
    | none =>
      rcases hs with hs | ⟨b, o, cs, h1, _⟩
      · subst hs; rfl
      · cases h1
    | some a =>
      by_cases hn0 : ws = []
      · subst hn0
        refine ⟨by simp [← hn], ?_⟩
        have : ∃ b o, some a = some (⟨b, o, none⟩ : Addr) := by
          rcases hr with hr | ⟨b, o, cs, e1, _⟩
          · rcases hp hr with h | h
            · cases h
            · exact h
          · exact ⟨b, o, e1⟩
        obtain ⟨b, o, hbo⟩ := this
        exact ⟨b, o, hbo, fun i hi => absurd hi (by simp)⟩
      · rcases hs with hs | ⟨b, o, cs, h1, h2, h3⟩
        · exact absurd hs hn0
        · refine ⟨by simp [hn], b, o, h1, fun i hi => ?_⟩
          rw [List.length_map] at hi
          rw [h2.cell, h3 i hi, List.getElem_map]
  · have H' : Own (h.push (.cells (ws.map (fun w : Nat => Value.int k (w : Int)) ++ [Value.int k (x : Int)] ++ zerosL zero (cap - (n + 1))).toArray e)) h.size _ := own_new
    refine hk _ _ _ (.inr ⟨_, 0, _, rfl, H'.k, fun i hi => ?_⟩) (.inr ⟨_, 0, _, rfl, H', ?_, .inr (Nat.le_refl _)⟩) h1 (Ext.push.to)
    · simp only [Nat.zero_add, List.getElem?_toArray]
      rw [List.getElem?_append_left (by simp at hi ⊢; omega), ← List.map_singleton (f := fun w : Nat => Value.int k (w : Int)), ← List.map_append, List.getElem?_map, List.getElem?_eq_getElem hi]; rfl
    · simp [zerosL, hn, hz]
      omega
end Go.Eng
