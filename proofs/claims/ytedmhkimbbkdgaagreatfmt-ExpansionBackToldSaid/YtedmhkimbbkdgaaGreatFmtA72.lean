import Derived.Test.YtedmhkimbbkdgaaGreatFmtA71
import Derived.Test.YtedmhkimbbkdgaaGreatFmtA03
import Derived.Test.YtedmhkimbbkdgaaGreatFmtA70
import Derived.Test.YtedmhkimbbkdgaaGreatFmtA73
/- Here stand lemmas: expansion: further contracts. -/
set_option linter.unusedVariables false
set_option linter.unusedVariables false
namespace Go.Eng
open Go
/-- The block that a pointer points into. -/
def Blk (p : Option Addr) (b : Nat) : Prop := ∃ o, p = some ⟨b, o, none⟩
theorem not_blk_none {b : Nat} : ¬ Blk none b := fun ⟨_, e⟩ => by cases e
theorem blk_some {b b' o : Nat} (h : Blk (some ⟨b, o, none⟩) b') : b' = b := by
  obtain ⟨_, e⟩ := h; cases e; rfl
/-- The cells from p on are vs. -/
def Sv (h : Heap) (p : Option Addr) (vs : List Value) : Prop :=
  vs = [] ∨ ∃ b o cs, p = some ⟨b, o, none⟩ ∧ Own h b cs ∧ ∀ i (hi : i < vs.length), cs[o + i]? = some vs[i]
theorem Sv.fr {h h' : Heap} {p : Option Addr} {vs : List Value} {S : Nat → Prop} (H : Sv h p vs) (f : Fr S h h') (hp : ∀ b, Blk p b → b < h.size → ¬ S b) : Sv h' p vs := by
  rcases H with H | ⟨b, o, cs, h1, h2, h3⟩
  · exact .inl H
  · exact .inr ⟨b, o, cs, h1, h2.fr f (hp b ⟨o, h1⟩ h2.lt), h3⟩
theorem Sv.row {h : Heap} {p : Option Addr} {vs : List Value} (H : Sv h p vs) (hp : Pt p) {n : Nat} (hn : vs.length = n) : rowAt h p (n * 1) vs := by
  rcases hp with hp | ⟨b, o, hp⟩
  · subst hp
    rcases H with H | ⟨b, o, cs, h1, _⟩
    · subst H; rfl
    · cases h1
  · subst hp
    refine ⟨by simp [hn], b, o, rfl, fun i hi => ?_⟩
    rcases H with H | ⟨b', o', cs, h1, h2, h3⟩
    · subst H; exact absurd hi (by simp)
    · cases h1; rw [h2.cell, h3 i hi]
/-- Words that can be read, in a block that T has not. -/
def Rd (h : Heap) (T : Nat → Prop) (p : Option Addr) (ws : List Int) : Prop :=
  (∀ x ∈ ws, I64 x) ∧ (ws = [] ∨ ∃ b o, p = some ⟨b, o, none⟩ ∧ b < h.size ∧ ¬ T b ∧ ∀ i (hi : i < ws.length), cell? h ⟨b, o + i, none⟩ = some (.int .i64 ws[i]))
theorem cell_fr {h h' : Heap} {S : Nat → Prop} {b o : Nat} (f : Fr S h h') (hb : b < h.size) (hs : ¬ S b) : cell? h' ⟨b, o, none⟩ = cell? h ⟨b, o, none⟩ := by
  unfold cell?; rw [f.same b hb hs]
theorem Rd.fr {h h' : Heap} {S T T' : Nat → Prop} {p : Option Addr} {ws : List Int} (H : Rd h T p ws) (f : Fr S h h') (hS : ∀ b, b < h.size → S b → T b) (hT : ∀ b, b < h.size → T' b → T b) : Rd h' T' p ws := by
  refine ⟨H.1, ?_⟩
  rcases H.2 with e | ⟨b, o, e, hb, nT, g⟩
  · exact .inl e
  · exact .inr ⟨b, o, e, Nat.lt_of_lt_of_le hb f.size, fun k => nT (hT b hb k), fun i hi => (cell_fr f hb fun k => nT (hS b hb k)).trans (g i hi)⟩
theorem Rd.ints {h : Heap} {T : Nat → Prop} {p : Option Addr} {ws : List Int} (H : Rd h T p ws) : Go.Proofs.IntsH h p ws := by
  refine ⟨H.1, ?_⟩
  rcases H.2 with e | ⟨b, o, e, hb, _, g⟩
  · exact .inl e
  · exact .inr ⟨b, o, e, hb, g⟩
theorem Room.frT {h h' : Heap} {S T T' : Nat → Prop} {p : Option Addr} {c : Nat} (H : Room h p c fun b => ¬ T b) (f : Fr S h h') (hS : ∀ b, b < h.size → S b → T b) (hT : ∀ b, b < h.size → T' b → T b) : Room h' p c fun b => ¬ T' b := by
  rcases H with e | ⟨b, o, cs, e, O, g, nT⟩
  · exact .inl e
  · exact .inr ⟨b, o, cs, e, O.fr f fun k => nT (hS b O.lt k), g, fun k => nT (hT b O.lt k)⟩
/-- A list that was answered: its cells and its room lie where T is not. -/
structure Out (h : Heap) (T : Nat → Prop) (p : Option Addr) (n c : Nat) (ws : List Int) : Prop where
  len : ws.length = n
  le : n ≤ c
  pt : Pt p
  rd : Rd h T p ws
  room : Room h p c fun b => ¬ T b
theorem Out.fr {h h' : Heap} {S T T' : Nat → Prop} {p : Option Addr} {n c : Nat} {ws : List Int} (H : Out h T p n c ws) (f : Fr S h h') (hS : ∀ b, b < h.size → S b → T b) (hT : ∀ b, b < h.size → T' b → T b) : Out h' T' p n c ws :=
  ⟨H.len, H.le, H.pt, H.rd.fr f hS hT, H.room.frT f hS hT⟩
theorem Lj.out {h0 h : Heap} {p : Option Addr} {n c : Nat} {ws : List Int} (L : Lj h0 h p n c ws) {T : Nat → Prop} (hT : ∀ b, h0.size ≤ b → b < h.size → ¬ T b) : Out h T p n c ws := by
  refine ⟨L.len, L.le, L.pt, ⟨L.all, ?_⟩, ?_⟩
  · rcases L.sl with e | ⟨b, o, cs, e, O, g⟩
    · exact .inl e
    · exact .inr ⟨b, o, e, O.lt, hT b (L.fresh b o e) O.lt, fun i hi => by rw [O.cell]; exact g i hi⟩
  · rcases L.room with e | ⟨b, o, cs, e, O, g, k⟩
    · exact .inl e
    · exact .inr ⟨b, o, cs, e, O, g, hT b k O.lt⟩
/-- All blocks but those from lo to hi. -/
def Off (lo hi : Nat) (b : Nat) : Prop := ¬ (lo ≤ b ∧ b < hi)
theorem Lj.off {h0 h : Heap} {p : Option Addr} {n c : Nat} {ws : List Int} (L : Lj h0 h p n c ws) : Out h (Off h0.size h.size) p n c ws := L.out fun b h1 h2 k => k ⟨h1, h2⟩
theorem Out.off {h h' : Heap} {S : Nat → Prop} {lo hi : Nat} {p : Option Addr} {n c : Nat} {ws : List Int} (H : Out h (Off lo hi) p n c ws) (f : Fr S h h') (hS : ∀ b, lo ≤ b → b < hi → ¬ S b) : Out h' (Off lo hi) p n c ws :=
  H.fr f (fun b _ hs k => hS b k.1 k.2 hs) fun _ _ k => k
theorem Out.ext {h h' : Heap} {T : Nat → Prop} {p : Option Addr} {n c : Nat} {ws : List Int} (H : Out h T p n c ws) (f : Ext h h') : Out h' T p n c ws :=
  H.fr f (fun _ _ k => k.elim) fun _ _ k => k
/-- What Keep holds: the list, and what it was. -/
structure En where
  p : Option Addr
  n : Nat
  c : Nat
  q : Option Addr
  d : Nat
  ws : List Int
abbrev En.v (e : En) : Value := .slice e.p e.n e.c
abbrev En.w (e : En) : Value := .slice e.q e.n e.d
/-- The blocks that Keep itself has. -/
def KB (r : Nat) (pL pW : Option Addr) (b : Nat) : Prop := b = r ∨ Blk pL b ∨ Blk pW b
/-- The blocks of the lists that it holds. -/
def EB (es : List En) (b : Nat) : Prop := ∃ e ∈ es, e.c ≠ 0 ∧ Blk e.p b
def KT (r : Nat) (pL pW : Option Addr) (es : List En) (b : Nat) : Prop := KB r pL pW b ∨ EB es b
def PtB (h : Heap) (p : Option Addr) : Prop := p = none ∨ ∃ b o, p = some ⟨b, o, none⟩ ∧ b < h.size
theorem PtB.pt {h : Heap} {p : Option Addr} (H : PtB h p) : Pt p := by
  rcases H with e | ⟨b, o, e, _⟩
  · exact .inl e
  · exact .inr ⟨b, o, e⟩
theorem PtB.lt {h : Heap} {p : Option Addr} (H : PtB h p) {b : Nat} (hb : Blk p b) : b < h.size := by
  rcases H with e | ⟨b', o, e, hl⟩
  · subst e; exact absurd hb not_blk_none
  · subst e; rw [blk_some hb]; exact hl
theorem PtB.mono {h h' : Heap} {p : Option Addr} (H : PtB h p) (f : h.size ≤ h'.size) : PtB h' p := by
  rcases H with e | ⟨b, o, e, hl⟩
  · exact .inl e
  · exact .inr ⟨b, o, e, Nat.lt_of_lt_of_le hl f⟩
theorem Room.blk {h : Heap} {p : Option Addr} {c : Nat} {S : Nat → Prop} (H : Room h p c S) : Room h p c (Blk p) := by
  rcases H with e | ⟨b, o, cs, e, O, g, _⟩
  · exact .inl e
  · exact .inr ⟨b, o, cs, e, O, g, o, e⟩
theorem Out.blk {h : Heap} {T : Nat → Prop} {p : Option Addr} {n c : Nat} {ws : List Int} (H : Out h T p n c ws) (hc : c ≠ 0) {b : Nat} (hb : Blk p b) : ¬ T b ∧ b < h.size := by
  rcases H.room with e | ⟨b', o, cs, e, O, g, nT⟩
  · exact absurd e hc
  · rw [e] at hb; rw [blk_some hb]; exact ⟨nT, O.lt⟩
structure Kept (h : Heap) (r : Nat) (pL : Option Addr) (cL : Nat) (pW : Option Addr) (cW : Nat) (es : List En) : Prop where
  obj : Own h r #[.slice pL es.length cL, .slice pW es.length cW]
  lL : es.length ≤ cL
  lW : es.length ≤ cW
  ptL : PtB h pL
  ptW : PtB h pW
  vL : Sv h pL (es.map En.v)
  vW : Sv h pW (es.map En.w)
  rL : Room h pL cL (Blk pL)
  rW : Room h pW cW (Blk pW)
  nL : ¬ Blk pL r
  nW : ¬ Blk pW r
  nLW : ∀ b, Blk pL b → ¬ Blk pW b
  ok : ∀ e ∈ es, Out h (KB r pL pW) e.p e.n e.c e.ws ∧ Rd h (KB r pL pW) e.q e.ws
  lim : ∀ e ∈ es, e.n ≤ 1000000
  apart : es.Pairwise fun e f => e.c ≠ 0 → f.c ≠ 0 → ∀ b, Blk e.p b → ¬ Blk f.p b
theorem Kept.new {h : Heap} {r : Nat} (O : Own h r #[.slice none 0 0, .slice none 0 0]) : Kept h r none 0 none 0 [] :=
  ⟨O, Nat.le_refl _, Nat.le_refl _, .inl rfl, .inl rfl, .inl rfl, .inl rfl, .inl rfl, .inl rfl, not_blk_none, not_blk_none, fun _ _ => not_blk_none, fun e he => (by cases he), fun e he => (by cases he), .nil⟩
theorem Kept.lt {h : Heap} {r cL cW : Nat} {pL pW : Option Addr} {es : List En} (K : Kept h r pL cL pW cW es) {b : Nat} (hb : KT r pL pW es b) : b < h.size := by
  rcases hb with (e | e | e) | ⟨e, he, hc, hb⟩
  · rw [e]; exact K.obj.lt
  · exact K.ptL.lt e
  · exact K.ptW.lt e
  · rcases (K.ok e he).1.room with k | ⟨b', o, cs, k, O, _⟩
    · exact absurd k hc
    · rw [k] at hb; rw [blk_some hb]; exact O.lt
theorem Kept.fr {h h' : Heap} {S : Nat → Prop} {r cL cW : Nat} {pL pW : Option Addr} {es : List En} (K : Kept h r pL cL pW cW es) (f : Fr S h h') (hS : ∀ b, b < h.size → ¬ S b) : Kept h' r pL cL pW cW es := by
  have hO : ∀ b cs, Own h b cs → Own h' b cs := fun b cs O => O.fr f (hS b O.lt)
  refine ⟨hO _ _ K.obj, K.lL, K.lW, K.ptL.mono f.size, K.ptW.mono f.size, K.vL.fr f fun b _ hb => hS b hb, K.vW.fr f fun b _ hb => hS b hb, ?_, ?_, K.nL, K.nW, K.nLW, fun e he => ?_, K.lim, K.apart⟩
  · rcases K.rL with k | ⟨b, o, cs, k, O, g⟩
    · exact .inl k
    · exact .inr ⟨b, o, cs, k, hO _ _ O, g⟩
  · rcases K.rW with k | ⟨b, o, cs, k, O, g⟩
    · exact .inl k
    · exact .inr ⟨b, o, cs, k, hO _ _ O, g⟩
  · exact ⟨(K.ok e he).1.fr f (fun b hb k => absurd k (hS b hb)) fun _ _ k => k, (K.ok e he).2.fr f (fun b hb k => absurd k (hS b hb)) fun _ _ k => k⟩
theorem Kept.ext {h h' : Heap} {r cL cW : Nat} {pL pW : Option Addr} {es : List En} (K : Kept h r pL cL pW cW es) (f : Ext h h') : Kept h' r pL cL pW cW es := K.fr f fun _ _ => id
end Go.Eng
set_option linter.unusedVariables false
namespace Go.Proofs
open Go Go.Eng
variable {B : World} {R : Ending → Heap → Prop} {h : Heap}
/-- What a call hands on that keeps some lists. -/
def KeepK (R : Ending → Heap → Prop) (h : Heap) (r : Nat) (pL pW : Option Addr) (es : List En) (k : Nat) : Prop :=
  ∀ pL' cL' pW' cW' es' h', Kept h' r pL' cL' pW' cW' (es ++ es') → es'.length ≤ k → Fr (KB r pL pW) h h' → (∀ b, b < h.size → KB r pL' pW' b → KB r pL pW b) → (∀ b, KT r pL' pW' (es ++ es') b → KT r pL pW es b ∨ h.size ≤ b) → R (.returned (.bool true)) h'
/-- Another heap to begin from, with nothing changed since. -/
theorem KeepK.ext {hS h : Heap} {r k : Nat} {pL pW : Option Addr} {es : List En} (H : KeepK R hS r pL pW es k) (F : Ext hS h) : KeepK R h r pL pW es k :=
  fun pL' cL' pW' cW' es' h' K' l' F' B' Z' => H pL' cL' pW' cW' es' h' K' l' (Fr.trans F.to F' fun _ _ k => k) (fun b hb k => B' b (Nat.lt_of_lt_of_le hb F.size) k) fun b k => (Z' b k).imp id fun k => Nat.le_trans F.size k
end Go.Proofs
set_option linter.unusedVariables false
namespace Go.Proofs
open Go Go.Eng
variable {B : World} {R : Ending → Heap → Prop} {h : Heap}
theorem growP_len {xs : List Int} : ∀ {out : List Int} {q : Int} {l : List Int}, growP out q xs = some l → l.length ≤ out.length + xs.length + 1 := by
  induction xs with
  | nil => intro out q l h; cases h; have := addL_len out q; simpa using this
  | cons x r ih =>
    intro out q l h
    unfold growP at h
    by_cases hok : sumOk (sumH q x) (sumL q x) q x = true
    · rw [if_pos hok] at h
      have := ih h
      have := addL_len out (sumL q x)
      rw [List.length_cons]; omega
    · rw [if_neg hok] at h; cases h
end Go.Proofs
set_option linter.unusedVariables false
namespace Go.Eng
open Go
/-- What the marks need: the lists stand where they stood, and their rooms are there. -/
structure StA (h h' : Heap) (r : Nat) (pL : Option Addr) (cL : Nat) (pW : Option Addr) (cW : Nat) (es : List En) : Prop where
  obj : Own h' r #[.slice pL es.length cL, .slice pW es.length cW]
  vL : Sv h' pL (es.map En.v)
  room : ∀ e ∈ es, Room h' e.p e.c fun b => ¬ KB r pL pW b
  fr : Fr (KT r pL pW es) h h'
/-- The first j cells of list i bear its mark. -/
def Mk (h' : Heap) (e : En) (i j : Nat) : Prop := ∀ j', j' < j → ∀ b o, e.p = some ⟨b, o, none⟩ → cell? h' ⟨b, o + j', none⟩ = some (.int .i64 (-2 - (i : Int)))
/-- A write into list i: behind its cells, or a mark. -/
theorem StA.set {h h' : Heap} {r cL cW : Nat} {pL pW : Option Addr} {es : List En} (S : StA h h' r pL cL pW cW es) {i : Nat} (hi : i < es.length) {b o k : Nat} {cs : Array Value} {v : Value} (hp : es[i].p = some ⟨b, o, none⟩) (hc : es[i].c ≠ 0) (O : Own h' b cs) (hnb : ¬ KB r pL pW b) :
    StA h (setCell h' ⟨b, k, none⟩ v) r pL cL pW cW es := by
  have F : Fr (fun x => x = b) h' (setCell h' ⟨b, k, none⟩ v) := fr_setCell
  refine ⟨S.obj.fr F fun e => hnb (.inl e.symm), S.vL.fr F fun x hx _ e => hnb (.inr (.inl (e ▸ hx))), fun e he => ?_, Fr.trans S.fr F fun x _ e => .inr ⟨es[i], List.getElem_mem hi, hc, o, by rw [hp, e]⟩⟩
  rcases S.room e he with k | ⟨b', o', cs', e1, O', g, n⟩
  · exact .inl k
  · by_cases hb : b' = b
    · subst hb
      have := O.inj O'
      subst this
      exact .inr ⟨b', o', _, e1, own_set O, by simpa using g, n⟩
    · exact .inr ⟨b', o', cs', e1, own_set_ne O' hb, g, n⟩
theorem setCell_other {h : Heap} {b k b' o' : Nat} {cs : Array Value} {v : Value} (O : Own h b cs) (hne : b' ≠ b ∨ o' ≠ k) : cell? (setCell h ⟨b, k, none⟩ v) ⟨b', o', none⟩ = cell? h ⟨b', o', none⟩ := by
  by_cases hb : b' = b
  · subst hb
    rw [(own_set O).cell, O.cell, Array.getElem?_setIfInBounds_ne (by rcases hne with e | e; exact absurd rfl e; exact fun k => e k.symm)]
  · unfold cell?; rw [setCell_ne hb]
/-- Marks stay where another list is written, or behind. -/
theorem Mk.set {h : Heap} {e : En} {i j b k : Nat} {cs : Array Value} {v : Value} (M : Mk h e i j) (O : Own h b cs) (hne : 0 < j → ∀ o, e.p = some ⟨b, o, none⟩ → o + j ≤ k) : Mk (setCell h ⟨b, k, none⟩ v) e i j := by
  intro j' hj' b' o' e1
  rw [setCell_other O (by
    by_cases hb : b' = b
    · subst hb; right; have := hne (by omega) o' e1; omega
    · exact .inl hb)]
  exact M j' hj' b' o' e1
theorem StA.same {h h1 h2 : Heap} {r cL cW : Nat} {pL pW : Option Addr} {es : List En} (S : StA h h1 r pL cL pW cW es) {i : Nat} (hi : i < es.length) {b o : Nat} {cs cs' : Array Value} (hp : es[i].p = some ⟨b, o, none⟩) (hc : es[i].c ≠ 0) (O : Own h1 b cs) (O2 : Own h2 b cs') (hs : cs'.size = cs.size) (F : Fr (fun x => x = b) h1 h2) (hnb : ¬ KB r pL pW b) :
    StA h h2 r pL cL pW cW es := by
  refine ⟨S.obj.fr F fun e => hnb (.inl e.symm), S.vL.fr F fun x hx _ e => hnb (.inr (.inl (e ▸ hx))), fun e he => ?_, Fr.trans S.fr F fun x _ e => .inr ⟨es[i], List.getElem_mem hi, hc, o, by rw [hp, e]⟩⟩
  rcases S.room e he with k | ⟨b', o', cs2, e1, O', g, n⟩
  · exact .inl k
  · by_cases hb : b' = b
    · subst hb
      have := O.inj O'
      subst this
      exact .inr ⟨b', o', _, e1, O2, by rw [hs]; exact g, n⟩
    · exact .inr ⟨b', o', cs2, e1, O'.fr F hb, g, n⟩
theorem StA.ext {h h1 h2 : Heap} {r cL cW : Nat} {pL pW : Option Addr} {es : List En} (S : StA h h1 r pL cL pW cW es) (F : Ext h1 h2) : StA h h2 r pL cL pW cW es := by
  refine ⟨S.obj.ext F, S.vL.fr F fun _ _ _ => id, fun e he => ?_, Fr.trans S.fr F fun x _ e => e.elim⟩
  exact (S.room e he).ext F
theorem Mk.same {h1 h2 : Heap} {e : En} {i j b o : Nat} {cs cs' : Array Value} (M : Mk h1 e i j) (O : Own h1 b cs) (O2 : Own h2 b cs') (F : Fr (fun x => x = b) h1 h2) (hk : ∀ k, k < o → cs'[k]? = cs[k]?) (hne : 0 < j → ∀ o', e.p = some ⟨b, o', none⟩ → o' + j ≤ o) (hr : ∀ b' o', e.p = some ⟨b', o', none⟩ → 0 < j → b' < h1.size) : Mk h2 e i j := by
  intro j' hj' b' o' e1
  rw [← M j' hj' b' o' e1]
  by_cases hb : b' = b
  · subst hb
    have := hne (by omega) o' e1
    rw [O.cell, O2.cell, hk _ (by omega)]
  · exact cell_fr F (hr b' o' e1 (by omega)) hb
theorem Room.row {h : Heap} {p : Option Addr} {n c : Nat} {S : Nat → Prop} (H : Room h p c S) (hp : Pt p) (hn : n ≤ c) : ∃ old, rowAt h p (n * 1) old := by
  rcases H with e | ⟨b, o, cs, e, O, g, _⟩
  · have h0 : n = 0 := by omega
    subst h0
    refine ⟨[], ?_⟩
    rcases hp with e | ⟨b, o, e⟩
    · subst e; rfl
    · subst e; exact ⟨rfl, b, o, rfl, fun i hi => absurd hi (by simp)⟩
  · refine ⟨(cs.toList.drop o).take n, ?_⟩
    subst e
    have hl : ((cs.toList.drop o).take n).length = n := by simp; omega
    refine ⟨by rw [hl, Nat.mul_one], b, o, rfl, fun i hi => ?_⟩
    rw [O.cell]
    rw [hl] at hi
    rw [List.getElem_take, List.getElem_drop, Array.getElem_toList, Array.getElem?_eq_getElem (by omega)]
end Go.Eng
set_option linter.unusedVariables false
namespace Go.Proofs
open Go Go.Eng
variable {B : World} {R : Ending → Heap → Prop} {h : Heap}
theorem wi_zero : WI 0 0 := ⟨by decide, by decide⟩
end Go.Proofs
set_option linter.unusedVariables false
namespace Go.Eng
open Go
theorem same3 {h h' : Heap} {b : Nat} {cs : Array Value} {S : Nat → Prop} (H : Own h b cs) (f : Fr S h h') (hb : ¬ S b) : sameCells h h' b 0 3 := by
  have h1 := H.fr f hb
  simp only [sameCells]
  simp [H.cell, h1.cell]
end Go.Eng
namespace Go.Proofs
open Go Go.Eng
variable {B : World} {R : Ending → Heap → Prop} {h : Heap}
theorem sum_bl {L : Nat} {vs : List Int} (h : ∀ v ∈ vs, bl v.natAbs ≤ L) : bl vs.sum.natAbs ≤ L + vs.length := by
  induction vs with
  | nil => exact Nat.zero_le _
  | cons v r ih =>
    rw [List.sum_cons, List.length_cons]
    have h1 := h v (List.mem_cons_self ..)
    have h2 := ih fun x hx => h x (List.mem_cons_of_mem _ hx)
    exact bl_add (L := L + r.length) (by omega) h2
/-- dyadic.Sum, and the room of its digits. -/
theorem K119n {K n c : Nat} {p : Option Addr} {vs : List Int} (ht : TabH h) (N : NumL K h p vs) (hn : vs.length = n) (hl : n ≤ 20000) (hK : K ≤ 1048576) (hv : ∀ v ∈ vs, bl v.natAbs ≤ 3000)
    (H : ∀ neg' p' n' c' e' h', Ext h h' → Fresh h p' → Room h' p' c' (fun b => h.size ≤ b) → n' ≤ c' → NumS K h' neg' p' n' e' vs.sum → R (.returned (.tuple #[.agg #[.bool neg', .slice p' n' c', .int .i64 e'], .int .i64 (0 : Int)])) h') :
    Ent Tryz.prog B 30 #[.slice p n c] R h := by
  refine F119_ok _ _ _ (alK fun r2 h3 e2 f2 o2 z2 => alK fun r4 h5 e4 f4 o4 z4 => ?_)
  have F := Ext.trans f2 f4
  refine K67 (N.ext F) hn (by omega) fun xs h28 f28 X => ⟨_, _, _, rfl, ?_⟩
  refine K66 X hn (by omega) hK (fun i _ => ?_) (fun x hx => Nat.le_trans (hv x hx) (by decide)) fun r q m e' h46 f46 I he hs => ⟨_, _, rfl, ?_⟩
  · have := sum_bl (L := 3000) (vs := vs.take i) fun v h => hv v (List.mem_of_mem_take h)
    have h2 : (vs.take i).length ≤ n := by rw [List.length_take, hn]; exact Nat.min_le_right _ _
    omega
  refine K65R (ht.ext (Ext.trans F (Ext.trans f28 f46))) I he hs (by have := sum_bl hv; omega) hK fun neg' p' n' c' e' h65 f65 fr65 rm le N => ⟨_, _, _, _, _, rfl, ?_⟩
  have FX := Ext.trans f28 (Ext.trans f46 f65)
  have s5 := F.size
  have s46 := (Ext.trans f28 f46).size
  have l2 := (o2.ext f4).lt
  have l4 := o4.lt
  refine numEnd ((o2.ext f4).ext FX) (o4.ext FX) (by omega) fun h' f => ?_
  exact H neg' p' n' c' e' h' (Fr.trans (Ext.trans F FX) f fun x hx e => by omega) (fr65.mono (by omega)) ((rm.fr f fun b k1 k2 => by omega).mono fun b k => by omega) le (N.fr f fun b o e e3 => by have := fr65 b o e; omega)
/-- expansion.Exact. -/
theorem K95 {p : Option Addr} {n c : Nat} {xs : List Int} (ht : TabH h) (I : IntsH h p xs) (hn : xs.length = n)
    (H1 : validP xs = true → ∀ neg q m c' e h', Ext h h' → Fresh h q → Room h' q c' (fun b => h.size ≤ b) → m ≤ c' → NumS 1074 h' neg q m e (xs.map fV).sum → R (.returned (.tuple #[.agg #[.bool neg, .slice q m c', .int .i64 e], .int .i64 (0 : Int)])) h')
    (H2 : validP xs = false → ∀ h', Ext h h' → R (.returned (.tuple #[.agg #[.bool false, .slice none 0 0, .int .i64 (0 : Int)], .int .i64 (1 : Int)])) h') : Ent Tryz.prog B 13 #[.slice p n c] R h := by
  refine F95_ok _ _ _ (alK fun r2 h3 e2 f2 o2 z2 => alK fun r4 h5 e4 f4 o4 z4 => K87 (ss := [(p, n, c, xs)]) o4 rfl (by decide) (fun s hs => ?_) ⟨_, rfl, ?_⟩)
  · rw [List.mem_singleton.1 hs]; exact ⟨(I.ext f2).ext f4, hn⟩
  have hall : (([(p, n, c, xs)] : List (Option Addr × Nat × Nat × List Int)).all fun s => validP s.2.2.2) = validP xs := by simp
  rw [hall]
  have F5 := Ext.trans f2 f4
  have O2 := o2.ext f4
  have s5 := F5.size
  have s2 := f2.size
  cases hv : validP xs
  · refine ⟨fun _ => ?_, fun e => absurd e (by decide)⟩
    refine ⟨r2, 0, rfl, O2.stC (by simp) rfl fun oa fa => oa.stC (by simp) rfl fun ob fb => ob.stC (by simp) rfl fun oc fc => ⟨r2, 0, rfl, _, oc.cell _, _, _, _, oc.cell _, _, oc.cell _, ?_⟩⟩
    have fabc := Fr.trans (S := fun x => x = r2) (Fr.trans (S := fun x => x = r2) fa fb fun _ _ e => e) fc fun _ _ e => e
    exact H2 hv _ (Fr.trans F5 fabc fun x hx e => by omega)
  refine ⟨fun e => absurd e (by decide), fun _ => ?_⟩
  have hl := validP_len hv
  have hfin : ∀ x ∈ xs, isFin x = true := by
    have := (Bool.and_eq_true_iff.1 hv).2
    exact (vOk_iff.1 this).1
  refine ⟨by omega, by omega, by omega, by omega, ?_⟩
  rw [Int.toNat_natCast]
  refine alK fun r21 h22 e21 f21 o21 z21 => ?_
  have ms : (mkCells #[Value.bool false, .slice none 0 0, .int .i64 0] (n * 3)).size = n * 3 := by simp [mkCells]
  have F22 := Ext.trans F5 f21
  have hr21 : h.size ≤ r21 := by omega
  refine ⟨fun k vs h' => match vs with
    | [.slice p1 n1 c1, .pointer a, .slice g gn gc, .int _ nn, .int _ i] => p = p1 ∧ n = n1 ∧ c = c1 ∧ a = some (⟨r2, 0, none⟩ : Addr) ∧ g = some (⟨r21, 0, none⟩ : Addr) ∧ n = gn ∧ n = gc ∧ nn = (n : Int) ∧
        ∃ j : Nat, i = (j : Int) ∧ j ≤ n ∧ k = n - j ∧ Fr (fun x => x = r21) h22 h' ∧ ∃ cs, Own h' r21 cs ∧ cs.size = n * 3 ∧ ∀ i (hi : i < xs.length), i < j → ∃ neg q m c e, cs[i * 3]? = some (.bool neg) ∧ cs[i * 3 + 1]? = some (.slice q m c) ∧ cs[i * 3 + 1 + 1]? = some (.int .i64 e) ∧ NumS 1074 h' neg q m e (fV xs[i]) ∧ ∀ b o, q = some ⟨b, o, none⟩ → r21 < b
    | _ => False, n, ⟨rfl, rfl, rfl, rfl, rfl, rfl, rfl, rfl, 0, rfl, by omega, by omega, Fr.rfl', _, o21, ms, fun i _ h0 => absurd h0 (by omega)⟩, ?_⟩
  rintro k h1 _ _ _ _ _ _ _ _ _ ⟨rfl, rfl, rfl, rfl, rfl, rfl, rfl, rfl, j, rfl, hj, rfl, F, cs, O, hcs, hg⟩ _
  have F1 : Ext h h1 := Fr.trans (S := fun _ => False) F22 F fun x hx e => by omega
  have lr := O.lt
  refine ⟨fun e => ?_, fun e => ?_⟩
  · have hjn : j < xs.length := by have := of_decide_eq_true e; omega
    refine (I.ext F1).get hn hjn (K21 (ht.ext F1) (hfin _ (List.getElem_mem hjn)) fun neg q m c' e' h2 f2' fr N => ⟨_, _, _, _, _, _, rfl, r21, 0, rfl, by omega, by omega, r21, _, rfl, ?_⟩)
    rw [Int.toNat_natCast, Nat.zero_add]
    refine (O.ext f2').stC (by omega) rfl fun oa fa => oa.stC (by simp; omega) rfl fun ob fb => ob.stC (by simp; omega) rfl fun oc fc => ?_
    have fabc := Fr.trans (S := fun x => x = r21) (Fr.trans (S := fun x => x = r21) fa fb fun _ _ e => e) fc fun _ _ e => e
    have hq : ∀ b o, q = some ⟨b, o, none⟩ → r21 < b := fun b o e => by have := fr b o e; omega
    refine ⟨n - (j + 1), by omega, rfl, rfl, rfl, rfl, rfl, rfl, rfl, rfl, j + 1, ?_, by omega, rfl, Fr.trans (Fr.trans F f2' fun x _ e => e.elim) fabc fun _ _ e => e, _, oc, by simp [hcs], fun i hi hij => ?_⟩
    · rw [i64_in (by omega) (by omega)]; rfl
    · by_cases hij2 : i = j
      · subst hij2
        refine ⟨neg, q, m, c', e', ?_, ?_, ?_, N.fr fabc fun b o e k => by have := hq b o e; omega, hq⟩
        · rw [Array.getElem?_setIfInBounds_ne (by omega), Array.getElem?_setIfInBounds_ne (by omega), Array.getElem?_setIfInBounds_self_of_lt (by omega)]
        · rw [Array.getElem?_setIfInBounds_ne (by omega), Array.getElem?_setIfInBounds_self_of_lt (by simp; omega)]
        · rw [Array.getElem?_setIfInBounds_self_of_lt (by simp; omega)]
      · obtain ⟨neg', q', m', c2, e2', g1, g2, g3, g4, g5⟩ := hg i hi (by omega)
        refine ⟨neg', q', m', c2, e2', ?_, ?_, ?_, (g4.ext f2').fr fabc fun b o e k => by have := g5 b o e; omega, g5⟩
        · rw [Array.getElem?_setIfInBounds_ne (by omega), Array.getElem?_setIfInBounds_ne (by omega), Array.getElem?_setIfInBounds_ne (by omega)]; exact g1
        · rw [Array.getElem?_setIfInBounds_ne (by omega), Array.getElem?_setIfInBounds_ne (by omega), Array.getElem?_setIfInBounds_ne (by omega)]; exact g2
        · rw [Array.getElem?_setIfInBounds_ne (by omega), Array.getElem?_setIfInBounds_ne (by omega), Array.getElem?_setIfInBounds_ne (by omega)]; exact g3
  · have hjn : j = n := by have := of_decide_eq_false e; omega
    have NL : NumL 1074 h1 (some ⟨r21, 0, none⟩) (xs.map fV) := by
      refine .inr ⟨r21, 0, cs, rfl, O, fun i hi => ?_⟩
      rw [List.length_map] at hi
      obtain ⟨neg', q', m', c2, e2', g1, g2, g3, g4, g5⟩ := hg i hi (by omega)
      refine ⟨neg', q', m', c2, e2', by rw [Nat.zero_add]; exact g1, by rw [Nat.zero_add]; exact g2, by rw [Nat.zero_add]; exact g3, ?_⟩
      rw [List.getElem_map]; exact g4
    refine K119n (ht.ext F1) NL (by rw [List.length_map]; exact hn) (by omega) (by decide) (fun v hv2 => ?_) fun neg q m c' e' h2 f2' fr rm le N => ⟨_, _, _, _, _, _, rfl, ?_⟩
    · obtain ⟨x, hx, rfl⟩ := List.mem_map.1 hv2
      exact Nat.le_trans (fV_bl (hfin x hx)) (by decide)
    have O2' : Own h2 r2 #[.bool false, .slice none 0 0, .int .i64 0] := ((O2.ext f21).fr F (by omega)).ext f2'
    have sF := F1.size
    have l2 : r2 < h1.size := ((O2.ext f21).fr F (show ¬ r2 = r21 by omega)).lt
    refine ⟨r2, 0, rfl, O2'.stC (by simp) rfl fun oa fa => oa.stC (by simp) rfl fun ob fb => ob.stC (by simp) rfl fun oc fc => ⟨r2, 0, rfl, _, oc.cell _, _, _, _, oc.cell _, _, oc.cell _, ?_⟩⟩
    have fabc := Fr.trans (S := fun x => x = r2) (Fr.trans (S := fun x => x = r2) fa fb fun _ _ e => e) fc fun _ _ e => e
    exact H1 hv neg q m c' e' _ (Fr.trans (Ext.trans F1 f2') fabc fun x hx e => by omega) (fr.mono sF) ((rm.fr fabc fun b k1 k2 => by omega).mono fun b k => by omega) le (N.fr fabc fun b o e k => by have := fr b o e; omega)
end Go.Proofs
set_option linter.unusedVariables false
namespace Go.Proofs
open Go Go.Eng
variable {B : World} {R : Ending → Heap → Prop} {h : Heap}
theorem yes {b : Bool} {X Y : Prop} (hb : b = true) (x : X) : (b = true → X) ∧ (b = false → Y) := ⟨fun _ => x, fun e => by rw [hb] at e; cases e⟩
end Go.Proofs
