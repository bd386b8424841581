import Derived.Test.YtobkdplpkgikhaaGreatFmtA36
/- Here stand lemmas and contracts, in the order in which they are used. -/
set_option linter.unusedVariables false
set_option linter.unusedVariables false
namespace Go.Eng
open Go
/-- The block that a pointer points into. -/
def Blk (p : Option Addr) (b : Nat) : Prop := ∃ o, p = some ⟨b, o, none⟩
theorem not_blk_none {b : Nat} : ¬ Blk none b := fun ⟨_, e⟩ => by cases e
theorem blk_some {b b' o : Nat} (h : Blk (some ⟨b, o, none⟩) b') : b' = b := by
  obtain ⟨_, e⟩ := h; cases e; rfl
/-- The cells from p on are vs. -/
def Sv (h : Heap) (p : Option Addr) (vs : List Value) : Prop :=
  vs = [] ∨ ∃ b o cs, p = some ⟨b, o, none⟩ ∧ Own h b cs ∧ ∀ i (hi : i < vs.length), cs[o + i]? = some vs[i]
theorem Sv.fr {h h' : Heap} {p : Option Addr} {vs : List Value} {S : Nat → Prop} (H : Sv h p vs) (f : Fr S h h') (hp : ∀ b, Blk p b → b < h.size → ¬ S b) : Sv h' p vs := by
  rcases H with H | ⟨b, o, cs, h1, h2, h3⟩
  · exact .inl H
  · exact .inr ⟨b, o, cs, h1, h2.fr f (hp b ⟨o, h1⟩ h2.lt), h3⟩
theorem Sv.row {h : Heap} {p : Option Addr} {vs : List Value} (H : Sv h p vs) (hp : Pt p) {n : Nat} (hn : vs.length = n) : rowAt h p (n * 1) vs := by
  rcases hp with hp | ⟨b, o, hp⟩
  · subst hp
    rcases H with H | ⟨b, o, cs, h1, _⟩
    · subst H; rfl
    · cases h1
  · subst hp
    refine ⟨by simp [hn], b, o, rfl, fun i hi => ?_⟩
    rcases H with H | ⟨b', o', cs, h1, h2, h3⟩
    · subst H; exact absurd hi (by simp)
    · cases h1; rw [h2.cell, h3 i hi]
/-- An element appended, of any kind. -/
theorem apV {h : Heap} {p : Option Addr} {n c r e : Nat} {vs : List Value} {x : Value} {S : Nat → Prop} {zero : Array Value} {bytes : Nat} {K : Option Addr → Nat → Nat → Heap → Prop}
    (hs : Sv h p vs) (hr : Room h p c S) (hn : vs.length = n) (hc : n ≤ c) (hx : Own h r #[x]) (hxo : oneCell x = true) (hb : 0 < bytes) (hlim : c < n + 1 → Builtin.nextslicecap (n + 1) c * bytes ≤ 281474976710656) (hlim2 : n + 1 ≤ 281474976710656)
    (hz : zero.size = 1) (hp : Pt p)
    (hk : ∀ q c' h', Sv h' q (vs ++ [x]) → Room h' q c' (fun b => S b ∨ h.size ≤ b) → n + 1 ≤ c' → (∀ b, Blk q b → Blk p b ∨ h.size ≤ b) → Fr (Blk p) h h' → Pt q → K q (n + 1) c' h') :
    apW h p n c (some ⟨r, 0, none⟩) 1 1 bytes e zero K := by
  have hrow : rowAt h (some ⟨r, 0, none⟩) (1 * 1) [x] := by
    refine ⟨rfl, r, 0, rfl, fun i hi => ?_⟩
    have : i = 0 := by simp at hi; exact hi
    subst this
    rw [hx.cell]; rfl
  refine ⟨fun hle => ?_, fun hlt => ⟨hb, hlim2, hlim hlt, vs, [x], hs.row hp hn, hrow, fun cap h1 h2 => ?_⟩⟩
  · refine ⟨_, hrow, ?_⟩
    rcases hr with hr | ⟨b, o, cs, e1, e2, e3, e4⟩
    · omega
    subst e1
    have hsz : o + n < cs.size := by omega
    refine ⟨b, o, rfl, fun y hy => ?_, fun i hi => ?_, ?_⟩
    · rw [List.mem_singleton] at hy; subst hy; exact hxo
    · have : i = 0 := by simp at hi; exact hi
      subst this
      exact ⟨⟨_, by rw [e2.cell, Array.getElem?_eq_getElem (by omega)]⟩, e2.frozen _⟩
    · simp only [setRow, Nat.mul_one]
      have H' := own_set (o := o + n) (v := x) e2
      refine hk _ _ _ (.inr ⟨b, o, _, rfl, H', fun i hi => ?_⟩) (.inr ⟨b, o, _, rfl, H', by simpa using e3, .inl e4⟩) (by omega) (fun b' hb' => .inl hb') (Fr.mono fr_setCell fun y _ hy => ⟨o, by rw [hy]⟩) (.inr ⟨b, o, rfl⟩)
      rw [List.length_append, List.length_singleton] at hi
      by_cases hil : i < vs.length
      · rw [Array.getElem?_setIfInBounds_ne (by omega), List.getElem_append_left hil]
        rcases hs with hs | ⟨b', o', cs', f1, f2, f3⟩
        · subst hs; exact absurd hil (by simp)
        · cases f1; rw [e2.inj f2]; exact f3 i hil
      · have : i = vs.length := by omega
        subst this
        simp only [hn, List.getElem_concat_length]
        rw [Array.getElem?_setIfInBounds_self_of_lt hsz]
  · have H' : Own (h.push (.cells (vs ++ [x] ++ zerosL zero (cap - (n + 1))).toArray e)) h.size _ := own_new
    refine hk _ _ _ (.inr ⟨_, 0, _, rfl, H', fun i hi => ?_⟩) (.inr ⟨_, 0, _, rfl, H', ?_, .inr (Nat.le_refl _)⟩) h1 (fun b' hb' => .inr (by rw [blk_some hb']; exact Nat.le_refl _)) (Ext.push.to) (.inr ⟨_, _, rfl⟩)
    · rw [Nat.zero_add, List.getElem?_toArray, List.getElem?_append_left hi, List.getElem?_eq_getElem hi]
    · simp [zerosL, hn, hz]
      omega
/-- Words that can be read, in a block that T has not. -/
def Rd (h : Heap) (T : Nat → Prop) (p : Option Addr) (ws : List Int) : Prop :=
  (∀ x ∈ ws, I64 x) ∧ (ws = [] ∨ ∃ b o, p = some ⟨b, o, none⟩ ∧ b < h.size ∧ ¬ T b ∧ ∀ i (hi : i < ws.length), cell? h ⟨b, o + i, none⟩ = some (.int .i64 ws[i]))
theorem cell_fr {h h' : Heap} {S : Nat → Prop} {b o : Nat} (f : Fr S h h') (hb : b < h.size) (hs : ¬ S b) : cell? h' ⟨b, o, none⟩ = cell? h ⟨b, o, none⟩ := by
  unfold cell?; rw [f.same b hb hs]
theorem Rd.fr {h h' : Heap} {S T T' : Nat → Prop} {p : Option Addr} {ws : List Int} (H : Rd h T p ws) (f : Fr S h h') (hS : ∀ b, b < h.size → S b → T b) (hT : ∀ b, b < h.size → T' b → T b) : Rd h' T' p ws := by
  refine ⟨H.1, ?_⟩
  rcases H.2 with e | ⟨b, o, e, hb, nT, g⟩
  · exact .inl e
  · exact .inr ⟨b, o, e, Nat.lt_of_lt_of_le hb f.size, fun k => nT (hT b hb k), fun i hi => (cell_fr f hb fun k => nT (hS b hb k)).trans (g i hi)⟩
theorem Rd.ints {h : Heap} {T : Nat → Prop} {p : Option Addr} {ws : List Int} (H : Rd h T p ws) : Go.Proofs.IntsH h p ws := by
  refine ⟨H.1, ?_⟩
  rcases H.2 with e | ⟨b, o, e, hb, _, g⟩
  · exact .inl e
  · exact .inr ⟨b, o, e, hb, g⟩
theorem Room.frT {h h' : Heap} {S T T' : Nat → Prop} {p : Option Addr} {c : Nat} (H : Room h p c fun b => ¬ T b) (f : Fr S h h') (hS : ∀ b, b < h.size → S b → T b) (hT : ∀ b, b < h.size → T' b → T b) : Room h' p c fun b => ¬ T' b := by
  rcases H with e | ⟨b, o, cs, e, O, g, nT⟩
  · exact .inl e
  · exact .inr ⟨b, o, cs, e, O.fr f fun k => nT (hS b O.lt k), g, fun k => nT (hT b O.lt k)⟩
/-- A list that was answered: its cells and its room lie where T is not. -/
structure Out (h : Heap) (T : Nat → Prop) (p : Option Addr) (n c : Nat) (ws : List Int) : Prop where
  len : ws.length = n
  le : n ≤ c
  pt : Pt p
  rd : Rd h T p ws
  room : Room h p c fun b => ¬ T b
theorem Out.fr {h h' : Heap} {S T T' : Nat → Prop} {p : Option Addr} {n c : Nat} {ws : List Int} (H : Out h T p n c ws) (f : Fr S h h') (hS : ∀ b, b < h.size → S b → T b) (hT : ∀ b, b < h.size → T' b → T b) : Out h' T' p n c ws :=
  ⟨H.len, H.le, H.pt, H.rd.fr f hS hT, H.room.frT f hS hT⟩
theorem Lj.out {h0 h : Heap} {p : Option Addr} {n c : Nat} {ws : List Int} (L : Lj h0 h p n c ws) {T : Nat → Prop} (hT : ∀ b, h0.size ≤ b → b < h.size → ¬ T b) : Out h T p n c ws := by
  refine ⟨L.len, L.le, L.pt, ⟨L.all, ?_⟩, ?_⟩
  · rcases L.sl with e | ⟨b, o, cs, e, O, g⟩
    · exact .inl e
    · exact .inr ⟨b, o, e, O.lt, hT b (L.fresh b o e) O.lt, fun i hi => by rw [O.cell]; exact g i hi⟩
  · rcases L.room with e | ⟨b, o, cs, e, O, g, k⟩
    · exact .inl e
    · exact .inr ⟨b, o, cs, e, O, g, hT b k O.lt⟩
/-- All blocks but those from lo to hi. -/
def Off (lo hi : Nat) (b : Nat) : Prop := ¬ (lo ≤ b ∧ b < hi)
theorem Lj.off {h0 h : Heap} {p : Option Addr} {n c : Nat} {ws : List Int} (L : Lj h0 h p n c ws) : Out h (Off h0.size h.size) p n c ws := L.out fun b h1 h2 k => k ⟨h1, h2⟩
theorem Out.off {h h' : Heap} {S : Nat → Prop} {lo hi : Nat} {p : Option Addr} {n c : Nat} {ws : List Int} (H : Out h (Off lo hi) p n c ws) (f : Fr S h h') (hS : ∀ b, lo ≤ b → b < hi → ¬ S b) : Out h' (Off lo hi) p n c ws :=
  H.fr f (fun b _ hs k => hS b k.1 k.2 hs) fun _ _ k => k
theorem Out.ext {h h' : Heap} {T : Nat → Prop} {p : Option Addr} {n c : Nat} {ws : List Int} (H : Out h T p n c ws) (f : Ext h h') : Out h' T p n c ws :=
  H.fr f (fun _ _ k => k.elim) fun _ _ k => k
/-- What Keep holds: the list, and what it was. -/
structure En where
  p : Option Addr
  n : Nat
  c : Nat
  q : Option Addr
  d : Nat
  ws : List Int
abbrev En.v (e : En) : Value := .slice e.p e.n e.c
abbrev En.w (e : En) : Value := .slice e.q e.n e.d
/-- The blocks that Keep itself has. -/
def KB (r : Nat) (pL pW : Option Addr) (b : Nat) : Prop := b = r ∨ Blk pL b ∨ Blk pW b
/-- The blocks of the lists that it holds. -/
def EB (es : List En) (b : Nat) : Prop := ∃ e ∈ es, e.c ≠ 0 ∧ Blk e.p b
def KT (r : Nat) (pL pW : Option Addr) (es : List En) (b : Nat) : Prop := KB r pL pW b ∨ EB es b
def PtB (h : Heap) (p : Option Addr) : Prop := p = none ∨ ∃ b o, p = some ⟨b, o, none⟩ ∧ b < h.size
theorem PtB.pt {h : Heap} {p : Option Addr} (H : PtB h p) : Pt p := by
  rcases H with e | ⟨b, o, e, _⟩
  · exact .inl e
  · exact .inr ⟨b, o, e⟩
theorem PtB.lt {h : Heap} {p : Option Addr} (H : PtB h p) {b : Nat} (hb : Blk p b) : b < h.size := by
  rcases H with e | ⟨b', o, e, hl⟩
  · subst e; exact absurd hb not_blk_none
  · subst e; rw [blk_some hb]; exact hl
theorem PtB.mono {h h' : Heap} {p : Option Addr} (H : PtB h p) (f : h.size ≤ h'.size) : PtB h' p := by
  rcases H with e | ⟨b, o, e, hl⟩
  · exact .inl e
  · exact .inr ⟨b, o, e, Nat.lt_of_lt_of_le hl f⟩
theorem Room.blk {h : Heap} {p : Option Addr} {c : Nat} {S : Nat → Prop} (H : Room h p c S) : Room h p c (Blk p) := by
  rcases H with e | ⟨b, o, cs, e, O, g, _⟩
  · exact .inl e
  · exact .inr ⟨b, o, cs, e, O, g, o, e⟩
theorem Room.ptB {h : Heap} {p : Option Addr} {c : Nat} {S : Nat → Prop} (H : Room h p c S) (hc : c ≠ 0) : PtB h p := by
  rcases H with e | ⟨b, o, cs, e, O, g, _⟩
  · exact absurd e hc
  · exact .inr ⟨b, o, e, O.lt⟩
theorem Out.blk {h : Heap} {T : Nat → Prop} {p : Option Addr} {n c : Nat} {ws : List Int} (H : Out h T p n c ws) (hc : c ≠ 0) {b : Nat} (hb : Blk p b) : ¬ T b ∧ b < h.size := by
  rcases H.room with e | ⟨b', o, cs, e, O, g, nT⟩
  · exact absurd e hc
  · rw [e] at hb; rw [blk_some hb]; exact ⟨nT, O.lt⟩
structure Kept (h : Heap) (r : Nat) (pL : Option Addr) (cL : Nat) (pW : Option Addr) (cW : Nat) (es : List En) : Prop where
  obj : Own h r #[.slice pL es.length cL, .slice pW es.length cW]
  lL : es.length ≤ cL
  lW : es.length ≤ cW
  ptL : PtB h pL
  ptW : PtB h pW
  vL : Sv h pL (es.map En.v)
  vW : Sv h pW (es.map En.w)
  rL : Room h pL cL (Blk pL)
  rW : Room h pW cW (Blk pW)
  nL : ¬ Blk pL r
  nW : ¬ Blk pW r
  nLW : ∀ b, Blk pL b → ¬ Blk pW b
  ok : ∀ e ∈ es, Out h (KB r pL pW) e.p e.n e.c e.ws ∧ Rd h (KB r pL pW) e.q e.ws
  lim : ∀ e ∈ es, e.n ≤ 1000000
  apart : es.Pairwise fun e f => e.c ≠ 0 → f.c ≠ 0 → ∀ b, Blk e.p b → ¬ Blk f.p b
theorem Kept.new {h : Heap} {r : Nat} (O : Own h r #[.slice none 0 0, .slice none 0 0]) : Kept h r none 0 none 0 [] :=
  ⟨O, Nat.le_refl _, Nat.le_refl _, .inl rfl, .inl rfl, .inl rfl, .inl rfl, .inl rfl, .inl rfl, not_blk_none, not_blk_none, fun _ _ => not_blk_none, fun e he => (by cases he), fun e he => (by cases he), .nil⟩
theorem Kept.lt {h : Heap} {r cL cW : Nat} {pL pW : Option Addr} {es : List En} (K : Kept h r pL cL pW cW es) {b : Nat} (hb : KT r pL pW es b) : b < h.size := by
  rcases hb with (e | e | e) | ⟨e, he, hc, hb⟩
  · rw [e]; exact K.obj.lt
  · exact K.ptL.lt e
  · exact K.ptW.lt e
  · rcases (K.ok e he).1.room with k | ⟨b', o, cs, k, O, _⟩
    · exact absurd k hc
    · rw [k] at hb; rw [blk_some hb]; exact O.lt
theorem Kept.fr {h h' : Heap} {S : Nat → Prop} {r cL cW : Nat} {pL pW : Option Addr} {es : List En} (K : Kept h r pL cL pW cW es) (f : Fr S h h') (hS : ∀ b, b < h.size → ¬ S b) : Kept h' r pL cL pW cW es := by
  have hO : ∀ b cs, Own h b cs → Own h' b cs := fun b cs O => O.fr f (hS b O.lt)
  refine ⟨hO _ _ K.obj, K.lL, K.lW, K.ptL.mono f.size, K.ptW.mono f.size, K.vL.fr f fun b _ hb => hS b hb, K.vW.fr f fun b _ hb => hS b hb, ?_, ?_, K.nL, K.nW, K.nLW, fun e he => ?_, K.lim, K.apart⟩
  · rcases K.rL with k | ⟨b, o, cs, k, O, g⟩
    · exact .inl k
    · exact .inr ⟨b, o, cs, k, hO _ _ O, g⟩
  · rcases K.rW with k | ⟨b, o, cs, k, O, g⟩
    · exact .inl k
    · exact .inr ⟨b, o, cs, k, hO _ _ O, g⟩
  · exact ⟨(K.ok e he).1.fr f (fun b hb k => absurd k (hS b hb)) fun _ _ k => k, (K.ok e he).2.fr f (fun b hb k => absurd k (hS b hb)) fun _ _ k => k⟩
theorem Kept.ext {h h' : Heap} {r cL cW : Nat} {pL pW : Option Addr} {es : List En} (K : Kept h r pL cL pW cW es) (f : Ext h h') : Kept h' r pL cL pW cW es := K.fr f fun _ _ => id
end Go.Eng
set_option linter.unusedVariables false
namespace Go.Proofs
open Go Go.Eng
variable {B : World} {R : Ending → Heap → Prop} {h : Heap}
/-- What Add hands on. -/
def AddK (R : Ending → Heap → Prop) (h : Heap) (r : Nat) (pL pW : Option Addr) (es : List En) (lo hi : Nat) : Prop :=
  ∀ pL' cL' pW' cW' e h', Kept h' r pL' cL' pW' cW' (es ++ [e]) → Fr (KB r pL pW) h h' → (∀ b, b < h.size → KB r pL' pW' b → KB r pL pW b) → (∀ b, KT r pL' pW' (es ++ [e]) b → KT r pL pW es b ∨ (lo ≤ b ∧ b < hi) ∨ h.size ≤ b) → R (.returned (.bool true)) h'
/-- (*Keep).Add, of a list that is what it is to be. -/
theorem K106 {r cL cW lo hi n c m d : Nat} {pL pW p q : Option Addr} {es : List En} {ws : List Int} (K : Kept h r pL cL pW cW es) (hl : es.length < 400) (L : Out h (Off lo hi) p n c ws) (Z : ∀ b, lo ≤ b → b < hi → ¬ KT r pL pW es b)
    (J : Rd h (KB r pL pW) q ws) (hm : ws.length = m) (hq : Pt q) (hlim : n ≤ 1000000)
    (H : AddK R h r pL pW es lo hi) :
    Ent Tryz.prog B 33 #[.pointer (some ⟨r, 0, none⟩), .slice p n c, .slice q m d] R h := by
  have hrlt := K.obj.lt
  have hnm : n = m := by rw [← L.len]; exact hm
  refine F106_ok _ _ _ _ _ _ _ ⟨r, 0, rfl, r, _, rfl, r, _, rfl, _, _, _, K.obj.cell _, fun _ => ?_, fun e => by have := of_decide_eq_false e; omega⟩
  refine ⟨r, 0, rfl, r, _, rfl, r, _, rfl, _, _, _, K.obj.cell _, alK fun r18 h19 e19 f19 o19 z19 => ?_⟩
  have K19 := K.ext f19
  refine apV K19.vL K19.rL (by simp) K19.lL o19 rfl (by decide) (fun hlt => by have := nsc_le hlt; omega) (by omega) rfl K19.ptL.pt fun q1 c1 h20 v1 r1 l1 b1 F1 pt1 => ?_
  have O20 : Own h20 r #[.slice pL es.length cL, .slice pW es.length cW] := K19.obj.fr F1 K19.nL
  refine ⟨r, 0, rfl, r, _, rfl, r, _, rfl, O20.stC (by simp) rfl fun a g => ?_⟩
  have A : Own _ r #[.slice q1 (es.length + 1) c1, .slice pW es.length cW] := a
  generalize setCell h20 ⟨r, 0, none⟩ (.slice q1 (es.length + 1) c1) = h30 at a g A ⊢
  have G1 : Fr (KB r pL pW) h19 h20 := Fr.mono F1 fun x _ k => .inr (.inl k)
  have FF : Fr (KB r pL pW) h h30 := Fr.trans (Fr.trans f19.to G1 fun x _ k => k) g fun x _ k => .inl k
  have J30 : IntsH h30 q ws := (J.fr FF (fun _ _ k => k) fun _ _ k => k).ints
  refine ⟨r, 0, rfl, r, _, rfl, r, _, rfl, _, _, _, A.cell _, ?_⟩
  refine apJN (h0 := h30) (T := fun _ => False) Lj.nil Fr.rfl' (by omega) J30 hm hq fun q39 c41 h38 L38 F38 _ => ⟨same1 A F38 id, alK fun r42 h43 e43 f43 o43 z43 => ⟨same1 (A.ext F38) f43 id, ?_⟩⟩
  have s19 := f19.size
  have s20 := F1.size
  have s30 := g.size
  have s38 := F38.size
  have s43 := f43.size
  have vW43 : Sv h43 pW (es.map En.w) := (((K19.vW.fr F1 fun b hb _ k => K.nLW b k hb).fr g fun b hb _ k => K.nW (k ▸ hb)).fr F38 fun _ _ _ => id).fr f43 fun _ _ _ => id
  have rW43 : Room h43 pW cW (Blk pW) := (((K19.rW.fr F1 fun b hb k => K.nLW b k hb).fr g fun b hb k => K.nW (k ▸ hb)).ext F38).ext f43
  refine apV vW43 rW43 (by simp) K.lW o43 rfl (by decide) (fun hlt => by have := nsc_le hlt; omega) (by omega) rfl K.ptW.pt fun q2 c2 h44 v2 r2 l2 b2 F2 pt2 => ?_
  have A44 : Own h44 r #[.slice q1 (es.length + 1) c1, .slice pW es.length cW] := ((A.ext F38).ext f43).fr F2 K.nW
  refine ⟨r, 0, rfl, r, _, rfl, r, _, rfl, A44.stC (by simp) rfl fun a2 g2 => ?_⟩
  have A2 : Own _ r #[.slice q1 (es.length + 1) c1, .slice q2 (es.length + 1) c2] := a2
  generalize setCell h44 ⟨r, 0 + 1, none⟩ (.slice q2 (es.length + 1) c2) = h54 at a2 g2 A2 ⊢
  have s44 := F2.size
  have s54 := g2.size
  -- the frames
  have G2 : Fr (fun x => x = r ∨ Blk pW x) h38 h54 := Fr.trans (Fr.trans (S := fun x => x = r ∨ Blk pW x) f43.to F2 fun x _ k => .inr k) g2 fun x _ k => .inl k
  have G20 : Fr (fun x => x = r ∨ Blk pW x) h20 h54 := Fr.trans (Fr.trans (S := fun x => x = r ∨ Blk pW x) (Fr.mono g fun x _ k => .inl k) F38 fun x _ k => k.elim) G2 fun x _ k => k
  have GG : Fr (KB r pL pW) h h54 := Fr.trans (Fr.trans f19.to G1 fun x _ k => k) G20 fun x _ k => k.elim .inl fun k => .inr (.inr k)
  have hq1 : ∀ b, Blk q1 b → b ≠ r ∧ ¬ Blk pW b := fun b hb => by
    rcases b1 b hb with k | k
    · exact ⟨fun e => K.nL (e ▸ k), K.nLW b k⟩
    · exact ⟨fun e => by omega, fun e => by have := K.ptW.lt e; omega⟩
  have pB1 : PtB h20 q1 := r1.ptB (by omega)
  have pB2 : PtB h44 q2 := r2.ptB (by omega)
  have hKB : ∀ b, KB r q1 q2 b → KB r pL pW b ∨ (h19.size ≤ b ∧ b < h20.size) ∨ h43.size ≤ b := fun b hb => by
    rcases hb with k | k | k
    · exact .inl (.inl k)
    · rcases b1 b k with k' | k'
      · exact .inl (.inr (.inl k'))
      · exact .inr (.inl ⟨k', pB1.lt k⟩)
    · rcases b2 b k with k' | k'
      · exact .inl (.inr (.inr k'))
      · exact .inr (.inr k')
  have low : ∀ b, KB r pL pW b → b < h.size := fun b k => K.lt (.inl k)
  have hKB0 : ∀ b, b < h.size → KB r q1 q2 b → KB r pL pW b := fun b hb k => by
    rcases hKB b k with k | k | k
    · exact k
    · omega
    · omega
  have I54 : IntsH h54 p ws := (L.rd.fr GG (T' := fun _ => False) (fun b hb k k2 => Z b k2.1 k2.2 (.inl k)) fun _ _ k => k.elim).ints
  have J54 : IntsH h54 q ws := (J.fr GG (fun _ _ k => k) fun _ _ k => k).ints
  refine K76 I54 J54 L.len hm (by omega) ⟨_, rfl, ?_⟩
  rw [decide_eq_true rfl]
  have hlen : (es ++ ([⟨p, n, c, q39, c41, ws⟩] : List En)).length = es.length + 1 := by simp
  refine H q1 c1 q2 c2 ⟨p, n, c, q39, c41, ws⟩ h54 ⟨?_, ?_, ?_, pB1.mono (by omega), pB2.mono (by omega), ?_, ?_, ?_, ?_, fun k => (hq1 r k).1 rfl, fun k => ?_, fun b k1 k2 => ?_, fun e he => ?_, fun e he => ?_, ?_⟩ GG hKB0 fun b hb => ?_
  · rw [hlen]; exact A2
  · rw [hlen]; exact l1
  · rw [hlen]; exact l2
  · rw [List.map_append]
    exact v1.fr G20 fun b hb _ k => k.elim (hq1 b hb).1 (hq1 b hb).2
  · rw [List.map_append]
    have hn39 : (Value.slice q39 (0 + m) c41) = En.w (⟨p, n, c, q39, c41, ws⟩ : En) := by rw [Nat.zero_add, ← hnm]
    rw [hn39] at v2
    exact v2.fr g2 fun b hb _ k => by
      rcases b2 b hb with k' | k'
      · exact K.nW (k ▸ k')
      · omega
  · exact (r1.blk).fr G20 fun b hb k => k.elim (hq1 b hb).1 (hq1 b hb).2
  · exact (r2.blk).fr g2 fun b hb k => by
      rcases b2 b hb with k' | k'
      · exact K.nW (k ▸ k')
      · omega
  · rcases b2 r k with k' | k'
    · exact K.nW k'
    · omega
  · rcases b2 b k2 with k' | k'
    · exact (hq1 b k1).2 k'
    · have := pB1.lt k1; omega
  · rcases List.mem_append.1 he with he | he
    · obtain ⟨o1, o2⟩ := K.ok e he
      exact ⟨o1.fr GG (fun _ _ k => k) hKB0, o2.fr GG (fun _ _ k => k) hKB0⟩
    · rw [List.mem_singleton.1 he]
      refine ⟨L.fr GG (fun b _ k k2 => Z b k2.1 k2.2 (.inl k)) fun b hb k k2 => Z b k2.1 k2.2 (.inl (hKB0 b hb k)), ?_⟩
      have := L38.off.rd
      rw [List.nil_append] at this
      refine this.fr G2 (fun b hb k k2 => ?_) fun b hb k k2 => ?_
      · have : KB r pL pW b := k.elim .inl fun k => .inr (.inr k)
        have := low b this
        have := k2.1
        omega
      · have h1 := k2.1
        rcases hKB b k with k | k | k
        · have := low b k; omega
        · omega
        · omega
  · rcases List.mem_append.1 he with he | he
    · exact K.lim e he
    · rw [List.mem_singleton.1 he]; exact hlim
  · refine List.pairwise_append.2 ⟨K.apart, List.pairwise_singleton _ _, fun e he f hf c1 c2 b hb1 hb2 => ?_⟩
    rw [List.mem_singleton.1 hf] at c2 hb2
    have hO := (L.blk c2 hb2).1
    by_cases hr : lo ≤ b ∧ b < hi
    · exact Z b hr.1 hr.2 (.inr ⟨e, he, c1, hb1⟩)
    · exact hO hr
  · rcases hb with k | ⟨e, he, hc, hb⟩
    · rcases hKB b k with k | k | k
      · exact .inl (.inl k)
      · exact .inr (.inr (by omega))
      · exact .inr (.inr (by omega))
    · rcases List.mem_append.1 he with he | he
      · exact .inl (.inr ⟨e, he, hc, hb⟩)
      · rw [List.mem_singleton.1 he] at hc hb
        have hO := (L.blk hc hb).1
        by_cases hr : lo ≤ b ∧ b < hi
        · exact .inr (.inl hr)
        · exact absurd hr hO
end Go.Proofs
set_option linter.unusedVariables false
namespace Go.Proofs
open Go Go.Eng
variable {B : World} {R : Ending → Heap → Prop} {h : Heap}
/-- A lent list, as far as it goes. -/
theorem lent_ints {h0 : Heap} {q : Option Addr} {n c : Nat} {xs : List Int} (L : Lj h0 h q (n + 3) c (xs ++ [-71, -72, -73])) : IntsH h (slP q 0 c 1) xs := by
  have I := L.ints
  refine ⟨fun x hx => I.1 x (List.mem_append_left _ hx), ?_⟩
  rcases I.2 with e | ⟨b, o, e, hr, g⟩
  · simp at e
  · subst e
    refine .inr ⟨b, o, ?_, hr, fun i hi => ?_⟩
    · unfold slP; split
      · rfl
      · show some ((⟨b, o, none⟩ : Addr).add (0 * 1)) = _
        rw [add_addr]; rfl
    · have := g i (by rw [List.length_append]; omega)
      rw [this, List.getElem_append_left hi]
/-- plumblaw2.Back, of a list that is what it was. -/
theorem K81 {h0 : Heap} {q p : Option Addr} {n c d : Nat} {xs : List Int} (L : Lj h0 h q (n + 3) c (xs ++ [-71, -72, -73])) (J : IntsH h p xs) (hn : xs.length = n) (hlim : n ≤ 1000000)
    (H : ∀ h', Fr (Blk q) h h' → R (.returned (.bool true)) h') : Ent Tryz.prog B 13 #[.slice q (n + 3) c, .slice p n d] R h := by
  have hw : ∀ k : Nat, k ≤ 10 → IntKind.i64.wrap (((n : Nat) : Int) + (k : Int)) = ((n + k : Nat) : Int) := fun k hk => by rw [i64_in (by omega) (by omega)]; omega
  have w1 := hw 1 (by omega)
  have w2 := hw 2 (by omega)
  have w3 := hw 3 (by omega)
  rw [show ((1 : Nat) : Int) = 1 from rfl] at w1
  rw [show ((2 : Nat) : Int) = 2 from rfl] at w2
  rw [show ((3 : Nat) : Int) = 3 from rfl] at w3
  have I := L.ints
  have hlen := L.len
  have get : ∀ (k : Nat) (hk : k < 3), (xs ++ [-71, -72, -73])[n + k]'(by rw [hlen]; omega) = [-71, -72, -73][k] := fun k hk => by
    rw [List.getElem_append_right (by omega)]
    simp [hn]
  obtain ⟨b, o, cs, rfl, O, hcs, hb⟩ : ∃ b o cs, q = some ⟨b, o, none⟩ ∧ Own h b cs ∧ o + c ≤ cs.size ∧ h0.size ≤ b := by
    rcases L.room with e | ⟨b, o, cs, e1, e2, e3, e4⟩
    · have := L.le; omega
    · exact ⟨b, o, cs, e1, e2, e3, e4⟩
  have IP : IntsH h (slP (some ⟨b, o, none⟩) 0 c 1) xs := lent_ints L
  refine F81_ok _ _ _ _ _ _ ⟨fun _ => ?_, fun e => ?_⟩
  · refine ⟨by omega, by have := L.le; omega, ?_⟩
    rw [Int.toNat_natCast]
    refine K76 IP J (by rw [hn]; omega) hn (by omega) ⟨_, rfl, fun _ => ?_, fun e => ?_⟩
    · refine I.get hlen (j := n) (by rw [hlen]; omega) ?_
      have g0 : (xs ++ [-71, -72, -73])[n]'(by rw [hlen]; omega) = -71 := get 0 (by decide)
      rw [g0]
      refine ⟨fun _ => ?_, fun e => absurd e (by decide)⟩
      rw [w1]
      refine I.get hlen (j := n + 1) (by rw [hlen]; omega) ?_
      rw [show (xs ++ [-71, -72, -73])[n + 1]'(by rw [hlen]; omega) = -72 from get 1 (by decide)]
      refine ⟨fun _ => ?_, fun e => absurd e (by decide)⟩
      rw [w2]
      refine I.get hlen (j := n + 2) (by rw [hlen]; omega) ?_
      rw [show (xs ++ [-71, -72, -73])[n + 2]'(by rw [hlen]; omega) = -73 from get 2 (by decide)]
      have hc := L.le
      refine ⟨fun m vs h' => match vs with
        | [.slice q1 n1 c1, .bool t, .int _ i] => some (⟨b, o, none⟩ : Addr) = q1 ∧ n + 3 = n1 ∧ c = c1 ∧ t = true ∧ ∃ j : Nat, i = (j : Int) ∧ j ≤ n + 3 ∧ m = n + 3 - j ∧ Fr (Blk (some ⟨b, o, none⟩)) h h' ∧ ∃ cs', Own h' b cs' ∧ cs'.size = cs.size
        | _ => False, n + 3, ⟨rfl, rfl, rfl, rfl, 0, rfl, by omega, by omega, Fr.rfl', cs, O, rfl⟩, ?_⟩
      rintro m h1 _ _ _ _ _ ⟨rfl, rfl, rfl, rfl, j, rfl, hj, rfl, F, cs', O', hs'⟩ _
      refine ⟨fun e => ?_, fun e => H h1 F⟩
      have hjn : j < n + 3 := by have := of_decide_eq_true e; omega
      refine ⟨b, o, rfl, by omega, by omega, b, _, rfl, O'.stC (by rw [Int.toNat_natCast]; omega) rfl fun a g => ⟨n + 3 - (j + 1), by omega, rfl, rfl, rfl, rfl, j + 1, ?_, by omega, rfl, Fr.trans F g fun x _ e => ⟨o, by rw [e]⟩, _, a, by rw [Array.size_setIfInBounds]; exact hs'⟩⟩
      rw [i64_in (by omega) (by omega)]; rfl
    · rw [decide_eq_true rfl] at e; cases e
  · rw [w3, decide_eq_true rfl] at e; cases e
end Go.Proofs
set_option linter.unusedVariables false
namespace Go.Proofs
open Go Go.Eng
variable {B : World} {R : Ending → Heap → Prop} {h : Heap}
/-- plumblaw7.is, where an error is ahead of all steps. -/
theorem K85a {k p q : Option Addr} {c m d : Nat} {f g : Int} (h0 : g ≠ 0) (H : R (.returned (.bool true)) h) : Ent Tryz.prog B 15 #[.pointer k, .slice p 0 c, .int .i64 g, .int .i64 g, .slice q m d, .int .i64 f] R h := by
  refine F85_ok _ _ _ _ _ _ _ _ _ _ ⟨fun _ => ⟨fun _ => ?_, fun e => (by rw [decide_eq_true rfl] at e; cases e)⟩, fun e => (by rw [decide_eq_false h0] at e; cases e)⟩
  show R (.returned (.bool (decide (((0 : Nat) : Int) = 0)))) h
  rw [show decide (((0 : Nat) : Int) = 0) = true from rfl]; exact H
/-- plumblaw7.is, of a list that is kept. -/
theorem K85b {r cL cW lo hi n c m d : Nat} {pL pW p q : Option Addr} {es : List En} {ws : List Int} {f : Int} (K : Kept h r pL cL pW cW es) (hl : es.length < 400) (L : Out h (Off lo hi) p n c ws) (Z : ∀ b, lo ≤ b → b < hi → ¬ KT r pL pW es b)
    (J : Rd h (KB r pL pW) q ws) (hm : ws.length = m) (hq : Pt q) (hlim : n ≤ 1000000)
    (H : AddK R h r pL pW es lo hi) :
    Ent Tryz.prog B 15 #[.pointer (some ⟨r, 0, none⟩), .slice p n c, .int .i64 f, .int .i64 (0 : Int), .slice q m d, .int .i64 f] R h := by
  refine F85_ok _ _ _ _ _ _ _ _ _ _ ⟨fun e => absurd e (by decide), fun _ => ⟨fun _ => K106 K hl L Z J hm hq hlim fun pL' cL' pW' cW' e h' K' F' B' Z' => ⟨_, rfl, H pL' cL' pW' cW' e h' K' F' B' Z'⟩, fun e => (by rw [decide_eq_true rfl] at e; cases e)⟩⟩
/-- What a call hands on that keeps some lists. -/
def KeepK (R : Ending → Heap → Prop) (h : Heap) (r : Nat) (pL pW : Option Addr) (es : List En) (k : Nat) : Prop :=
  ∀ pL' cL' pW' cW' es' h', Kept h' r pL' cL' pW' cW' (es ++ es') → es'.length ≤ k → Fr (KB r pL pW) h h' → (∀ b, b < h.size → KB r pL' pW' b → KB r pL pW b) → (∀ b, KT r pL' pW' (es ++ es') b → KT r pL pW es b ∨ h.size ≤ b) → R (.returned (.bool true)) h'
/-- Another heap to begin from, with nothing changed since. -/
theorem KeepK.ext {hS h : Heap} {r k : Nat} {pL pW : Option Addr} {es : List En} (H : KeepK R hS r pL pW es k) (F : Ext hS h) : KeepK R h r pL pW es k :=
  fun pL' cL' pW' cW' es' h' K' l' F' B' Z' => H pL' cL' pW' cW' es' h' K' l' (Fr.trans F.to F' fun _ _ k => k) (fun b hb k => B' b (Nat.lt_of_lt_of_le hb F.size) k) fun b k => (Z' b k).imp id fun k => Nat.le_trans F.size k
end Go.Proofs
set_option linter.unusedVariables false
namespace Go.Eng
open Go
end Go.Eng
namespace Go.Proofs
open Go Go.Eng
/-- An expansion of floats of at most 2^b. -/
structure Good (b : Nat) (xs : List Int) : Prop where
  fin : ∀ x ∈ xs, isFin x = true ∧ (fV x).natAbs ≤ 2 ^ b
  val : vZ 0 (xs.map fV)
theorem Good.nil {b : Nat} : Good b [] := ⟨fun x hx => (by cases hx), trivial⟩
theorem Good.mono {a b : Nat} {xs : List Int} (G : Good a xs) (h : a ≤ b) : Good b xs :=
  ⟨fun x hx => ⟨(G.fin x hx).1, Nat.le_trans (G.fin x hx).2 (Nat.pow_le_pow_right (by decide) h)⟩, G.val⟩
end Go.Proofs
set_option linter.unusedVariables false
/-! A number's parts: the nearest float, then of what is left, till nothing is left. -/
namespace Go.Eng
open Go
theorem rnd_less {r : Int} (h : r ≠ 0) : (r - rndI r).natAbs < r.natAbs := by
  rcases rnd_cases r with e | ⟨j, h1, h2, h3, h4⟩
  · rw [e, Int.sub_self]; show 0 < _; omega
  · have : 0 < 2 ^ j := Nat.pow_pos (by decide)
    omega
def parts (r : Int) : List Int := if h : r = 0 then [] else rndI r :: parts (r - rndI r)
 termination_by r.natAbs
 decreasing_by exact rnd_less h
end Go.Eng
