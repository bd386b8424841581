import Derived.Test.YtkfafikejdhccaaGreatDoorA30
import Derived.Test.YtkfafikejdhccaaGreatDoorA28
/- Here stand lemmas: lists that are kept. -/
set_option linter.unusedVariables false
set_option linter.unusedVariables false
namespace Go.Eng
open Go
/-- The block that a pointer points into. -/
def Blk (p : Option Addr) (b : Nat) : Prop := ∃ o, p = some ⟨b, o, none⟩
theorem not_blk_none {b : Nat} : ¬ Blk none b := fun ⟨_, e⟩ => by cases e
theorem blk_some {b b' o : Nat} (h : Blk (some ⟨b, o, none⟩) b') : b' = b := by
  obtain ⟨_, e⟩ := h; cases e; rfl
/-- The cells from p on are vs. -/
def Sv (h : Heap) (p : Option Addr) (vs : List Value) : Prop :=
  vs = [] ∨ ∃ b o cs, p = some ⟨b, o, none⟩ ∧ Own h b cs ∧ ∀ i (hi : i < vs.length), cs[o + i]? = some vs[i]
theorem Sv.fr {h h' : Heap} {p : Option Addr} {vs : List Value} {S : Nat → Prop} (H : Sv h p vs) (f : Fr S h h') (hp : ∀ b, Blk p b → b < h.size → ¬ S b) : Sv h' p vs := by
  rcases H with H | ⟨b, o, cs, h1, h2, h3⟩
  · exact .inl H
  · exact .inr ⟨b, o, cs, h1, h2.fr f (hp b ⟨o, h1⟩ h2.lt), h3⟩
theorem Sv.row {h : Heap} {p : Option Addr} {vs : List Value} (H : Sv h p vs) (hp : Pt p) {n : Nat} (hn : vs.length = n) : rowAt h p (n * 1) vs := by
  rcases hp with hp | ⟨b, o, hp⟩
  · subst hp
    rcases H with H | ⟨b, o, cs, h1, _⟩
    · subst H; rfl
    · cases h1
  · subst hp
    refine ⟨by simp [hn], b, o, rfl, fun i hi => ?_⟩
    rcases H with H | ⟨b', o', cs, h1, h2, h3⟩
    · subst H; exact absurd hi (by simp)
    · cases h1; rw [h2.cell, h3 i hi]
/-- An element appended, of any kind. -/
theorem apV {h : Heap} {p : Option Addr} {n c r e : Nat} {vs : List Value} {x : Value} {S : Nat → Prop} {zero : Array Value} {bytes : Nat} {K : Option Addr → Nat → Nat → Heap → Prop}
    (hs : Sv h p vs) (hr : Room h p c S) (hn : vs.length = n) (hc : n ≤ c) (hx : Own h r #[x]) (hxo : oneCell x = true) (hb : 0 < bytes) (hlim : c < n + 1 → Builtin.nextslicecap (n + 1) c * bytes ≤ 281474976710656) (hlim2 : n + 1 ≤ 281474976710656)
    (hz : zero.size = 1) (hp : Pt p)
    (hk : ∀ q c' h', Sv h' q (vs ++ [x]) → Room h' q c' (fun b => S b ∨ h.size ≤ b) → n + 1 ≤ c' → (∀ b, Blk q b → Blk p b ∨ h.size ≤ b) → Fr (Blk p) h h' → Pt q → K q (n + 1) c' h') :
    apW h p n c (some ⟨r, 0, none⟩) 1 1 bytes e zero K := by
  have hrow : rowAt h (some ⟨r, 0, none⟩) (1 * 1) [x] := by
    refine ⟨rfl, r, 0, rfl, fun i hi => ?_⟩
    have : i = 0 := by simp at hi; exact hi
    subst this
    rw [hx.cell]; rfl
  refine ⟨fun hle => ?_, fun hlt => ⟨hb, hlim2, hlim hlt, vs, [x], hs.row hp hn, hrow, fun cap h1 h2 => ?_⟩⟩
  · refine ⟨_, hrow, ?_⟩
    rcases hr with hr | ⟨b, o, cs, e1, e2, e3, e4⟩
    · omega
    subst e1
    have hsz : o + n < cs.size := by omega
    refine ⟨b, o, rfl, fun y hy => ?_, fun i hi => ?_, ?_⟩
    · rw [List.mem_singleton] at hy; subst hy; exact hxo
    · have : i = 0 := by simp at hi; exact hi
      subst this
      exact ⟨⟨_, by rw [e2.cell, Array.getElem?_eq_getElem (by omega)]⟩, e2.frozen _⟩
    · simp only [setRow, Nat.mul_one]
      have H' := own_set (o := o + n) (v := x) e2
      refine hk _ _ _ (.inr ⟨b, o, _, rfl, H', fun i hi => ?_⟩) (.inr ⟨b, o, _, rfl, H', by simpa using e3, .inl e4⟩) (by omega) (fun b' hb' => .inl hb') (Fr.mono fr_setCell fun y _ hy => ⟨o, by rw [hy]⟩) (.inr ⟨b, o, rfl⟩)
      rw [List.length_append, List.length_singleton] at hi
      by_cases hil : i < vs.length
      · rw [Array.getElem?_setIfInBounds_ne (by omega), List.getElem_append_left hil]
        rcases hs with hs | ⟨b', o', cs', f1, f2, f3⟩
        · subst hs; exact absurd hil (by simp)
        · cases f1; rw [e2.inj f2]; exact f3 i hil
      · have : i = vs.length := by omega
        subst this
        simp only [hn, List.getElem_concat_length]
        rw [Array.getElem?_setIfInBounds_self_of_lt hsz]
  · have H' : Own (h.push (.cells (vs ++ [x] ++ zerosL zero (cap - (n + 1))).toArray e)) h.size _ := own_new
    refine hk _ _ _ (.inr ⟨_, 0, _, rfl, H', fun i hi => ?_⟩) (.inr ⟨_, 0, _, rfl, H', ?_, .inr (Nat.le_refl _)⟩) h1 (fun b' hb' => .inr (by rw [blk_some hb']; exact Nat.le_refl _)) (Ext.push.to) (.inr ⟨_, _, rfl⟩)
    · rw [Nat.zero_add, List.getElem?_toArray, List.getElem?_append_left hi, List.getElem?_eq_getElem hi]
    · simp [zerosL, hn, hz]
      omega
/-- Words that can be read, in a block that T has not. -/
def Rd (h : Heap) (T : Nat → Prop) (p : Option Addr) (ws : List Int) : Prop :=
  (∀ x ∈ ws, I64 x) ∧ (ws = [] ∨ ∃ b o, p = some ⟨b, o, none⟩ ∧ b < h.size ∧ ¬ T b ∧ ∀ i (hi : i < ws.length), cell? h ⟨b, o + i, none⟩ = some (.int .i64 ws[i]))
theorem cell_fr {h h' : Heap} {S : Nat → Prop} {b o : Nat} (f : Fr S h h') (hb : b < h.size) (hs : ¬ S b) : cell? h' ⟨b, o, none⟩ = cell? h ⟨b, o, none⟩ := by
  unfold cell?; rw [f.same b hb hs]
theorem Rd.fr {h h' : Heap} {S T T' : Nat → Prop} {p : Option Addr} {ws : List Int} (H : Rd h T p ws) (f : Fr S h h') (hS : ∀ b, b < h.size → S b → T b) (hT : ∀ b, b < h.size → T' b → T b) : Rd h' T' p ws := by
  refine ⟨H.1, ?_⟩
  rcases H.2 with e | ⟨b, o, e, hb, nT, g⟩
  · exact .inl e
  · exact .inr ⟨b, o, e, Nat.lt_of_lt_of_le hb f.size, fun k => nT (hT b hb k), fun i hi => (cell_fr f hb fun k => nT (hS b hb k)).trans (g i hi)⟩
theorem Rd.ints {h : Heap} {T : Nat → Prop} {p : Option Addr} {ws : List Int} (H : Rd h T p ws) : Go.Proofs.IntsH h p ws := by
  refine ⟨H.1, ?_⟩
  rcases H.2 with e | ⟨b, o, e, hb, _, g⟩
  · exact .inl e
  · exact .inr ⟨b, o, e, hb, g⟩
theorem Room.frT {h h' : Heap} {S T T' : Nat → Prop} {p : Option Addr} {c : Nat} (H : Room h p c fun b => ¬ T b) (f : Fr S h h') (hS : ∀ b, b < h.size → S b → T b) (hT : ∀ b, b < h.size → T' b → T b) : Room h' p c fun b => ¬ T' b := by
  rcases H with e | ⟨b, o, cs, e, O, g, nT⟩
  · exact .inl e
  · exact .inr ⟨b, o, cs, e, O.fr f fun k => nT (hS b O.lt k), g, fun k => nT (hT b O.lt k)⟩
/-- A list that was answered: its cells and its room lie where T is not. -/
structure Out (h : Heap) (T : Nat → Prop) (p : Option Addr) (n c : Nat) (ws : List Int) : Prop where
  len : ws.length = n
  le : n ≤ c
  pt : Pt p
  rd : Rd h T p ws
  room : Room h p c fun b => ¬ T b
theorem Out.fr {h h' : Heap} {S T T' : Nat → Prop} {p : Option Addr} {n c : Nat} {ws : List Int} (H : Out h T p n c ws) (f : Fr S h h') (hS : ∀ b, b < h.size → S b → T b) (hT : ∀ b, b < h.size → T' b → T b) : Out h' T' p n c ws :=
  ⟨H.len, H.le, H.pt, H.rd.fr f hS hT, H.room.frT f hS hT⟩
theorem Lj.out {h0 h : Heap} {p : Option Addr} {n c : Nat} {ws : List Int} (L : Lj h0 h p n c ws) {T : Nat → Prop} (hT : ∀ b, h0.size ≤ b → b < h.size → ¬ T b) : Out h T p n c ws := by
  refine ⟨L.len, L.le, L.pt, ⟨L.all, ?_⟩, ?_⟩
  · rcases L.sl with e | ⟨b, o, cs, e, O, g⟩
    · exact .inl e
    · exact .inr ⟨b, o, e, O.lt, hT b (L.fresh b o e) O.lt, fun i hi => by rw [O.cell]; exact g i hi⟩
  · rcases L.room with e | ⟨b, o, cs, e, O, g, k⟩
    · exact .inl e
    · exact .inr ⟨b, o, cs, e, O, g, hT b k O.lt⟩
/-- All blocks but those from lo to hi. -/
def Off (lo hi : Nat) (b : Nat) : Prop := ¬ (lo ≤ b ∧ b < hi)
theorem Lj.off {h0 h : Heap} {p : Option Addr} {n c : Nat} {ws : List Int} (L : Lj h0 h p n c ws) : Out h (Off h0.size h.size) p n c ws := L.out fun b h1 h2 k => k ⟨h1, h2⟩
theorem Out.off {h h' : Heap} {S : Nat → Prop} {lo hi : Nat} {p : Option Addr} {n c : Nat} {ws : List Int} (H : Out h (Off lo hi) p n c ws) (f : Fr S h h') (hS : ∀ b, lo ≤ b → b < hi → ¬ S b) : Out h' (Off lo hi) p n c ws :=
  H.fr f (fun b _ hs k => hS b k.1 k.2 hs) fun _ _ k => k
theorem Out.ext {h h' : Heap} {T : Nat → Prop} {p : Option Addr} {n c : Nat} {ws : List Int} (H : Out h T p n c ws) (f : Ext h h') : Out h' T p n c ws :=
  H.fr f (fun _ _ k => k.elim) fun _ _ k => k
/-- What Keep holds: the list, and what it was. -/
structure En where
  p : Option Addr
  n : Nat
  c : Nat
  q : Option Addr
  d : Nat
  ws : List Int
abbrev En.v (e : En) : Value := .slice e.p e.n e.c
abbrev En.w (e : En) : Value := .slice e.q e.n e.d
/-- The blocks that Keep itself has. -/
def KB (r : Nat) (pL pW : Option Addr) (b : Nat) : Prop := b = r ∨ Blk pL b ∨ Blk pW b
/-- The blocks of the lists that it holds. -/
def EB (es : List En) (b : Nat) : Prop := ∃ e ∈ es, e.c ≠ 0 ∧ Blk e.p b
def KT (r : Nat) (pL pW : Option Addr) (es : List En) (b : Nat) : Prop := KB r pL pW b ∨ EB es b
def PtB (h : Heap) (p : Option Addr) : Prop := p = none ∨ ∃ b o, p = some ⟨b, o, none⟩ ∧ b < h.size
theorem PtB.pt {h : Heap} {p : Option Addr} (H : PtB h p) : Pt p := by
  rcases H with e | ⟨b, o, e, _⟩
  · exact .inl e
  · exact .inr ⟨b, o, e⟩
theorem PtB.lt {h : Heap} {p : Option Addr} (H : PtB h p) {b : Nat} (hb : Blk p b) : b < h.size := by
  rcases H with e | ⟨b', o, e, hl⟩
  · subst e; exact absurd hb not_blk_none
  · subst e; rw [blk_some hb]; exact hl
theorem PtB.mono {h h' : Heap} {p : Option Addr} (H : PtB h p) (f : h.size ≤ h'.size) : PtB h' p := by
  rcases H with e | ⟨b, o, e, hl⟩
  · exact .inl e
  · exact .inr ⟨b, o, e, Nat.lt_of_lt_of_le hl f⟩
theorem Room.blk {h : Heap} {p : Option Addr} {c : Nat} {S : Nat → Prop} (H : Room h p c S) : Room h p c (Blk p) := by
  rcases H with e | ⟨b, o, cs, e, O, g, _⟩
  · exact .inl e
  · exact .inr ⟨b, o, cs, e, O, g, o, e⟩
theorem Room.ptB {h : Heap} {p : Option Addr} {c : Nat} {S : Nat → Prop} (H : Room h p c S) (hc : c ≠ 0) : PtB h p := by
  rcases H with e | ⟨b, o, cs, e, O, g, _⟩
  · exact absurd e hc
  · exact .inr ⟨b, o, e, O.lt⟩
theorem Out.blk {h : Heap} {T : Nat → Prop} {p : Option Addr} {n c : Nat} {ws : List Int} (H : Out h T p n c ws) (hc : c ≠ 0) {b : Nat} (hb : Blk p b) : ¬ T b ∧ b < h.size := by
  rcases H.room with e | ⟨b', o, cs, e, O, g, nT⟩
  · exact absurd e hc
  · rw [e] at hb; rw [blk_some hb]; exact ⟨nT, O.lt⟩
structure Kept (h : Heap) (r : Nat) (pL : Option Addr) (cL : Nat) (pW : Option Addr) (cW : Nat) (es : List En) : Prop where
  obj : Own h r #[.slice pL es.length cL, .slice pW es.length cW]
  lL : es.length ≤ cL
  lW : es.length ≤ cW
  ptL : PtB h pL
  ptW : PtB h pW
  vL : Sv h pL (es.map En.v)
  vW : Sv h pW (es.map En.w)
  rL : Room h pL cL (Blk pL)
  rW : Room h pW cW (Blk pW)
  nL : ¬ Blk pL r
  nW : ¬ Blk pW r
  nLW : ∀ b, Blk pL b → ¬ Blk pW b
  ok : ∀ e ∈ es, Out h (KB r pL pW) e.p e.n e.c e.ws ∧ Rd h (KB r pL pW) e.q e.ws
  lim : ∀ e ∈ es, e.n ≤ 1000000
  apart : es.Pairwise fun e f => e.c ≠ 0 → f.c ≠ 0 → ∀ b, Blk e.p b → ¬ Blk f.p b
theorem Kept.new {h : Heap} {r : Nat} (O : Own h r #[.slice none 0 0, .slice none 0 0]) : Kept h r none 0 none 0 [] :=
  ⟨O, Nat.le_refl _, Nat.le_refl _, .inl rfl, .inl rfl, .inl rfl, .inl rfl, .inl rfl, .inl rfl, not_blk_none, not_blk_none, fun _ _ => not_blk_none, fun e he => (by cases he), fun e he => (by cases he), .nil⟩
theorem Kept.lt {h : Heap} {r cL cW : Nat} {pL pW : Option Addr} {es : List En} (K : Kept h r pL cL pW cW es) {b : Nat} (hb : KT r pL pW es b) : b < h.size := by
  rcases hb with (e | e | e) | ⟨e, he, hc, hb⟩
  · rw [e]; exact K.obj.lt
  · exact K.ptL.lt e
  · exact K.ptW.lt e
  · rcases (K.ok e he).1.room with k | ⟨b', o, cs, k, O, _⟩
    · exact absurd k hc
    · rw [k] at hb; rw [blk_some hb]; exact O.lt
theorem Kept.fr {h h' : Heap} {S : Nat → Prop} {r cL cW : Nat} {pL pW : Option Addr} {es : List En} (K : Kept h r pL cL pW cW es) (f : Fr S h h') (hS : ∀ b, b < h.size → ¬ S b) : Kept h' r pL cL pW cW es := by
  have hO : ∀ b cs, Own h b cs → Own h' b cs := fun b cs O => O.fr f (hS b O.lt)
  refine ⟨hO _ _ K.obj, K.lL, K.lW, K.ptL.mono f.size, K.ptW.mono f.size, K.vL.fr f fun b _ hb => hS b hb, K.vW.fr f fun b _ hb => hS b hb, ?_, ?_, K.nL, K.nW, K.nLW, fun e he => ?_, K.lim, K.apart⟩
  · rcases K.rL with k | ⟨b, o, cs, k, O, g⟩
    · exact .inl k
    · exact .inr ⟨b, o, cs, k, hO _ _ O, g⟩
  · rcases K.rW with k | ⟨b, o, cs, k, O, g⟩
    · exact .inl k
    · exact .inr ⟨b, o, cs, k, hO _ _ O, g⟩
  · exact ⟨(K.ok e he).1.fr f (fun b hb k => absurd k (hS b hb)) fun _ _ k => k, (K.ok e he).2.fr f (fun b hb k => absurd k (hS b hb)) fun _ _ k => k⟩
theorem Kept.ext {h h' : Heap} {r cL cW : Nat} {pL pW : Option Addr} {es : List En} (K : Kept h r pL cL pW cW es) (f : Ext h h') : Kept h' r pL cL pW cW es := K.fr f fun _ _ => id
end Go.Eng
set_option linter.unusedVariables false
namespace Go.Proofs
open Go Go.Eng
variable {B : World} {R : Ending → Heap → Prop} {h : Heap}
/-- What Add hands on. -/
def AddK (R : Ending → Heap → Prop) (h : Heap) (r : Nat) (pL pW : Option Addr) (es : List En) (lo hi : Nat) : Prop :=
  ∀ pL' cL' pW' cW' e h', Kept h' r pL' cL' pW' cW' (es ++ [e]) → Fr (KB r pL pW) h h' → (∀ b, b < h.size → KB r pL' pW' b → KB r pL pW b) → (∀ b, KT r pL' pW' (es ++ [e]) b → KT r pL pW es b ∨ (lo ≤ b ∧ b < hi) ∨ h.size ≤ b) → R (.returned (.bool true)) h'
/-- (*Keep).Add, of a list that is what it is to be. -/
theorem K106 {r cL cW lo hi n c m d : Nat} {pL pW p q : Option Addr} {es : List En} {ws : List Int} (K : Kept h r pL cL pW cW es) (hl : es.length < 400) (L : Out h (Off lo hi) p n c ws) (Z : ∀ b, lo ≤ b → b < hi → ¬ KT r pL pW es b)
    (J : Rd h (KB r pL pW) q ws) (hm : ws.length = m) (hq : Pt q) (hlim : n ≤ 1000000)
    (H : AddK R h r pL pW es lo hi) :
    Ent Tryz.prog B 106 #[.pointer (some ⟨r, 0, none⟩), .slice p n c, .slice q m d] R h := by
  have hrlt := K.obj.lt
  have hnm : n = m := by rw [← L.len]; exact hm
  refine F106_ok _ _ _ _ _ _ _ ⟨r, 0, rfl, r, _, rfl, r, _, rfl, _, _, _, K.obj.cell _, fun _ => ?_, fun e => by have := of_decide_eq_false e; omega⟩
  refine ⟨r, 0, rfl, r, _, rfl, r, _, rfl, _, _, _, K.obj.cell _, alK fun r18 h19 e19 f19 o19 z19 => ?_⟩
  have K19 := K.ext f19
  refine apV K19.vL K19.rL (by simp) K19.lL o19 rfl (by decide) (fun hlt => by have := nsc_le hlt; omega) (by omega) rfl K19.ptL.pt fun q1 c1 h20 v1 r1 l1 b1 F1 pt1 => ?_
  have O20 : Own h20 r #[.slice pL es.length cL, .slice pW es.length cW] := K19.obj.fr F1 K19.nL
  refine ⟨r, 0, rfl, r, _, rfl, r, _, rfl, O20.stC (by simp) rfl fun a g => ?_⟩
  have A : Own _ r #[.slice q1 (es.length + 1) c1, .slice pW es.length cW] := a
  generalize setCell h20 ⟨r, 0, none⟩ (.slice q1 (es.length + 1) c1) = h30 at a g A ⊢
  have G1 : Fr (KB r pL pW) h19 h20 := Fr.mono F1 fun x _ k => .inr (.inl k)
  have FF : Fr (KB r pL pW) h h30 := Fr.trans (Fr.trans f19.to G1 fun x _ k => k) g fun x _ k => .inl k
  have J30 : IntsH h30 q ws := (J.fr FF (fun _ _ k => k) fun _ _ k => k).ints
  refine ⟨r, 0, rfl, r, _, rfl, r, _, rfl, _, _, _, A.cell _, ?_⟩
  refine apJN (h0 := h30) (T := fun _ => False) Lj.nil Fr.rfl' (by omega) J30 hm hq fun q39 c41 h38 L38 F38 _ => ⟨same1 A F38 id, alK fun r42 h43 e43 f43 o43 z43 => ⟨same1 (A.ext F38) f43 id, ?_⟩⟩
  have s19 := f19.size
  have s20 := F1.size
  have s30 := g.size
  have s38 := F38.size
  have s43 := f43.size
  have vW43 : Sv h43 pW (es.map En.w) := (((K19.vW.fr F1 fun b hb _ k => K.nLW b k hb).fr g fun b hb _ k => K.nW (k ▸ hb)).fr F38 fun _ _ _ => id).fr f43 fun _ _ _ => id
  have rW43 : Room h43 pW cW (Blk pW) := (((K19.rW.fr F1 fun b hb k => K.nLW b k hb).fr g fun b hb k => K.nW (k ▸ hb)).ext F38).ext f43
  refine apV vW43 rW43 (by simp) K.lW o43 rfl (by decide) (fun hlt => by have := nsc_le hlt; omega) (by omega) rfl K.ptW.pt fun q2 c2 h44 v2 r2 l2 b2 F2 pt2 => ?_
  have A44 : Own h44 r #[.slice q1 (es.length + 1) c1, .slice pW es.length cW] := ((A.ext F38).ext f43).fr F2 K.nW
  refine ⟨r, 0, rfl, r, _, rfl, r, _, rfl, A44.stC (by simp) rfl fun a2 g2 => ?_⟩
  have A2 : Own _ r #[.slice q1 (es.length + 1) c1, .slice q2 (es.length + 1) c2] := a2
  generalize setCell h44 ⟨r, 0 + 1, none⟩ (.slice q2 (es.length + 1) c2) = h54 at a2 g2 A2 ⊢
  have s44 := F2.size
  have s54 := g2.size
  -- the frames
  have G2 : Fr (fun x => x = r ∨ Blk pW x) h38 h54 := Fr.trans (Fr.trans (S := fun x => x = r ∨ Blk pW x) f43.to F2 fun x _ k => .inr k) g2 fun x _ k => .inl k
  have G20 : Fr (fun x => x = r ∨ Blk pW x) h20 h54 := Fr.trans (Fr.trans (S := fun x => x = r ∨ Blk pW x) (Fr.mono g fun x _ k => .inl k) F38 fun x _ k => k.elim) G2 fun x _ k => k
  have GG : Fr (KB r pL pW) h h54 := Fr.trans (Fr.trans f19.to G1 fun x _ k => k) G20 fun x _ k => k.elim .inl fun k => .inr (.inr k)
  have hq1 : ∀ b, Blk q1 b → b ≠ r ∧ ¬ Blk pW b := fun b hb => by
    rcases b1 b hb with k | k
    · exact ⟨fun e => K.nL (e ▸ k), K.nLW b k⟩
    · exact ⟨fun e => by omega, fun e => by have := K.ptW.lt e; omega⟩
  have pB1 : PtB h20 q1 := r1.ptB (by omega)
  have pB2 : PtB h44 q2 := r2.ptB (by omega)
  have hKB : ∀ b, KB r q1 q2 b → KB r pL pW b ∨ (h19.size ≤ b ∧ b < h20.size) ∨ h43.size ≤ b := fun b hb => by
    rcases hb with k | k | k
    · exact .inl (.inl k)
    · rcases b1 b k with k' | k'
      · exact .inl (.inr (.inl k'))
      · exact .inr (.inl ⟨k', pB1.lt k⟩)
    · rcases b2 b k with k' | k'
      · exact .inl (.inr (.inr k'))
      · exact .inr (.inr k')
  have low : ∀ b, KB r pL pW b → b < h.size := fun b k => K.lt (.inl k)
  have hKB0 : ∀ b, b < h.size → KB r q1 q2 b → KB r pL pW b := fun b hb k => by
    rcases hKB b k with k | k | k
    · exact k
    · omega
    · omega
  have I54 : IntsH h54 p ws := (L.rd.fr GG (T' := fun _ => False) (fun b hb k k2 => Z b k2.1 k2.2 (.inl k)) fun _ _ k => k.elim).ints
  have J54 : IntsH h54 q ws := (J.fr GG (fun _ _ k => k) fun _ _ k => k).ints
  refine K76 I54 J54 L.len hm (by omega) ⟨_, rfl, ?_⟩
  rw [decide_eq_true rfl]
  have hlen : (es ++ ([⟨p, n, c, q39, c41, ws⟩] : List En)).length = es.length + 1 := by simp
  refine H q1 c1 q2 c2 ⟨p, n, c, q39, c41, ws⟩ h54 ⟨?_, ?_, ?_, pB1.mono (by omega), pB2.mono (by omega), ?_, ?_, ?_, ?_, fun k => (hq1 r k).1 rfl, fun k => ?_, fun b k1 k2 => ?_, fun e he => ?_, fun e he => ?_, ?_⟩ GG hKB0 fun b hb => ?_
  · rw [hlen]; exact A2
  · rw [hlen]; exact l1
  · rw [hlen]; exact l2
  · rw [List.map_append]
    exact v1.fr G20 fun b hb _ k => k.elim (hq1 b hb).1 (hq1 b hb).2
  · rw [List.map_append]
    have hn39 : (Value.slice q39 (0 + m) c41) = En.w (⟨p, n, c, q39, c41, ws⟩ : En) := by rw [Nat.zero_add, ← hnm]
    rw [hn39] at v2
    exact v2.fr g2 fun b hb _ k => by
      rcases b2 b hb with k' | k'
      · exact K.nW (k ▸ k')
      · omega
  · exact (r1.blk).fr G20 fun b hb k => k.elim (hq1 b hb).1 (hq1 b hb).2
  · exact (r2.blk).fr g2 fun b hb k => by
      rcases b2 b hb with k' | k'
      · exact K.nW (k ▸ k')
      · omega
  · rcases b2 r k with k' | k'
    · exact K.nW k'
    · omega
  · rcases b2 b k2 with k' | k'
    · exact (hq1 b k1).2 k'
    · have := pB1.lt k1; omega
  · rcases List.mem_append.1 he with he | he
    · obtain ⟨o1, o2⟩ := K.ok e he
      exact ⟨o1.fr GG (fun _ _ k => k) hKB0, o2.fr GG (fun _ _ k => k) hKB0⟩
    · rw [List.mem_singleton.1 he]
      refine ⟨L.fr GG (fun b _ k k2 => Z b k2.1 k2.2 (.inl k)) fun b hb k k2 => Z b k2.1 k2.2 (.inl (hKB0 b hb k)), ?_⟩
      have := L38.off.rd
      rw [List.nil_append] at this
      refine this.fr G2 (fun b hb k k2 => ?_) fun b hb k k2 => ?_
      · have : KB r pL pW b := k.elim .inl fun k => .inr (.inr k)
        have := low b this
        have := k2.1
        omega
      · have h1 := k2.1
        rcases hKB b k with k | k | k
        · have := low b k; omega
        · omega
        · omega
  · rcases List.mem_append.1 he with he | he
    · exact K.lim e he
    · rw [List.mem_singleton.1 he]; exact hlim
  · refine List.pairwise_append.2 ⟨K.apart, List.pairwise_singleton _ _, fun e he f hf c1 c2 b hb1 hb2 => ?_⟩
    rw [List.mem_singleton.1 hf] at c2 hb2
    have hO := (L.blk c2 hb2).1
    by_cases hr : lo ≤ b ∧ b < hi
    · exact Z b hr.1 hr.2 (.inr ⟨e, he, c1, hb1⟩)
    · exact hO hr
  · rcases hb with k | ⟨e, he, hc, hb⟩
    · rcases hKB b k with k | k | k
      · exact .inl (.inl k)
      · exact .inr (.inr (by omega))
      · exact .inr (.inr (by omega))
    · rcases List.mem_append.1 he with he | he
      · exact .inl (.inr ⟨e, he, hc, hb⟩)
      · rw [List.mem_singleton.1 he] at hc hb
        have hO := (L.blk hc hb).1
        by_cases hr : lo ≤ b ∧ b < hi
        · exact .inr (.inl hr)
        · exact absurd hr hO
end Go.Proofs
set_option linter.unusedVariables false
namespace Go.Proofs
open Go Go.Eng
variable {B : World} {R : Ending → Heap → Prop} {h : Heap}
/-- A lent list, as far as it goes. -/
theorem lent_ints {h0 : Heap} {q : Option Addr} {n c : Nat} {xs : List Int} (L : Lj h0 h q (n + 3) c (xs ++ [-71, -72, -73])) : IntsH h (slP q 0 c 1) xs := by
  have I := L.ints
  refine ⟨fun x hx => I.1 x (List.mem_append_left _ hx), ?_⟩
  rcases I.2 with e | ⟨b, o, e, hr, g⟩
  · simp at e
  · subst e
    refine .inr ⟨b, o, ?_, hr, fun i hi => ?_⟩
    · unfold slP; split
      · rfl
      · show some ((⟨b, o, none⟩ : Addr).add (0 * 1)) = _
        rw [add_addr]; rfl
    · have := g i (by rw [List.length_append]; omega)
      rw [this, List.getElem_append_left hi]
/-- plumblaw2.Back, of a list that is what it was. -/
theorem K81 {h0 : Heap} {q p : Option Addr} {n c d : Nat} {xs : List Int} (L : Lj h0 h q (n + 3) c (xs ++ [-71, -72, -73])) (J : IntsH h p xs) (hn : xs.length = n) (hlim : n ≤ 1000000)
    (H : ∀ h', Fr (Blk q) h h' → R (.returned (.bool true)) h') : Ent Tryz.prog B 81 #[.slice q (n + 3) c, .slice p n d] R h := by
  have hw : ∀ k : Nat, k ≤ 10 → IntKind.i64.wrap (((n : Nat) : Int) + (k : Int)) = ((n + k : Nat) : Int) := fun k hk => by rw [i64_in (by omega) (by omega)]; omega
  have w1 := hw 1 (by omega)
  have w2 := hw 2 (by omega)
  have w3 := hw 3 (by omega)
  rw [show ((1 : Nat) : Int) = 1 from rfl] at w1
  rw [show ((2 : Nat) : Int) = 2 from rfl] at w2
  rw [show ((3 : Nat) : Int) = 3 from rfl] at w3
  have I := L.ints
  have hlen := L.len
  have get : ∀ (k : Nat) (hk : k < 3), (xs ++ [-71, -72, -73])[n + k]'(by rw [hlen]; omega) = [-71, -72, -73][k] := fun k hk => by
    rw [List.getElem_append_right (by omega)]
    simp [hn]
  obtain ⟨b, o, cs, rfl, O, hcs, hb⟩ : ∃ b o cs, q = some ⟨b, o, none⟩ ∧ Own h b cs ∧ o + c ≤ cs.size ∧ h0.size ≤ b := by
    rcases L.room with e | ⟨b, o, cs, e1, e2, e3, e4⟩
    · have := L.le; omega
    · exact ⟨b, o, cs, e1, e2, e3, e4⟩
  have IP : IntsH h (slP (some ⟨b, o, none⟩) 0 c 1) xs := lent_ints L
  refine F81_ok _ _ _ _ _ _ ⟨fun _ => ?_, fun e => ?_⟩
  · refine ⟨by omega, by have := L.le; omega, ?_⟩
    rw [Int.toNat_natCast]
    refine K76 IP J (by rw [hn]; omega) hn (by omega) ⟨_, rfl, fun _ => ?_, fun e => ?_⟩
    · refine I.get hlen (j := n) (by rw [hlen]; omega) ?_
      have g0 : (xs ++ [-71, -72, -73])[n]'(by rw [hlen]; omega) = -71 := get 0 (by decide)
      rw [g0]
      refine ⟨fun _ => ?_, fun e => absurd e (by decide)⟩
      rw [w1]
      refine I.get hlen (j := n + 1) (by rw [hlen]; omega) ?_
      rw [show (xs ++ [-71, -72, -73])[n + 1]'(by rw [hlen]; omega) = -72 from get 1 (by decide)]
      refine ⟨fun _ => ?_, fun e => absurd e (by decide)⟩
      rw [w2]
      refine I.get hlen (j := n + 2) (by rw [hlen]; omega) ?_
      rw [show (xs ++ [-71, -72, -73])[n + 2]'(by rw [hlen]; omega) = -73 from get 2 (by decide)]
      have hc := L.le
      refine ⟨fun m vs h' => match vs with
        | [.slice q1 n1 c1, .bool t, .int _ i] => some (⟨b, o, none⟩ : Addr) = q1 ∧ n + 3 = n1 ∧ c = c1 ∧ t = true ∧ ∃ j : Nat, i = (j : Int) ∧ j ≤ n + 3 ∧ m = n + 3 - j ∧ Fr (Blk (some ⟨b, o, none⟩)) h h' ∧ ∃ cs', Own h' b cs' ∧ cs'.size = cs.size
        | _ => False, n + 3, ⟨rfl, rfl, rfl, rfl, 0, rfl, by omega, by omega, Fr.rfl', cs, O, rfl⟩, ?_⟩
      rintro m h1 _ _ _ _ _ ⟨rfl, rfl, rfl, rfl, j, rfl, hj, rfl, F, cs', O', hs'⟩ _
      refine ⟨fun e => ?_, fun e => H h1 F⟩
      have hjn : j < n + 3 := by have := of_decide_eq_true e; omega
      refine ⟨b, o, rfl, by omega, by omega, b, _, rfl, O'.stC (by rw [Int.toNat_natCast]; omega) rfl fun a g => ⟨n + 3 - (j + 1), by omega, rfl, rfl, rfl, rfl, j + 1, ?_, by omega, rfl, Fr.trans F g fun x _ e => ⟨o, by rw [e]⟩, _, a, by rw [Array.size_setIfInBounds]; exact hs'⟩⟩
      rw [i64_in (by omega) (by omega)]; rfl
    · rw [decide_eq_true rfl] at e; cases e
  · rw [w3, decide_eq_true rfl] at e; cases e
end Go.Proofs
set_option linter.unusedVariables false
namespace Go.Proofs
open Go Go.Eng
variable {B : World} {R : Ending → Heap → Prop} {h : Heap}
/-- What a call hands on that keeps some lists. -/
def KeepK (R : Ending → Heap → Prop) (h : Heap) (r : Nat) (pL pW : Option Addr) (es : List En) (k : Nat) : Prop :=
  ∀ pL' cL' pW' cW' es' h', Kept h' r pL' cL' pW' cW' (es ++ es') → es'.length ≤ k → Fr (KB r pL pW) h h' → (∀ b, b < h.size → KB r pL' pW' b → KB r pL pW b) → (∀ b, KT r pL' pW' (es ++ es') b → KT r pL pW es b ∨ h.size ≤ b) → R (.returned (.bool true)) h'
/-- Another heap to begin from, with nothing changed since. -/
theorem KeepK.ext {hS h : Heap} {r k : Nat} {pL pW : Option Addr} {es : List En} (H : KeepK R hS r pL pW es k) (F : Ext hS h) : KeepK R h r pL pW es k :=
  fun pL' cL' pW' cW' es' h' K' l' F' B' Z' => H pL' cL' pW' cW' es' h' K' l' (Fr.trans F.to F' fun _ _ k => k) (fun b hb k => B' b (Nat.lt_of_lt_of_le hb F.size) k) fun b k => (Z' b k).imp id fun k => Nat.le_trans F.size k
end Go.Proofs
set_option linter.unusedVariables false
namespace Go.Proofs
open Go Go.Eng
variable {B : World} {R : Ending → Heap → Prop} {h : Heap}
theorem ansOf_len (o : Option (List Int)) : (ansOf o).1.length ≤ 4096 := by
  cases o with
  | none => exact Nat.zero_le _
  | some l => show (if l.length ≤ 4096 then (l, (0 : Int)) else ([], 2)).1.length ≤ 4096; split; assumption; exact Nat.zero_le _
end Go.Proofs
set_option linter.unusedVariables false
namespace Go.Proofs
open Go Go.Eng
variable {B : World} {R : Ending → Heap → Prop} {h : Heap}
/-- expansion.told, at a call's end. -/
theorem K89e {hB : Heap} {X : List PanicEntry → Heap → Prop} {r3 r5 n c : Nat} {l0 e0 : Value} {p : Option Addr} {l : List Int} (O3 : Own h r3 #[l0]) (O5 : Own h r5 #[e0]) (hne : r5 ≠ r3) (L : Lj hB h p n c l) (b3 : r3 < hB.size) (b5 : r5 < hB.size)
    (H : ∀ q m c' h', Fr (fun x => x = r3 ∨ x = r5) h h' → Lj hB h' q m c' (ansOf (some l)).1 → R (.returned (.tuple #[.slice q m c', .int .i64 (ansOf (some l)).2])) h') :
    Ent Tryz.prog B 89 #[.slice p n c] (retE (fun v h1 => ∃ x xn xc y, v = .tuple #[.slice x xn xc, .int .i64 y] ∧
    isP (some ⟨r3, 0, none⟩) fun b25 o26 => stC h1 b25 o26 (.slice x xn xc) fun h27 =>
    isP (some ⟨r5, 0, none⟩) fun b28 o29 => stC h27 b28 o29 (.int .i64 y) fun h30 =>
    Enters Tryz.prog 86 ∧ FnD Tryz.prog B 86 #[.pointer (some ⟨r3, 0, none⟩), .pointer (some ⟨r5, 0, none⟩)] .returning (dfE fun u31 h32 => lvW (fun h33 => isP (some ⟨r3, 0, none⟩) fun b36 o37 => ∃ x38 x38n x38c, cell? h33 ⟨b36, o37, none⟩ = some (.slice x38 x38n x38c) ∧
    isP (some ⟨r5, 0, none⟩) fun b39 o40 => ∃ x41, cell? h33 ⟨b39, o40, none⟩ = some (.int .i64 x41) ∧
    R (.returned (.tuple #[.slice x38 x38n x38c, .int .i64 x41])) h33) (fun ch35 h34 => R (.panicked ch35) h34) u31 h32) h30) X) h := by
  have hm := L.len
  refine K89 (fun hle => ⟨_, _, _, _, rfl, expEnd O3 O5 hne fun h2 f2 => ?_⟩) fun hgt => ⟨_, _, _, _, rfl, expEnd O3 O5 hne fun h2 f2 => ?_⟩
  · have hif : ansOf (some l) = (l, 0) := if_pos (show l.length ≤ 4096 by omega)
    rw [hif] at H
    exact H p n c h2 f2 (L.fr2 f2 b3 b5)
  · have hif : ansOf (some l) = ([], 2) := if_neg (show ¬ l.length ≤ 4096 by omega)
    rw [hif] at H
    exact H none 0 0 h2 f2 Lj.nil
end Go.Proofs
set_option linter.unusedVariables false
namespace Go.Proofs
open Go Go.Eng
variable {B : World} {R : Ending → Heap → Prop} {h : Heap}
end Go.Proofs
set_option linter.unusedVariables false
namespace Go.Proofs
open Go Go.Eng
variable {B : World} {R : Ending → Heap → Prop} {h : Heap}
end Go.Proofs
set_option linter.unusedVariables false
namespace Go.Eng
open Go
theorem own_cell {h : Heap} {b : Nat} {cs : Array Value} (O : Own h b cs) {o : Nat} {v : Value} (hc : cs[o]? = some v) : cell? h ⟨b, o, none⟩ = some v := by rw [O.cell, hc]
/-- What the marks need: the lists stand where they stood, and their rooms are there. -/
structure StA (h h' : Heap) (r : Nat) (pL : Option Addr) (cL : Nat) (pW : Option Addr) (cW : Nat) (es : List En) : Prop where
  obj : Own h' r #[.slice pL es.length cL, .slice pW es.length cW]
  vL : Sv h' pL (es.map En.v)
  room : ∀ e ∈ es, Room h' e.p e.c fun b => ¬ KB r pL pW b
  fr : Fr (KT r pL pW es) h h'
/-- The first j cells of list i bear its mark. -/
def Mk (h' : Heap) (e : En) (i j : Nat) : Prop := ∀ j', j' < j → ∀ b o, e.p = some ⟨b, o, none⟩ → cell? h' ⟨b, o + j', none⟩ = some (.int .i64 (-2 - (i : Int)))
/-- A write into list i: behind its cells, or a mark. -/
theorem StA.set {h h' : Heap} {r cL cW : Nat} {pL pW : Option Addr} {es : List En} (S : StA h h' r pL cL pW cW es) {i : Nat} (hi : i < es.length) {b o k : Nat} {cs : Array Value} {v : Value} (hp : es[i].p = some ⟨b, o, none⟩) (hc : es[i].c ≠ 0) (O : Own h' b cs) (hnb : ¬ KB r pL pW b) :
    StA h (setCell h' ⟨b, k, none⟩ v) r pL cL pW cW es := by
  have F : Fr (fun x => x = b) h' (setCell h' ⟨b, k, none⟩ v) := fr_setCell
  refine ⟨S.obj.fr F fun e => hnb (.inl e.symm), S.vL.fr F fun x hx _ e => hnb (.inr (.inl (e ▸ hx))), fun e he => ?_, Fr.trans S.fr F fun x _ e => .inr ⟨es[i], List.getElem_mem hi, hc, o, by rw [hp, e]⟩⟩
  rcases S.room e he with k | ⟨b', o', cs', e1, O', g, n⟩
  · exact .inl k
  · by_cases hb : b' = b
    · subst hb
      have := O.inj O'
      subst this
      exact .inr ⟨b', o', _, e1, own_set O, by simpa using g, n⟩
    · exact .inr ⟨b', o', cs', e1, own_set_ne O' hb, g, n⟩
theorem setCell_other {h : Heap} {b k b' o' : Nat} {cs : Array Value} {v : Value} (O : Own h b cs) (hne : b' ≠ b ∨ o' ≠ k) : cell? (setCell h ⟨b, k, none⟩ v) ⟨b', o', none⟩ = cell? h ⟨b', o', none⟩ := by
  by_cases hb : b' = b
  · subst hb
    rw [(own_set O).cell, O.cell, Array.getElem?_setIfInBounds_ne (by rcases hne with e | e; exact absurd rfl e; exact fun k => e k.symm)]
  · unfold cell?; rw [setCell_ne hb]
/-- Marks stay where another list is written, or behind. -/
theorem Mk.set {h : Heap} {e : En} {i j b k : Nat} {cs : Array Value} {v : Value} (M : Mk h e i j) (O : Own h b cs) (hne : 0 < j → ∀ o, e.p = some ⟨b, o, none⟩ → o + j ≤ k) : Mk (setCell h ⟨b, k, none⟩ v) e i j := by
  intro j' hj' b' o' e1
  rw [setCell_other O (by
    by_cases hb : b' = b
    · subst hb; right; have := hne (by omega) o' e1; omega
    · exact .inl hb)]
  exact M j' hj' b' o' e1
theorem StA.same {h h1 h2 : Heap} {r cL cW : Nat} {pL pW : Option Addr} {es : List En} (S : StA h h1 r pL cL pW cW es) {i : Nat} (hi : i < es.length) {b o : Nat} {cs cs' : Array Value} (hp : es[i].p = some ⟨b, o, none⟩) (hc : es[i].c ≠ 0) (O : Own h1 b cs) (O2 : Own h2 b cs') (hs : cs'.size = cs.size) (F : Fr (fun x => x = b) h1 h2) (hnb : ¬ KB r pL pW b) :
    StA h h2 r pL cL pW cW es := by
  refine ⟨S.obj.fr F fun e => hnb (.inl e.symm), S.vL.fr F fun x hx _ e => hnb (.inr (.inl (e ▸ hx))), fun e he => ?_, Fr.trans S.fr F fun x _ e => .inr ⟨es[i], List.getElem_mem hi, hc, o, by rw [hp, e]⟩⟩
  rcases S.room e he with k | ⟨b', o', cs2, e1, O', g, n⟩
  · exact .inl k
  · by_cases hb : b' = b
    · subst hb
      have := O.inj O'
      subst this
      exact .inr ⟨b', o', _, e1, O2, by rw [hs]; exact g, n⟩
    · exact .inr ⟨b', o', cs2, e1, O'.fr F hb, g, n⟩
theorem StA.ext {h h1 h2 : Heap} {r cL cW : Nat} {pL pW : Option Addr} {es : List En} (S : StA h h1 r pL cL pW cW es) (F : Ext h1 h2) : StA h h2 r pL cL pW cW es := by
  refine ⟨S.obj.ext F, S.vL.fr F fun _ _ _ => id, fun e he => ?_, Fr.trans S.fr F fun x _ e => e.elim⟩
  exact (S.room e he).ext F
theorem Mk.same {h1 h2 : Heap} {e : En} {i j b o : Nat} {cs cs' : Array Value} (M : Mk h1 e i j) (O : Own h1 b cs) (O2 : Own h2 b cs') (F : Fr (fun x => x = b) h1 h2) (hk : ∀ k, k < o → cs'[k]? = cs[k]?) (hne : 0 < j → ∀ o', e.p = some ⟨b, o', none⟩ → o' + j ≤ o) (hr : ∀ b' o', e.p = some ⟨b', o', none⟩ → 0 < j → b' < h1.size) : Mk h2 e i j := by
  intro j' hj' b' o' e1
  rw [← M j' hj' b' o' e1]
  by_cases hb : b' = b
  · subst hb
    have := hne (by omega) o' e1
    rw [O.cell, O2.cell, hk _ (by omega)]
  · exact cell_fr F (hr b' o' e1 (by omega)) hb
theorem svE {h : Heap} {p : Option Addr} {es : List En} (S : Sv h p (es.map En.v)) {j : Nat} (hj : j < es.length) {G : Option Addr → Nat → Nat → Prop} (g : G es[j].p es[j].n es[j].c) :
    ixW p es.length (j : Int) 1 fun b o => isP (some ⟨b, o, none⟩) fun b o => ∃ x xn xc, cell? h ⟨b, o, none⟩ = some (.slice x xn xc) ∧ G x xn xc := by
  rcases S with e | ⟨b, o, cs, e, O, gg⟩
  · have := congrArg List.length e; rw [List.length_map] at this; rw [List.length_nil] at this; omega
  · have hc := gg j (by rw [List.length_map]; exact hj)
    rw [List.getElem_map] at hc
    exact ⟨b, o, e, by omega, by omega, b, _, rfl, _, _, _, by rw [Int.toNat_natCast, Nat.mul_one, O.cell]; exact hc, g⟩
theorem svW {h : Heap} {p : Option Addr} {es : List En} (S : Sv h p (es.map En.w)) {j : Nat} (hj : j < es.length) {G : Option Addr → Nat → Nat → Prop} (g : G es[j].q es[j].n es[j].d) :
    ixW p es.length (j : Int) 1 fun b o => isP (some ⟨b, o, none⟩) fun b o => ∃ x xn xc, cell? h ⟨b, o, none⟩ = some (.slice x xn xc) ∧ G x xn xc := by
  rcases S with e | ⟨b, o, cs, e, O, gg⟩
  · have := congrArg List.length e; rw [List.length_map] at this; rw [List.length_nil] at this; omega
  · have hc := gg j (by rw [List.length_map]; exact hj)
    rw [List.getElem_map] at hc
    exact ⟨b, o, e, by omega, by omega, b, _, rfl, _, _, _, by rw [Int.toNat_natCast, Nat.mul_one, O.cell]; exact hc, g⟩
theorem Room.row {h : Heap} {p : Option Addr} {n c : Nat} {S : Nat → Prop} (H : Room h p c S) (hp : Pt p) (hn : n ≤ c) : ∃ old, rowAt h p (n * 1) old := by
  rcases H with e | ⟨b, o, cs, e, O, g, _⟩
  · have h0 : n = 0 := by omega
    subst h0
    refine ⟨[], ?_⟩
    rcases hp with e | ⟨b, o, e⟩
    · subst e; rfl
    · subst e; exact ⟨rfl, b, o, rfl, fun i hi => absurd hi (by simp)⟩
  · refine ⟨(cs.toList.drop o).take n, ?_⟩
    subst e
    have hl : ((cs.toList.drop o).take n).length = n := by simp; omega
    refine ⟨by rw [hl, Nat.mul_one], b, o, rfl, fun i hi => ?_⟩
    rw [O.cell]
    rw [hl] at hi
    rw [List.getElem_take, List.getElem_drop, Array.getElem_toList, Array.getElem?_eq_getElem (by omega)]
theorem zerosL_len {n : Nat} {v : Value} : (zerosL #[v] n).length = n := by simp [zerosL]
theorem zerosL_one {n : Nat} {k : IntKind} {z : Int} : ∀ x ∈ zerosL #[.int k z] n, oneCell x = true := by
  intro x hx
  unfold zerosL at hx
  obtain ⟨i, _, rfl⟩ := List.mem_map.1 hx
  have : i % (#[Value.int k z] : Array Value).size = 0 := by simp [Nat.mod_one]
  rw [this]; rfl
/-- Noughts appended, and the last one set. -/
theorem azE {h : Heap} {p : Option Addr} {n c m : Nat} {T : Nat → Prop} {K : Heap → Prop} (HR : Room h p c T) (hp : Pt p) (hnc : n ≤ c) (hm1 : 1 ≤ m) (hm2 : m ≤ 1000) (hn : n ≤ 1000000)
    (k1 : ∀ b o cs, p = some ⟨b, o, none⟩ → Own h b cs → T b → c ≠ 0 → ∀ h' cs', Own h' b cs' → cs'.size = cs.size → (∀ i, i < o + n → cs'[i]? = cs[i]?) → Fr (fun x => x = b) h h' → K h')
    (k2 : ∀ h', Ext h h' → K h') :
    azW h p n c (m : Int) 1 8 3 #[.int .i64 0] fun q n2 _ h2 => ixW q n2 (IntKind.i64.wrap (((n2 : Nat) : Int) - (1 : Int))) 1 fun b o => isP (some ⟨b, o, none⟩) fun b o => stC h2 b o (.int .i64 7) K := by
  have w1 : IntKind.i64.wrap (((n + m : Nat) : Int) - (1 : Int)) = ((n + m - 1 : Nat) : Int) := by rw [wrap_i64_in (by omega) (by omega)]; omega
  refine ⟨by omega, by omega, by decide, by decide, by omega, ?_, ?_⟩
  · rw [Int.toNat_natCast]
    intro hle
    rcases HR with e | ⟨b, o, cs, e, O, g, t⟩
    · omega
    subst e
    obtain ⟨cs', O', s', g1, g2, f⟩ := setRow_own (zerosL #[.int .i64 0] m) h (o + n * 1) cs O (by rw [zerosL_len]; omega)
    refine ⟨b, o, rfl, zerosL_one, fun i hi => ?_, ?_⟩
    · rw [zerosL_len] at hi
      exact ⟨⟨_, by rw [O.cell, Array.getElem?_eq_getElem (by omega)]⟩, O.frozen _⟩
    · dsimp only
      rw [w1]
      refine ⟨b, o, rfl, by omega, by omega, b, _, rfl, O'.stC (by rw [Int.toNat_natCast]; omega) rfl fun a f2 => ?_⟩
      refine k1 b o cs rfl O t (by omega) _ _ a (by rw [Array.size_setIfInBounds, s']) (fun i hi => ?_) (Fr.trans f f2 fun _ _ e => e)
      rw [Int.toNat_natCast, Array.getElem?_setIfInBounds_ne (by omega), g2 i (by omega)]
  · rw [Int.toNat_natCast]
    intro hlt
    obtain ⟨old, hold⟩ := HR.row hp hnc
    refine ⟨by omega, by have := nsc_le hlt; omega, old, hold, fun cap h1 h2 => ?_⟩
    dsimp only
    rw [w1]
    have O : Own (h.push (.cells (old ++ zerosL #[.int .i64 0] m ++ zerosL #[.int .i64 0] (cap - (n + m))).toArray 3)) h.size _ := own_new
    have hol : old.length = n := by
      cases hpp : p with
      | none =>
        rw [hpp] at hold HR
        have h0 : old = [] := hold
        rcases HR with e | ⟨_, _, _, e, _⟩
        · subst h0; have : n = 0 := by omega
          subst this; rfl
        · cases e
      | some a =>
        rw [hpp] at hold
        have := hold.1
        omega
    refine ⟨_, 0, rfl, by omega, by omega, _, _, rfl, O.stC (by simp [zerosL_len, hol]; omega) rfl fun a f2 => k2 _ ?_⟩
    exact Fr.trans (S := fun _ => False) (Ext.push) f2 fun x hx e => by omega
end Go.Eng
set_option linter.unusedVariables false
namespace Go.Proofs
open Go Go.Eng
variable {B : World} {R : Ending → Heap → Prop} {h : Heap}
/-- Marked: list i up to j, all ahead of it; behind the first round all. -/
def Md (h' : Heap) (es : List En) (rd i j : Nat) : Prop :=
  (rd = 0 → (∀ i' (k : i' < es.length), i' < i → Mk h' es[i'] i' es[i'].n) ∧ ∀ k : i < es.length, Mk h' es[i] i j) ∧ (rd ≠ 0 → ∀ i' (k : i' < es.length), Mk h' es[i'] i' es[i'].n)
theorem mk_zero {h' : Heap} {e : En} {i : Nat} : Mk h' e i 0 := fun j hj => absurd hj (by omega)
theorem gmark : ∀ g : Fin 18, g.val = 0 ∨ IntKind.i64.wrap ((g.val : Int) + (IntKind.i64.wrap ((IntKind.i64.wrap (Int.tdiv (g.val : Int) (17 : Int))) * (80 : Int)))) = ((g.val + g.val / 17 * 80 : Nat) : Int) := by decide +kernel
abbrev apI (h : Heap) (r : Nat) (es : List En) : Nat → List Value → Heap → Prop := fun m vs h' => match vs with
  | [.pointer a, .int _ i] => a = some (⟨r, 0, none⟩ : Addr) ∧ h = h' ∧ ∃ j : Nat, i = (j : Int) ∧ j ≤ es.length ∧ m = es.length - j
  | _ => False
abbrev apR (h : Heap) (r : Nat) (pL : Option Addr) (cL : Nat) (pW : Option Addr) (cW : Nat) (es : List En) : Nat → List Value → Heap → Prop := fun m vs h' => match vs with
  | [.pointer a, .int _ i] => a = some (⟨r, 0, none⟩ : Addr) ∧ ∃ rd : Nat, i = (rd : Int) ∧ rd ≤ 3 ∧ m = 3 - rd ∧ StA h h' r pL cL pW cW es ∧ Md h' es rd 0 0
  | _ => False
abbrev apS (h : Heap) (r : Nat) (pL : Option Addr) (cL : Nat) (pW : Option Addr) (cW : Nat) (es : List En) (rd : Nat) : Nat → List Value → Heap → Prop := fun m vs h' => match vs with
  | [.pointer a, .int _ d, .int _ i] => a = some (⟨r, 0, none⟩ : Addr) ∧ d = (rd : Int) ∧ ∃ ii : Nat, i = (ii : Int) ∧ ii ≤ es.length ∧ m = es.length - ii ∧ StA h h' r pL cL pW cW es ∧ Md h' es rd ii 0
  | _ => False
abbrev apT (h : Heap) (r : Nat) (pL : Option Addr) (cL : Nat) (pW : Option Addr) (cW : Nat) (es : List En) (rd ii ni : Nat) : Nat → List Value → Heap → Prop := fun m vs h' => match vs with
  | [.pointer a, .int _ d, .int _ i, .int _ q] => a = some (⟨r, 0, none⟩ : Addr) ∧ d = (rd : Int) ∧ i = (ii : Int) ∧ ∃ jj : Nat, q = (jj : Int) ∧ jj ≤ ni ∧ m = ni - jj ∧ StA h h' r pL cL pW cW es ∧ Md h' es rd ii jj
  | _ => False
abbrev apG (h : Heap) (r : Nat) (pL : Option Addr) (cL : Nat) (pW : Option Addr) (cW : Nat) (es : List En) (rd ii : Nat) : Nat → List Value → Heap → Prop := fun m vs h' => match vs with
  | [.pointer a, .int _ d, .int _ i, .int _ q] => a = some (⟨r, 0, none⟩ : Addr) ∧ d = (rd : Int) ∧ i = (ii : Int) ∧ ∃ g : Nat, q = (g : Int) ∧ 1 ≤ g ∧ g ≤ 18 ∧ m = 18 - g ∧ StA h h' r pL cL pW cW es ∧ Md h' es rd (ii + 1) 0
  | _ => False
/-- (*Keep).Apart. -/
theorem K31 {r cL cW : Nat} {pL pW : Option Addr} {es : List En} (K : Kept h r pL cL pW cW es) (hl : es.length ≤ 1000) (H : ∀ h', Fr (KT r pL pW es) h h' → R (.returned (.bool true)) h') : Ent Tryz.prog B 31 #[.pointer (some ⟨r, 0, none⟩)] R h := by
  refine F31_ok _ ⟨apI h r es, es.length, ⟨rfl, rfl, 0, rfl, by omega, by omega⟩, ?_⟩
  rintro m h1 _ _ ⟨rfl, rfl, j, rfl, hj, rfl⟩ _
  refine ⟨r, 0, rfl, r, _, rfl, r, _, rfl, _, _, _, K.obj.cell _, fun e => ?_, fun e => ?_⟩
  · have hjn : j < es.length := by have := of_decide_eq_true e; omega
    obtain ⟨o1, o2⟩ := K.ok _ (List.getElem_mem hjn)
    refine ⟨r, 0, rfl, r, _, rfl, r, _, rfl, _, _, _, K.obj.cell _, svE K.vL hjn ⟨r, 0, rfl, r, _, rfl, r, _, rfl, _, _, _, K.obj.cell _, svW K.vW hjn ?_⟩⟩
    refine K76 o1.rd.ints o2.ints o1.len o1.len (by have := K.lim _ (List.getElem_mem hjn); omega) ⟨_, rfl, ?_⟩
    rw [decide_eq_true rfl]
    refine ⟨fun e => (by cases e), fun _ => ⟨es.length - (j + 1), by omega, rfl, rfl, j + 1, ?_, by omega, rfl⟩⟩
    rw [i64_in (by omega) (by omega)]; rfl
  clear e hj
  -- the rooms do not meet
  have apart : ∀ i (k : i < es.length) i' (k' : i' < es.length), i ≠ i' → es[i].c ≠ 0 → es[i'].c ≠ 0 → ∀ b o o', es[i].p = some ⟨b, o, none⟩ → es[i'].p = some ⟨b, o', none⟩ → False := by
    intro i k i' k' hne c1 c2 b o o' e1 e2
    have hp := List.pairwise_iff_getElem.1 K.apart
    rcases Nat.lt_or_gt_of_ne hne with hlt | hlt
    · exact hp i i' k k' hlt c1 c2 b ⟨o, e1⟩ ⟨o', e2⟩
    · exact hp i' i k' k hlt c2 c1 b ⟨o', e2⟩ ⟨o, e1⟩
  have le : ∀ i (k : i < es.length), es[i].n ≤ es[i].c := fun i k => (K.ok _ (List.getElem_mem k)).1.le
  have lim : ∀ i (k : i < es.length), es[i].n ≤ 1000000 := fun i k => K.lim _ (List.getElem_mem k)
  have ptE : ∀ i (k : i < es.length), Pt es[i].p := fun i k => (K.ok _ (List.getElem_mem k)).1.pt
  have S0 : StA h h r pL cL pW cW es := ⟨K.obj, K.vL, fun e he => (K.ok e he).1.room, Fr.rfl'⟩
  have wi : ∀ {x : Nat}, x ≤ 2000000 → IntKind.i64.wrap (((x : Nat) : Int) + (1 : Int)) = ((x + 1 : Nat) : Int) := fun hx => by rw [i64_in (by omega) (by omega)]; omega
  refine ⟨apR h r pL cL pW cW es, 3, ⟨rfl, 0, rfl, by omega, by omega, S0, fun _ => ⟨fun i' k hlt => absurd hlt (by omega), fun k => mk_zero⟩, fun e => absurd rfl e⟩, ?_⟩
  rintro m2 h2 _ _ ⟨rfl, rd, rfl, hrd, rfl, S2, M2⟩ _
  refine ⟨fun e => ?_, fun e => H h2 S2.fr⟩
  have hrd3 : rd < 3 := by have := of_decide_eq_true e; omega
  clear e
  refine ⟨apS h r pL cL pW cW es rd, es.length, ⟨rfl, rfl, 0, rfl, by omega, by omega, S2, M2⟩, ?_⟩
  rintro m3 h3 _ _ _ ⟨rfl, rfl, ii, rfl, hii, rfl, S3, M3⟩ _
  refine ⟨r, 0, rfl, r, _, rfl, r, _, rfl, _, _, _, S3.obj.cell _, fun e => ?_, fun e => ?_⟩
  rotate_left
  · have hie : ii = es.length := by have := of_decide_eq_false e; omega
    subst hie
    refine ⟨3 - (rd + 1), by omega, rfl, rd + 1, wi (by omega), by omega, rfl, S3, fun e => absurd e (by omega), fun _ i' k => ?_⟩
    by_cases h0 : rd = 0
    · exact (M3.1 h0).1 i' k k
    · exact M3.2 h0 i' k
  have hin : ii < es.length := by have := of_decide_eq_true e; omega
  clear e
  refine ⟨apT h r pL cL pW cW es rd ii es[ii].n, es[ii].n, ⟨rfl, rfl, rfl, 0, rfl, by omega, by omega, S3, M3⟩, ?_⟩
  rintro m4 h4 _ _ _ _ ⟨rfl, rfl, rfl, jj, rfl, hjj, rfl, S4, M4⟩ _
  have hlim := lim ii hin
  have hle := le ii hin
  refine ⟨r, 0, rfl, r, _, rfl, r, _, rfl, _, _, _, S4.obj.cell _, svE S4.vL hin ⟨fun e => ?_, fun e => ?_⟩⟩
  · have hjn : jj < es[ii].n := by have := of_decide_eq_true e; omega
    have hc0 : es[ii].c ≠ 0 := by omega
    have w2 : IntKind.i64.wrap ((-2 : Int) - ((ii : Nat) : Int)) = -2 - (ii : Int) := i64_in (by omega) (by omega)
    -- behind the mark
    have j107 : ∀ h5, StA h h5 r pL cL pW cW es → Md h5 es rd ii (jj + 1) → F31_j107 B R (apI h r es) (es.length - j) (apR h r pL cL pW cW es) (3 - rd) (apS h r pL cL pW cW es rd) (es.length - ii) (apT h r pL cL pW cW es rd ii es[ii].n) (es[ii].n - jj) (some ⟨r, 0, none⟩) (rd : Int) (ii : Int) (jj : Int) h5 := by
      intro h5 S5 M5
      have back : ∀ v, v = false → F31_j130 B R (apI h r es) (es.length - j) (apR h r pL cL pW cW es) (3 - rd) (apS h r pL cL pW cW es rd) (es.length - ii) (apT h r pL cL pW cW es rd ii es[ii].n) (es[ii].n - jj) (some ⟨r, 0, none⟩) (rd : Int) (ii : Int) (jj : Int) v h5 := fun v hv => by
        subst hv
        exact ⟨fun e => (by cases e), fun _ => ⟨es[ii].n - (jj + 1), by omega, rfl, rfl, rfl, jj + 1, wi (by omega), by omega, rfl, S5, M5⟩⟩
      refine ⟨fun e => ?_, fun e => back false rfl⟩
      have hr2 : rd ≠ 0 := by have := of_decide_eq_true e; omega
      refine ⟨r, 0, rfl, r, _, rfl, r, _, rfl, _, _, _, S5.obj.cell _, svE S5.vL hin ?_⟩
      rcases S5.room _ (List.getElem_mem hin) with k | ⟨b, o, cs, e1, O, g, n⟩
      · exact absurd k hc0
      have hm := M5.2 hr2 ii hin jj hjn b o e1
      refine ⟨b, o, e1, by omega, by omega, b, _, rfl, _, by rw [Int.toNat_natCast, Nat.mul_one]; exact hm, back _ ?_⟩
      rw [w2, decide_eq_true rfl]; rfl
    refine ⟨fun e => ?_, fun e => ?_⟩
    · have h0 : rd = 0 := by have := of_decide_eq_true e; omega
      rcases S4.room _ (List.getElem_mem hin) with k | ⟨b, o, cs, e1, O, g, n⟩
      · exact absurd k hc0
      refine ⟨r, 0, rfl, r, _, rfl, r, _, rfl, _, _, _, S4.obj.cell _, svE S4.vL hin ⟨b, o, e1, by omega, by omega, b, _, rfl, ?_⟩⟩
      rw [Int.toNat_natCast, Nat.mul_one, w2]
      refine O.stC (by omega) rfl fun a g2 => j107 _ (S4.set hin e1 hc0 O n) ⟨fun _ => ⟨fun i' k hlt => ?_, fun k => ?_⟩, fun k => absurd h0 k⟩
      · refine ((M4.1 h0).1 i' k hlt).set O fun hz o' e2 => ?_
        exact (apart i' k ii hin (by omega) (by have := le i' k; omega) hc0 b o' o e2 e1).elim
      · intro j' hj' b' o' e2
        rw [e1] at e2
        cases e2
        by_cases hjq : j' = jj
        · subst hjq
          rw [a.cell, Array.getElem?_setIfInBounds_self_of_lt (by omega)]
        · rw [setCell_other O (.inr (by omega))]
          exact (M4.1 h0).2 hin j' (by omega) b o e1
    · have h0 : rd ≠ 0 := by have := of_decide_eq_false e; omega
      exact j107 h4 S4 ⟨fun k => absurd k h0, M4.2⟩
  · have hjn : jj = es[ii].n := by have := of_decide_eq_false e; omega
    clear e
    -- list ii is done
    have MD : Md h4 es rd (ii + 1) 0 := by
      refine ⟨fun h0 => ⟨fun i' k hlt => ?_, fun k => mk_zero⟩, M4.2⟩
      by_cases hi : i' = ii
      · subst hi; rw [hjn] at M4; exact (M4.1 h0).2 hin
      · exact (M4.1 h0).1 i' k (by omega)
    refine ⟨apG h r pL cL pW cW es rd ii, 17, ⟨rfl, rfl, rfl, 1, rfl, by omega, by omega, by omega, S4, MD⟩, ?_⟩
    rintro m5 h5 _ _ _ _ ⟨rfl, rfl, rfl, g, rfl, hg1, hg, rfl, S5, M5⟩ _
    have out : F31_j146 B R (apI h r es) (es.length - j) (apR h r pL cL pW cW es) (3 - rd) (apS h r pL cL pW cW es rd) (es.length - ii) (apT h r pL cL pW cW es rd ii es[ii].n) (es[ii].n - jj) (apG h r pL cL pW cW es rd ii) (18 - g) (some ⟨r, 0, none⟩) (rd : Int) (ii : Int) (g : Int) false h5 := by
      exact ⟨fun e => (by cases e), fun _ => ⟨es.length - (ii + 1), by omega, rfl, rfl, ii + 1, wi (by omega), by omega, rfl, S5, M5⟩⟩
    refine ⟨fun e => ?_, fun e => out⟩
    have hg17 : g ≤ 17 := by have := of_decide_eq_true e; omega
    by_cases h1 : rd = 1
    rotate_left
    · rw [decide_eq_false (by omega)]; exact out
    rw [decide_eq_true (by omega)]
    refine ⟨fun _ => ⟨r, 0, rfl, r, _, rfl, r, _, rfl, _, _, _, S5.obj.cell _, svE S5.vL hin ⟨by decide, ?_⟩⟩, fun e => (by cases e)⟩
    have hw : IntKind.i64.wrap ((g : Int) + (IntKind.i64.wrap ((IntKind.i64.wrap (Int.tdiv (g : Int) (17 : Int))) * (80 : Int)))) = ((g + g / 17 * 80 : Nat) : Int) := by
      rcases gmark ⟨g, by omega⟩ with k | k
      · exact absurd k (by show g ≠ 0; omega)
      · exact k
    rw [hw]
    have next : ∀ h6, StA h h6 r pL cL pW cW es → Md h6 es rd (ii + 1) 0 → ∃ m174, m174 < 18 - g ∧ (some (⟨r, 0, none⟩ : Addr) = some (⟨r, 0, none⟩ : Addr) ∧ (rd : Int) = (rd : Int) ∧ (ii : Int) = (ii : Int) ∧ ∃ g' : Nat, IntKind.i64.wrap ((g : Int) + (1 : Int)) = (g' : Int) ∧ 1 ≤ g' ∧ g' ≤ 18 ∧ m174 = 18 - g' ∧ StA h h6 r pL cL pW cW es ∧ Md h6 es rd (ii + 1) 0) :=
      fun h6 S6 M6 => ⟨18 - (g + 1), by omega, rfl, rfl, rfl, g + 1, wi (by omega), by omega, by omega, rfl, S6, M6⟩
    refine azE (S5.room _ (List.getElem_mem hin)) (ptE ii hin) hle (by omega) (by omega) hlim (fun b o cs e1 O hT hc0 h6 cs' O6 hs6 hk F6 => ?_) (fun h6 F6 => ?_)
    · refine next h6 (S5.same hin e1 hc0 O O6 hs6 F6 hT) ⟨fun k => absurd k (by omega), fun _ i' k => ?_⟩
      refine (M5.2 (by omega) i' k).same O O6 F6 hk (fun hz o' e2 => ?_) (fun b' o' e2 hn => ?_)
      · by_cases hi : i' = ii
        · subst hi
          rw [e1] at e2; cases e2; exact Nat.le_refl _
        · exact (apart i' k ii hin hi (by have := le i' k; omega) hc0 b o' o e2 e1).elim
      · rcases S5.room _ (List.getElem_mem k) with k2 | ⟨b2, o2, cs2, e3, O2, _⟩
        · have := le i' k; omega
        · rw [e3] at e2; cases e2; exact O2.lt
    · refine next h6 (S5.ext F6) ⟨fun k => absurd k (by omega), fun _ i' k => ?_⟩
      intro j' hj' b' o' e2
      rcases S5.room _ (List.getElem_mem k) with k2 | ⟨b2, o2, cs2, e3, O2, _⟩
      · have := le i' k; omega
      · rw [← M5.2 (by omega) i' k j' hj' b' o' e2]
        rw [e3] at e2; cases e2
        exact cell_fr F6 O2.lt id
end Go.Proofs
set_option linter.unusedVariables false
namespace Go.Proofs
open Go Go.Eng
variable {B : World} {R : Ending → Heap → Prop} {h : Heap}
/-- A slice of whole numbers that came in. -/
def SlH (h : Heap) (p : Option Addr) (n c : Nat) : Prop := ∃ xs, IntsH h p xs ∧ xs.length = n ∧ PtB h p ∧ n ≤ c
theorem KT0 {r : Nat} {b : Nat} (h : KT r none none [] b) : b = r := by
  rcases h with (e | e | e) | ⟨e, he, _⟩
  · exact e
  · exact absurd e not_blk_none
  · exact absurd e not_blk_none
  · cases he
theorem KB0 {r : Nat} {b : Nat} (h : KB r none none b) : b = r := KT0 (Or.inl h)
end Go.Proofs
