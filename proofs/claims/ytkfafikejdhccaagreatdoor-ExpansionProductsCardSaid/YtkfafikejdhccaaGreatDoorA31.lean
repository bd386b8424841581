import Derived.Test.YtkfafikejdhccaaGreatDoorA30
import Derived.Test.YtkfafikejdhccaaGreatDoorA28
/- Here stand lemmas: lists that are kept. -/
set_option linter.unusedVariables false
set_option linter.unusedVariables false
namespace Go.Eng
open Go
/-- The block that a pointer points into. -/
def Blk (p : Option Addr) (b : Nat) : Prop := ∃ o, p = some ⟨b, o, none⟩
theorem not_blk_none {b : Nat} : ¬ Blk none b := fun ⟨_, e⟩ => by cases e
theorem blk_some {b b' o : Nat} (h : Blk (some ⟨b, o, none⟩) b') : b' = b := by
  obtain ⟨_, e⟩ := h; cases e; rfl
/-- The cells from p on are vs. -/
def Sv (h : Heap) (p : Option Addr) (vs : List Value) : Prop :=
  vs = [] ∨ ∃ b o cs, p = some ⟨b, o, none⟩ ∧ Own h b cs ∧ ∀ i (hi : i < vs.length), cs[o + i]? = some vs[i]
theorem Sv.fr {h h' : Heap} {p : Option Addr} {vs : List Value} {S : Nat → Prop} (H : Sv h p vs) (f : Fr S h h') (hp : ∀ b, Blk p b → b < h.size → ¬ S b) : Sv h' p vs := by
  rcases H with H | ⟨b, o, cs, h1, h2, h3⟩
  · exact .inl H
  · exact .inr ⟨b, o, cs, h1, h2.fr f (hp b ⟨o, h1⟩ h2.lt), h3⟩
theorem Sv.row {h : Heap} {p : Option Addr} {vs : List Value} (H : Sv h p vs) (hp : Pt p) {n : Nat} (hn : vs.length = n) : rowAt h p (n * 1) vs := by
  rcases hp with hp | ⟨b, o, hp⟩
  · subst hp
    rcases H with H | ⟨b, o, cs, h1, _⟩
    · subst H; rfl
    · cases h1
  · subst hp
    refine ⟨by simp [hn], b, o, rfl, fun i hi => ?_⟩
    rcases H with H | ⟨b', o', cs, h1, h2, h3⟩
    · subst H; exact absurd hi (by simp)
    · cases h1; rw [h2.cell, h3 i hi]
/-- Words that can be read, in a block that T has not. -/
def Rd (h : Heap) (T : Nat → Prop) (p : Option Addr) (ws : List Int) : Prop :=
  (∀ x ∈ ws, I64 x) ∧ (ws = [] ∨ ∃ b o, p = some ⟨b, o, none⟩ ∧ b < h.size ∧ ¬ T b ∧ ∀ i (hi : i < ws.length), cell? h ⟨b, o + i, none⟩ = some (.int .i64 ws[i]))
theorem cell_fr {h h' : Heap} {S : Nat → Prop} {b o : Nat} (f : Fr S h h') (hb : b < h.size) (hs : ¬ S b) : cell? h' ⟨b, o, none⟩ = cell? h ⟨b, o, none⟩ := by
  unfold cell?; rw [f.same b hb hs]
theorem Rd.fr {h h' : Heap} {S T T' : Nat → Prop} {p : Option Addr} {ws : List Int} (H : Rd h T p ws) (f : Fr S h h') (hS : ∀ b, b < h.size → S b → T b) (hT : ∀ b, b < h.size → T' b → T b) : Rd h' T' p ws := by
  refine ⟨H.1, ?_⟩
  rcases H.2 with e | ⟨b, o, e, hb, nT, g⟩
  · exact .inl e
  · exact .inr ⟨b, o, e, Nat.lt_of_lt_of_le hb f.size, fun k => nT (hT b hb k), fun i hi => (cell_fr f hb fun k => nT (hS b hb k)).trans (g i hi)⟩
theorem Rd.ints {h : Heap} {T : Nat → Prop} {p : Option Addr} {ws : List Int} (H : Rd h T p ws) : Go.Proofs.IntsH h p ws := by
  refine ⟨H.1, ?_⟩
  rcases H.2 with e | ⟨b, o, e, hb, _, g⟩
  · exact .inl e
  · exact .inr ⟨b, o, e, hb, g⟩
theorem Room.frT {h h' : Heap} {S T T' : Nat → Prop} {p : Option Addr} {c : Nat} (H : Room h p c fun b => ¬ T b) (f : Fr S h h') (hS : ∀ b, b < h.size → S b → T b) (hT : ∀ b, b < h.size → T' b → T b) : Room h' p c fun b => ¬ T' b := by
  rcases H with e | ⟨b, o, cs, e, O, g, nT⟩
  · exact .inl e
  · exact .inr ⟨b, o, cs, e, O.fr f fun k => nT (hS b O.lt k), g, fun k => nT (hT b O.lt k)⟩
/-- A list that was answered: its cells and its room lie where T is not. -/
structure Out (h : Heap) (T : Nat → Prop) (p : Option Addr) (n c : Nat) (ws : List Int) : Prop where
  len : ws.length = n
  le : n ≤ c
  pt : Pt p
  rd : Rd h T p ws
  room : Room h p c fun b => ¬ T b
theorem Out.fr {h h' : Heap} {S T T' : Nat → Prop} {p : Option Addr} {n c : Nat} {ws : List Int} (H : Out h T p n c ws) (f : Fr S h h') (hS : ∀ b, b < h.size → S b → T b) (hT : ∀ b, b < h.size → T' b → T b) : Out h' T' p n c ws :=
  ⟨H.len, H.le, H.pt, H.rd.fr f hS hT, H.room.frT f hS hT⟩
theorem Lj.out {h0 h : Heap} {p : Option Addr} {n c : Nat} {ws : List Int} (L : Lj h0 h p n c ws) {T : Nat → Prop} (hT : ∀ b, h0.size ≤ b → b < h.size → ¬ T b) : Out h T p n c ws := by
  refine ⟨L.len, L.le, L.pt, ⟨L.all, ?_⟩, ?_⟩
  · rcases L.sl with e | ⟨b, o, cs, e, O, g⟩
    · exact .inl e
    · exact .inr ⟨b, o, e, O.lt, hT b (L.fresh b o e) O.lt, fun i hi => by rw [O.cell]; exact g i hi⟩
  · rcases L.room with e | ⟨b, o, cs, e, O, g, k⟩
    · exact .inl e
    · exact .inr ⟨b, o, cs, e, O, g, hT b k O.lt⟩
/-- All blocks but those from lo to hi. -/
def Off (lo hi : Nat) (b : Nat) : Prop := ¬ (lo ≤ b ∧ b < hi)
theorem Lj.off {h0 h : Heap} {p : Option Addr} {n c : Nat} {ws : List Int} (L : Lj h0 h p n c ws) : Out h (Off h0.size h.size) p n c ws := L.out fun b h1 h2 k => k ⟨h1, h2⟩
theorem Out.off {h h' : Heap} {S : Nat → Prop} {lo hi : Nat} {p : Option Addr} {n c : Nat} {ws : List Int} (H : Out h (Off lo hi) p n c ws) (f : Fr S h h') (hS : ∀ b, lo ≤ b → b < hi → ¬ S b) : Out h' (Off lo hi) p n c ws :=
  H.fr f (fun b _ hs k => hS b k.1 k.2 hs) fun _ _ k => k
theorem Out.ext {h h' : Heap} {T : Nat → Prop} {p : Option Addr} {n c : Nat} {ws : List Int} (H : Out h T p n c ws) (f : Ext h h') : Out h' T p n c ws :=
  H.fr f (fun _ _ k => k.elim) fun _ _ k => k
/-- What Keep holds: the list, and what it was. -/
structure En where
  p : Option Addr
  n : Nat
  c : Nat
  q : Option Addr
  d : Nat
  ws : List Int
abbrev En.v (e : En) : Value := .slice e.p e.n e.c
abbrev En.w (e : En) : Value := .slice e.q e.n e.d
/-- The blocks that Keep itself has. -/
def KB (r : Nat) (pL pW : Option Addr) (b : Nat) : Prop := b = r ∨ Blk pL b ∨ Blk pW b
/-- The blocks of the lists that it holds. -/
def EB (es : List En) (b : Nat) : Prop := ∃ e ∈ es, e.c ≠ 0 ∧ Blk e.p b
def KT (r : Nat) (pL pW : Option Addr) (es : List En) (b : Nat) : Prop := KB r pL pW b ∨ EB es b
def PtB (h : Heap) (p : Option Addr) : Prop := p = none ∨ ∃ b o, p = some ⟨b, o, none⟩ ∧ b < h.size
theorem PtB.pt {h : Heap} {p : Option Addr} (H : PtB h p) : Pt p := by
  rcases H with e | ⟨b, o, e, _⟩
  · exact .inl e
  · exact .inr ⟨b, o, e⟩
theorem PtB.lt {h : Heap} {p : Option Addr} (H : PtB h p) {b : Nat} (hb : Blk p b) : b < h.size := by
  rcases H with e | ⟨b', o, e, hl⟩
  · subst e; exact absurd hb not_blk_none
  · subst e; rw [blk_some hb]; exact hl
theorem PtB.mono {h h' : Heap} {p : Option Addr} (H : PtB h p) (f : h.size ≤ h'.size) : PtB h' p := by
  rcases H with e | ⟨b, o, e, hl⟩
  · exact .inl e
  · exact .inr ⟨b, o, e, Nat.lt_of_lt_of_le hl f⟩
theorem Room.blk {h : Heap} {p : Option Addr} {c : Nat} {S : Nat → Prop} (H : Room h p c S) : Room h p c (Blk p) := by
  rcases H with e | ⟨b, o, cs, e, O, g, _⟩
  · exact .inl e
  · exact .inr ⟨b, o, cs, e, O, g, o, e⟩
theorem Out.blk {h : Heap} {T : Nat → Prop} {p : Option Addr} {n c : Nat} {ws : List Int} (H : Out h T p n c ws) (hc : c ≠ 0) {b : Nat} (hb : Blk p b) : ¬ T b ∧ b < h.size := by
  rcases H.room with e | ⟨b', o, cs, e, O, g, nT⟩
  · exact absurd e hc
  · rw [e] at hb; rw [blk_some hb]; exact ⟨nT, O.lt⟩
structure Kept (h : Heap) (r : Nat) (pL : Option Addr) (cL : Nat) (pW : Option Addr) (cW : Nat) (es : List En) : Prop where
  obj : Own h r #[.slice pL es.length cL, .slice pW es.length cW]
  lL : es.length ≤ cL
  lW : es.length ≤ cW
  ptL : PtB h pL
  ptW : PtB h pW
  vL : Sv h pL (es.map En.v)
  vW : Sv h pW (es.map En.w)
  rL : Room h pL cL (Blk pL)
  rW : Room h pW cW (Blk pW)
  nL : ¬ Blk pL r
  nW : ¬ Blk pW r
  nLW : ∀ b, Blk pL b → ¬ Blk pW b
  ok : ∀ e ∈ es, Out h (KB r pL pW) e.p e.n e.c e.ws ∧ Rd h (KB r pL pW) e.q e.ws
  lim : ∀ e ∈ es, e.n ≤ 1000000
  apart : es.Pairwise fun e f => e.c ≠ 0 → f.c ≠ 0 → ∀ b, Blk e.p b → ¬ Blk f.p b
theorem Kept.new {h : Heap} {r : Nat} (O : Own h r #[.slice none 0 0, .slice none 0 0]) : Kept h r none 0 none 0 [] :=
  ⟨O, Nat.le_refl _, Nat.le_refl _, .inl rfl, .inl rfl, .inl rfl, .inl rfl, .inl rfl, .inl rfl, not_blk_none, not_blk_none, fun _ _ => not_blk_none, fun e he => (by cases he), fun e he => (by cases he), .nil⟩
theorem Kept.lt {h : Heap} {r cL cW : Nat} {pL pW : Option Addr} {es : List En} (K : Kept h r pL cL pW cW es) {b : Nat} (hb : KT r pL pW es b) : b < h.size := by
  rcases hb with (e | e | e) | ⟨e, he, hc, hb⟩
  · rw [e]; exact K.obj.lt
  · exact K.ptL.lt e
  · exact K.ptW.lt e
  · rcases (K.ok e he).1.room with k | ⟨b', o, cs, k, O, _⟩
    · exact absurd k hc
    · rw [k] at hb; rw [blk_some hb]; exact O.lt
theorem Kept.fr {h h' : Heap} {S : Nat → Prop} {r cL cW : Nat} {pL pW : Option Addr} {es : List En} (K : Kept h r pL cL pW cW es) (f : Fr S h h') (hS : ∀ b, b < h.size → ¬ S b) : Kept h' r pL cL pW cW es := by
  have hO : ∀ b cs, Own h b cs → Own h' b cs := fun b cs O => O.fr f (hS b O.lt)
  refine ⟨hO _ _ K.obj, K.lL, K.lW, K.ptL.mono f.size, K.ptW.mono f.size, K.vL.fr f fun b _ hb => hS b hb, K.vW.fr f fun b _ hb => hS b hb, ?_, ?_, K.nL, K.nW, K.nLW, fun e he => ?_, K.lim, K.apart⟩
  · rcases K.rL with k | ⟨b, o, cs, k, O, g⟩
    · exact .inl k
    · exact .inr ⟨b, o, cs, k, hO _ _ O, g⟩
  · rcases K.rW with k | ⟨b, o, cs, k, O, g⟩
    · exact .inl k
    · exact .inr ⟨b, o, cs, k, hO _ _ O, g⟩
  · exact ⟨(K.ok e he).1.fr f (fun b hb k => absurd k (hS b hb)) fun _ _ k => k, (K.ok e he).2.fr f (fun b hb k => absurd k (hS b hb)) fun _ _ k => k⟩
theorem Kept.ext {h h' : Heap} {r cL cW : Nat} {pL pW : Option Addr} {es : List En} (K : Kept h r pL cL pW cW es) (f : Ext h h') : Kept h' r pL cL pW cW es := K.fr f fun _ _ => id
end Go.Eng
set_option linter.unusedVariables false
namespace Go.Proofs
open Go Go.Eng
variable {B : World} {R : Ending → Heap → Prop} {h : Heap}
end Go.Proofs
set_option linter.unusedVariables false
namespace Go.Proofs
open Go Go.Eng
variable {B : World} {R : Ending → Heap → Prop} {h : Heap}
end Go.Proofs
set_option linter.unusedVariables false
namespace Go.Proofs
open Go Go.Eng
variable {B : World} {R : Ending → Heap → Prop} {h : Heap}
/-- What a call hands on that keeps some lists. -/
def KeepK (R : Ending → Heap → Prop) (h : Heap) (r : Nat) (pL pW : Option Addr) (es : List En) (k : Nat) : Prop :=
  ∀ pL' cL' pW' cW' es' h', Kept h' r pL' cL' pW' cW' (es ++ es') → es'.length ≤ k → Fr (KB r pL pW) h h' → (∀ b, b < h.size → KB r pL' pW' b → KB r pL pW b) → (∀ b, KT r pL' pW' (es ++ es') b → KT r pL pW es b ∨ h.size ≤ b) → R (.returned (.bool true)) h'
/-- Another heap to begin from, with nothing changed since. -/
theorem KeepK.ext {hS h : Heap} {r k : Nat} {pL pW : Option Addr} {es : List En} (H : KeepK R hS r pL pW es k) (F : Ext hS h) : KeepK R h r pL pW es k :=
  fun pL' cL' pW' cW' es' h' K' l' F' B' Z' => H pL' cL' pW' cW' es' h' K' l' (Fr.trans F.to F' fun _ _ k => k) (fun b hb k => B' b (Nat.lt_of_lt_of_le hb F.size) k) fun b k => (Z' b k).imp id fun k => Nat.le_trans F.size k
end Go.Proofs
set_option linter.unusedVariables false
namespace Go.Proofs
open Go Go.Eng
variable {B : World} {R : Ending → Heap → Prop} {h : Heap}
end Go.Proofs
set_option linter.unusedVariables false
namespace Go.Proofs
open Go Go.Eng
variable {B : World} {R : Ending → Heap → Prop} {h : Heap}
/-- expansion.told, at a call's end. -/
theorem K89e {hB : Heap} {X : List PanicEntry → Heap → Prop} {r3 r5 n c : Nat} {l0 e0 : Value} {p : Option Addr} {l : List Int} (O3 : Own h r3 #[l0]) (O5 : Own h r5 #[e0]) (hne : r5 ≠ r3) (L : Lj hB h p n c l) (b3 : r3 < hB.size) (b5 : r5 < hB.size)
    (H : ∀ q m c' h', Fr (fun x => x = r3 ∨ x = r5) h h' → Lj hB h' q m c' (ansOf (some l)).1 → R (.returned (.tuple #[.slice q m c', .int .i64 (ansOf (some l)).2])) h') :
    Ent Tryz.prog B 89 #[.slice p n c] (retE (fun v h1 => ∃ x xn xc y, v = .tuple #[.slice x xn xc, .int .i64 y] ∧
    isP (some ⟨r3, 0, none⟩) fun b25 o26 => stC h1 b25 o26 (.slice x xn xc) fun h27 =>
    isP (some ⟨r5, 0, none⟩) fun b28 o29 => stC h27 b28 o29 (.int .i64 y) fun h30 =>
    Enters Tryz.prog 86 ∧ FnD Tryz.prog B 86 #[.pointer (some ⟨r3, 0, none⟩), .pointer (some ⟨r5, 0, none⟩)] .returning (dfE fun u31 h32 => lvW (fun h33 => isP (some ⟨r3, 0, none⟩) fun b36 o37 => ∃ x38 x38n x38c, cell? h33 ⟨b36, o37, none⟩ = some (.slice x38 x38n x38c) ∧
    isP (some ⟨r5, 0, none⟩) fun b39 o40 => ∃ x41, cell? h33 ⟨b39, o40, none⟩ = some (.int .i64 x41) ∧
    R (.returned (.tuple #[.slice x38 x38n x38c, .int .i64 x41])) h33) (fun ch35 h34 => R (.panicked ch35) h34) u31 h32) h30) X) h := by
  have hm := L.len
  refine K89 (fun hle => ⟨_, _, _, _, rfl, expEnd O3 O5 hne fun h2 f2 => ?_⟩) fun hgt => ⟨_, _, _, _, rfl, expEnd O3 O5 hne fun h2 f2 => ?_⟩
  · have hif : ansOf (some l) = (l, 0) := if_pos (show l.length ≤ 4096 by omega)
    rw [hif] at H
    exact H p n c h2 f2 (L.fr2 f2 b3 b5)
  · have hif : ansOf (some l) = ([], 2) := if_neg (show ¬ l.length ≤ 4096 by omega)
    rw [hif] at H
    exact H none 0 0 h2 f2 Lj.nil
/-- What sum makes; none: a step was not exact. -/
def sumP (xs : List Int) : List Int → Option (List Int)
  | [] => some xs
  | y :: r => match growP [] y xs with
    | some l => sumP l r
    | none => none
theorem growP_len {xs : List Int} : ∀ {out : List Int} {q : Int} {l : List Int}, growP out q xs = some l → l.length ≤ out.length + xs.length + 1 := by
  induction xs with
  | nil => intro out q l h; cases h; have := addL_len out q; simpa using this
  | cons x r ih =>
    intro out q l h
    unfold growP at h
    by_cases hok : sumOk (sumH q x) (sumL q x) q x = true
    · rw [if_pos hok] at h
      have := ih h
      have := addL_len out (sumL q x)
      rw [List.length_cons]; omega
    · rw [if_neg hok] at h; cases h
theorem slP_zero {p : Option Addr} (hp : Pt p) (m : Nat) : slP p 0 m 1 = p := by
  unfold slP
  rcases hp with e | ⟨b, o, e⟩
  · subst e; split <;> rfl
  · subst e; split
    · rfl
    · show some ((⟨b, o, none⟩ : Addr).add (0 * 1)) = _
      rw [add_addr]; rfl
/-- expansion.sum. -/
theorem K92 {p q : Option Addr} {n c m d : Nat} {xs ys : List Int} (ht : TabH h) (I : IntsH h p xs) (hn : xs.length = n) (hc : n ≤ c) (hp : Pt p) (J : IntsH h q ys) (hm : ys.length = m) (hlim : n + m ≤ 900000)
    (H1 : ∀ l, sumP xs ys = some l → ∀ q m c' h', Ext h h' → Lj h h' q m c' l → R (.returned (.slice q m c')) h') (H2 : sumP xs ys = none → ∀ h', Ext h h' → R (.panicked INEX) h') :
    Ent Tryz.prog B 92 #[.slice p n c, .slice q m d] R h := by
  refine F92_ok _ _ _ _ _ _ ⟨by omega, by omega, by omega, by rw [Int.toNat_natCast]; exact Int.le_refl _, ?_⟩
  dsimp only [bnd]
  rw [Int.toNat_natCast, slP_zero hp]
  refine ⟨fun k vs h' => match vs with
    | [.slice z zn zc, .slice q1 m1 d1, .int _ y, .int _ i] => q = q1 ∧ m = m1 ∧ d = d1 ∧ y = (m : Int) ∧ ∃ j : Nat, i = (j : Int) ∧ j ≤ m ∧ k = m - j ∧ Ext h h' ∧ Pt z ∧ ∃ hs, IntsH h' z hs ∧ hs.length = zn ∧ zn ≤ n + j ∧ sumP hs (ys.drop j) = sumP xs ys
    | _ => False, m, ⟨rfl, rfl, rfl, rfl, 0, rfl, by omega, by omega, Fr.rfl', hp, xs, I, hn, by omega, rfl⟩, ?_⟩
  rintro k h1 z zn zc _ _ _ _ _ ⟨rfl, rfl, rfl, rfl, j, rfl, hj, rfl, F, hz, hs, IZ, lz, bz, hg⟩ _
  refine ⟨fun e => ?_, fun e => ?_⟩
  · have hjn : j < ys.length := by have := of_decide_eq_true e; omega
    have hd : ys.drop j = ys[j] :: ys.drop (j + 1) := List.drop_eq_getElem_cons hjn
    rw [hd] at hg
    have hI : I64 ys[j] := J.1 _ (List.getElem_mem hjn)
    refine (J.ext F).get hm hjn (K90 (ht.ext F) IZ lz (by omega) hI (fun l hl q' m' c' h2 f2 L => ?_) fun hl h2 f2 => ?_)
    · have hg' : sumP l (ys.drop (j + 1)) = sumP xs ys := by rw [← hg]; show _ = (match growP [] ys[j] hs with | some l => sumP l (ys.drop (j + 1)) | none => none); rw [hl]
      have hlen := growP_len hl
      rw [List.length_nil] at hlen
      refine ⟨_, _, _, rfl, m - (j + 1), by omega, rfl, rfl, rfl, rfl, j + 1, ?_, by omega, rfl, Ext.trans F f2, L.pt, l, L.ints, L.len, ?_, hg'⟩
      · rw [i64_in (by omega) (by omega)]; rfl
      · have := L.len; omega
    · refine H2 ?_ h2 (Ext.trans F f2)
      rw [← hg]; show (match growP [] ys[j] hs with | some l => sumP l (ys.drop (j + 1)) | none => none) = none; rw [hl]
  · have hjn : j = m := by have := of_decide_eq_false e; omega
    rw [List.drop_of_length_le (by omega)] at hg
    refine apJN (h0 := h) (T := fun _ => False) Lj.nil F (by omega) IZ lz hz fun q' c' h2 L F2 _ => ?_
    rw [List.nil_append] at L
    exact H1 hs (by rw [← hg]; rfl) q' _ c' h2 F2 L
def sumAns (xs ys : List Int) : List Int × Int := if validP xs && validP ys then ansOf (sumP xs ys) else ([], 1)
end Go.Proofs
set_option linter.unusedVariables false
namespace Go.Proofs
open Go Go.Eng
variable {B : World} {R : Ending → Heap → Prop} {h : Heap}
theorem rf4 : validP [] = true := rfl
theorem sum_nil {a b : Int} : sumAns [a, b] [] = if validP [a, b] then ([a, b], 0) else ([], 1) := by
  unfold sumAns
  rw [rf4, Bool.and_true]
  rfl
end Go.Proofs
set_option linter.unusedVariables false
namespace Go.Proofs
open Go Go.Eng
variable {B : World} {R : Ending → Heap → Prop} {h : Heap}
def sumR (xs : List Int) (bad : Bool) : List Int → List Int × Bool
  | [] => (xs, bad)
  | y :: r => if bad then (xs, bad) else sumR (growR [] y bad xs).1 (growR [] y bad xs).2 r
theorem sumR_bad (xs ys : List Int) : sumR xs true ys = (xs, true) := by cases ys <;> rfl
theorem sumR_law {ys : List Int} : ∀ {xs : List Int}, match sumP xs ys with
    | some l => sumR xs false ys = (l, false)
    | none => (sumR xs false ys).2 = true := by
  induction ys with
  | nil => intro xs; rfl
  | cons y r ih =>
    intro xs
    have e1 : sumR xs false (y :: r) = sumR (growR [] y false xs).1 (growR [] y false xs).2 r := rfl
    have e2 : sumP xs (y :: r) = match growP [] y xs with | some l => sumP l r | none => none := rfl
    rw [e1, e2]
    cases hg : growP [] y xs with
    | some l => rw [growR_some hg]; exact ih
    | none =>
      have := growR_none hg
      show (sumR _ (growR [] y false xs).2 r).2 = true
      rw [this, sumR_bad]
theorem growR_len {xs : List Int} : ∀ {out : List Int} {q : Int} {bad : Bool}, (growR out q bad xs).1.length ≤ out.length + xs.length + 1 := by
  induction xs with
  | nil => intro out q bad; exact addL_len out q
  | cons x r ih =>
    intro out q bad
    cases bad with
    | true => rw [growR_bad]; have := addL_len out q; rw [List.length_cons]; show (addL out q).length ≤ _; omega
    | false =>
      show (growR (addL out (sumL q x)) (sumH q x) (!sumOk (sumH q x) (sumL q x) q x) r).1.length ≤ _
      have := @ih (addL out (sumL q x)) (sumH q x) (!sumOk (sumH q x) (sumL q x) q x)
      have := addL_len out (sumL q x)
      rw [List.length_cons]; omega
/-- What Product makes; none: a step was not exact. -/
def prodP (xs hs : List Int) : List Int → Option (List Int)
  | [] => some hs
  | y :: r => match scaleTop xs y with
    | some s => match sumP hs s with
      | some l => prodP xs l r
      | none => none
    | none => none
theorem scaleR_len {b : Int} {xs : List Int} : ∀ {out : List Int} {q : Int} {bad : Bool}, (scaleR out q b bad xs).1.length ≤ out.length + 2 * xs.length + 1 := by
  induction xs with
  | nil => intro out q bad; exact addL_len out q
  | cons x r ih =>
    intro out q bad
    cases bad with
    | true => rw [scaleR_bad]; have := addL_len out q; rw [List.length_cons]; show (addL out q).length ≤ _; omega
    | false =>
      have e1 : scaleR out q b false (x :: r) = scaleR (addL (addL out (sumL q (prdL x b))) (fstL (prdH x b) (sumH q (prdL x b)))) (sumH (prdH x b) (sumH q (prdL x b))) b
        (!prdOk x b || (!sumOk (sumH q (prdL x b)) (sumL q (prdL x b)) q (prdL x b) || !sumOk (sumH (prdH x b) (sumH q (prdL x b))) (fstL (prdH x b) (sumH q (prdL x b))) (prdH x b) (sumH q (prdL x b)))) r := rfl
      rw [e1]
      have a1 := addL_len out (sumL q (prdL x b))
      have a2 := addL_len (addL out (sumL q (prdL x b))) (fstL (prdH x b) (sumH q (prdL x b)))
      refine Nat.le_trans ih ?_
      rw [List.length_cons]; omega
theorem scaleTopR_len (xs : List Int) (b : Int) (bad : Bool) : (scaleTopR xs b bad).1.length ≤ 2 * xs.length := by
  cases xs with
  | nil => exact Nat.zero_le _
  | cons x r =>
    have e2 : scaleTopR (x :: r) b bad = if cls b = 0 then ([], bad) else scaleR (addL [] (prdL x b)) (prdH x b) b (bad || !prdOk x b) r := rfl
    rw [e2]
    split
    · exact Nat.zero_le _
    · have a1 := addL_len [] (prdL x b)
      refine Nat.le_trans scaleR_len ?_
      rw [List.length_cons]
      rw [List.length_nil] at a1
      omega
theorem sumR_len {ys : List Int} : ∀ {xs : List Int} {bad : Bool}, (sumR xs bad ys).1.length ≤ xs.length + ys.length := by
  induction ys with
  | nil => intro xs bad; exact Nat.le_refl _
  | cons y r ih =>
    intro xs bad
    cases bad with
    | true => rw [sumR_bad]; exact Nat.le_add_right _ _
    | false =>
      have e1 : sumR xs false (y :: r) = sumR (growR [] y false xs).1 (growR [] y false xs).2 r := rfl
      rw [e1]
      have a1 := @growR_len xs [] y false
      refine Nat.le_trans ih ?_
      rw [List.length_cons]
      rw [List.length_nil] at a1
      omega
end Go.Proofs
set_option linter.unusedVariables false
namespace Go.Eng
open Go
/-- What the marks need: the lists stand where they stood, and their rooms are there. -/
structure StA (h h' : Heap) (r : Nat) (pL : Option Addr) (cL : Nat) (pW : Option Addr) (cW : Nat) (es : List En) : Prop where
  obj : Own h' r #[.slice pL es.length cL, .slice pW es.length cW]
  vL : Sv h' pL (es.map En.v)
  room : ∀ e ∈ es, Room h' e.p e.c fun b => ¬ KB r pL pW b
  fr : Fr (KT r pL pW es) h h'
/-- The first j cells of list i bear its mark. -/
def Mk (h' : Heap) (e : En) (i j : Nat) : Prop := ∀ j', j' < j → ∀ b o, e.p = some ⟨b, o, none⟩ → cell? h' ⟨b, o + j', none⟩ = some (.int .i64 (-2 - (i : Int)))
/-- A write into list i: behind its cells, or a mark. -/
theorem StA.set {h h' : Heap} {r cL cW : Nat} {pL pW : Option Addr} {es : List En} (S : StA h h' r pL cL pW cW es) {i : Nat} (hi : i < es.length) {b o k : Nat} {cs : Array Value} {v : Value} (hp : es[i].p = some ⟨b, o, none⟩) (hc : es[i].c ≠ 0) (O : Own h' b cs) (hnb : ¬ KB r pL pW b) :
    StA h (setCell h' ⟨b, k, none⟩ v) r pL cL pW cW es := by
  have F : Fr (fun x => x = b) h' (setCell h' ⟨b, k, none⟩ v) := fr_setCell
  refine ⟨S.obj.fr F fun e => hnb (.inl e.symm), S.vL.fr F fun x hx _ e => hnb (.inr (.inl (e ▸ hx))), fun e he => ?_, Fr.trans S.fr F fun x _ e => .inr ⟨es[i], List.getElem_mem hi, hc, o, by rw [hp, e]⟩⟩
  rcases S.room e he with k | ⟨b', o', cs', e1, O', g, n⟩
  · exact .inl k
  · by_cases hb : b' = b
    · subst hb
      have := O.inj O'
      subst this
      exact .inr ⟨b', o', _, e1, own_set O, by simpa using g, n⟩
    · exact .inr ⟨b', o', cs', e1, own_set_ne O' hb, g, n⟩
theorem setCell_other {h : Heap} {b k b' o' : Nat} {cs : Array Value} {v : Value} (O : Own h b cs) (hne : b' ≠ b ∨ o' ≠ k) : cell? (setCell h ⟨b, k, none⟩ v) ⟨b', o', none⟩ = cell? h ⟨b', o', none⟩ := by
  by_cases hb : b' = b
  · subst hb
    rw [(own_set O).cell, O.cell, Array.getElem?_setIfInBounds_ne (by rcases hne with e | e; exact absurd rfl e; exact fun k => e k.symm)]
  · unfold cell?; rw [setCell_ne hb]
/-- Marks stay where another list is written, or behind. -/
theorem Mk.set {h : Heap} {e : En} {i j b k : Nat} {cs : Array Value} {v : Value} (M : Mk h e i j) (O : Own h b cs) (hne : 0 < j → ∀ o, e.p = some ⟨b, o, none⟩ → o + j ≤ k) : Mk (setCell h ⟨b, k, none⟩ v) e i j := by
  intro j' hj' b' o' e1
  rw [setCell_other O (by
    by_cases hb : b' = b
    · subst hb; right; have := hne (by omega) o' e1; omega
    · exact .inl hb)]
  exact M j' hj' b' o' e1
theorem StA.same {h h1 h2 : Heap} {r cL cW : Nat} {pL pW : Option Addr} {es : List En} (S : StA h h1 r pL cL pW cW es) {i : Nat} (hi : i < es.length) {b o : Nat} {cs cs' : Array Value} (hp : es[i].p = some ⟨b, o, none⟩) (hc : es[i].c ≠ 0) (O : Own h1 b cs) (O2 : Own h2 b cs') (hs : cs'.size = cs.size) (F : Fr (fun x => x = b) h1 h2) (hnb : ¬ KB r pL pW b) :
    StA h h2 r pL cL pW cW es := by
  refine ⟨S.obj.fr F fun e => hnb (.inl e.symm), S.vL.fr F fun x hx _ e => hnb (.inr (.inl (e ▸ hx))), fun e he => ?_, Fr.trans S.fr F fun x _ e => .inr ⟨es[i], List.getElem_mem hi, hc, o, by rw [hp, e]⟩⟩
  rcases S.room e he with k | ⟨b', o', cs2, e1, O', g, n⟩
  · exact .inl k
  · by_cases hb : b' = b
    · subst hb
      have := O.inj O'
      subst this
      exact .inr ⟨b', o', _, e1, O2, by rw [hs]; exact g, n⟩
    · exact .inr ⟨b', o', cs2, e1, O'.fr F hb, g, n⟩
theorem StA.ext {h h1 h2 : Heap} {r cL cW : Nat} {pL pW : Option Addr} {es : List En} (S : StA h h1 r pL cL pW cW es) (F : Ext h1 h2) : StA h h2 r pL cL pW cW es := by
  refine ⟨S.obj.ext F, S.vL.fr F fun _ _ _ => id, fun e he => ?_, Fr.trans S.fr F fun x _ e => e.elim⟩
  exact (S.room e he).ext F
theorem Mk.same {h1 h2 : Heap} {e : En} {i j b o : Nat} {cs cs' : Array Value} (M : Mk h1 e i j) (O : Own h1 b cs) (O2 : Own h2 b cs') (F : Fr (fun x => x = b) h1 h2) (hk : ∀ k, k < o → cs'[k]? = cs[k]?) (hne : 0 < j → ∀ o', e.p = some ⟨b, o', none⟩ → o' + j ≤ o) (hr : ∀ b' o', e.p = some ⟨b', o', none⟩ → 0 < j → b' < h1.size) : Mk h2 e i j := by
  intro j' hj' b' o' e1
  rw [← M j' hj' b' o' e1]
  by_cases hb : b' = b
  · subst hb
    have := hne (by omega) o' e1
    rw [O.cell, O2.cell, hk _ (by omega)]
  · exact cell_fr F (hr b' o' e1 (by omega)) hb
theorem Room.row {h : Heap} {p : Option Addr} {n c : Nat} {S : Nat → Prop} (H : Room h p c S) (hp : Pt p) (hn : n ≤ c) : ∃ old, rowAt h p (n * 1) old := by
  rcases H with e | ⟨b, o, cs, e, O, g, _⟩
  · have h0 : n = 0 := by omega
    subst h0
    refine ⟨[], ?_⟩
    rcases hp with e | ⟨b, o, e⟩
    · subst e; rfl
    · subst e; exact ⟨rfl, b, o, rfl, fun i hi => absurd hi (by simp)⟩
  · refine ⟨(cs.toList.drop o).take n, ?_⟩
    subst e
    have hl : ((cs.toList.drop o).take n).length = n := by simp; omega
    refine ⟨by rw [hl, Nat.mul_one], b, o, rfl, fun i hi => ?_⟩
    rw [O.cell]
    rw [hl] at hi
    rw [List.getElem_take, List.getElem_drop, Array.getElem_toList, Array.getElem?_eq_getElem (by omega)]
end Go.Eng
set_option linter.unusedVariables false
namespace Go.Proofs
open Go Go.Eng
variable {B : World} {R : Ending → Heap → Prop} {h : Heap}
end Go.Proofs
set_option linter.unusedVariables false
namespace Go.Proofs
open Go Go.Eng
variable {B : World} {R : Ending → Heap → Prop} {h : Heap}
/-- A slice of whole numbers that came in. -/
def SlH (h : Heap) (p : Option Addr) (n c : Nat) : Prop := ∃ xs, IntsH h p xs ∧ xs.length = n ∧ PtB h p ∧ n ≤ c
end Go.Proofs
