import Derived.Test.YtpnfpefcjeafbaaGreatFmtA39
import Derived.Test.YtpnfpefcjeafbaaGreatFmtA26
import Derived.WalkKit
import Derived.Test.YtpnfpefcjeafbaaGreatFmtA12
import Derived.Test.YtpnfpefcjeafbaaGreatFmtA09
import Derived.Test.YtpnfpefcjeafbaaGreatFmtA32
import Derived.Test.YtpnfpefcjeafbaaGreatFmtA31
import Derived.Test.YtpnfpefcjeafbaaGreatFmtA38
/- Here stand lemmas and contracts, in the order in which they are used. -/
set_option linter.unusedVariables false
namespace Go.Eng
open Go
/-- The cells from p on hold ws, of kind k. -/
def Sj (k : IntKind) (h : Heap) (p : Option Addr) (ws : List Int) : Prop :=
  ws = [] ∨ ∃ b o cs, p = some ⟨b, o, none⟩ ∧ Own h b cs ∧ ∀ i (hi : i < ws.length), cs[o + i]? = some (.int k ws[i])
theorem Sj.nil {k : IntKind} {h : Heap} {p : Option Addr} : Sj k h p [] := .inl rfl
theorem Sj.fr {k : IntKind} {h h' : Heap} {p : Option Addr} {ws : List Int} {S : Nat → Prop} (H : Sj k h p ws) (f : Fr S h h') (hp : ∀ b o, p = some ⟨b, o, none⟩ → b < h.size → ¬ S b) : Sj k h' p ws := by
  rcases H with H | ⟨b, o, cs, h1, h2, h3⟩
  · exact .inl H
  · exact .inr ⟨b, o, cs, h1, h2.fr f (hp b o h1 h2.lt), h3⟩
theorem Sj.ext {k : IntKind} {h h' : Heap} {p : Option Addr} {ws : List Int} (H : Sj k h p ws) (f : Ext h h') : Sj k h' p ws := H.fr f fun _ _ _ _ => id
/-- An element appended. -/
theorem apJ {k : IntKind} {h : Heap} {p : Option Addr} {n c r e : Nat} {ws : List Int} {x : Int} {S : Nat → Prop} {zero : Array Value} {bytes : Nat} {K : Option Addr → Nat → Nat → Heap → Prop}
    (hs : Sj k h p ws) (hr : Room h p c S) (hn : ws.length = n) (hc : n ≤ c) (hx : Own h r #[.int k x]) (hb : 0 < bytes) (hlim : c < n + 1 → Builtin.nextslicecap (n + 1) c * bytes ≤ 281474976710656) (hlim2 : n + 1 ≤ 281474976710656)
    (hz : zero.size = 1) (hp : c = 0 → p = none ∨ ∃ b o, p = some ⟨b, o, none⟩)
    (hk : ∀ q c' h', Sj k h' q (ws ++ [x]) → Room h' q c' (fun b => S b ∨ h.size ≤ b) → n + 1 ≤ c' → Fr S h h' → K q (n + 1) c' h') :
    apW h p n c (some ⟨r, 0, none⟩) 1 1 bytes e zero K := by
  have hrow : rowAt h (some ⟨r, 0, none⟩) (1 * 1) [.int k x] := by
    refine ⟨rfl, r, 0, rfl, fun i hi => ?_⟩
    have : i = 0 := by simp at hi; exact hi
    subst this
    rw [hx.cell]; rfl
  refine ⟨fun hle => ?_, fun hlt => ⟨hb, hlim2, hlim hlt, ws.map (fun w : Int => Value.int k w), [.int k x], ?_, hrow, fun cap h1 h2 => ?_⟩⟩
  · refine ⟨_, hrow, ?_⟩
    rcases hr with hr | ⟨b, o, cs, e1, e2, e3, e4⟩
    · omega
    subst e1
    have hsz : o + n < cs.size := by omega
    refine ⟨b, o, rfl, fun y hy => ?_, fun i hi => ?_, ?_⟩
    · rw [List.mem_singleton] at hy; subst hy; rfl
    · have : i = 0 := by simp at hi; exact hi
      subst this
      exact ⟨⟨_, by rw [e2.cell, Array.getElem?_eq_getElem (by omega)]⟩, e2.frozen _⟩
    · simp only [setRow, Nat.mul_one]
      have H' := own_set (o := o + n) (v := .int k x) e2
      refine hk _ _ _ (.inr ⟨b, o, _, rfl, H', fun i hi => ?_⟩) (.inr ⟨b, o, _, rfl, H', by simpa using e3, .inl e4⟩) (by omega) (Fr.mono fr_setCell fun y _ hy => hy ▸ e4)
      rw [List.length_append, List.length_singleton] at hi
      by_cases hil : i < ws.length
      · rw [Array.getElem?_setIfInBounds_ne (by omega), List.getElem_append_left hil]
        rcases hs with hs | ⟨b', o', cs', f1, f2, f3⟩
        · subst hs; exact absurd hil (by simp)
        · cases f1; rw [e2.inj f2]; exact f3 i hil
      · have : i = ws.length := by omega
        subst this
        simp only [hn, List.getElem_concat_length]
        rw [Array.getElem?_setIfInBounds_self_of_lt hsz]
  · cases p with
    | none =>
      rcases hs with hs | ⟨b, o, cs, h1, _⟩
      · subst hs; rfl
      · cases h1
    | some a =>
      by_cases hn0 : ws = []
      · subst hn0
        refine ⟨by simp [← hn], ?_⟩
        have : ∃ b o, some a = some (⟨b, o, none⟩ : Addr) := by
          rcases hr with hr | ⟨b, o, cs, e1, _⟩
          · rcases hp hr with h | h
            · cases h
            · exact h
          · exact ⟨b, o, e1⟩
        obtain ⟨b, o, hbo⟩ := this
        exact ⟨b, o, hbo, fun i hi => absurd hi (by simp)⟩
      · rcases hs with hs | ⟨b, o, cs, h1, h2, h3⟩
        · exact absurd hs hn0
        · refine ⟨by simp [hn], b, o, h1, fun i hi => ?_⟩
          rw [List.length_map] at hi
          rw [h2.cell, h3 i hi, List.getElem_map]
  · have H' : Own (h.push (.cells (ws.map (fun w : Int => Value.int k w) ++ [Value.int k x] ++ zerosL zero (cap - (n + 1))).toArray e)) h.size _ := own_new
    refine hk _ _ _ (.inr ⟨_, 0, _, rfl, H', fun i hi => ?_⟩) (.inr ⟨_, 0, _, rfl, H', ?_, .inr (Nat.le_refl _)⟩) h1 (Ext.push.to)
    · simp only [Nat.zero_add, List.getElem?_toArray]
      rw [List.getElem?_append_left (by simp at hi ⊢; omega), ← List.map_singleton (f := fun w : Int => Value.int k w), ← List.map_append, List.getElem?_map, List.getElem?_eq_getElem hi]; rfl
    · simp [zerosL, hn, hz]
      omega
/-- A list of whole numbers that is being made, in blocks that h0 has not. -/
structure Lj (h0 h : Heap) (p : Option Addr) (n c : Nat) (ws : List Int) : Prop where
  sl : Sj .i64 h p ws
  len : ws.length = n
  room : Room h p c (fun b => h0.size ≤ b)
  le : n ≤ c
  pt : Pt p
  fresh : Fresh h0 p
  all : ∀ x ∈ ws, I64 x
theorem Lj.nil {h0 h : Heap} : Lj h0 h none 0 0 [] := ⟨Sj.nil, rfl, .inl rfl, Nat.le_refl _, .inl rfl, Fresh.nil, fun _ hx => by cases hx⟩
theorem Lj.ext {h0 h h' : Heap} {p : Option Addr} {n c : Nat} {ws : List Int} (L : Lj h0 h p n c ws) (f : Ext h h') : Lj h0 h' p n c ws := ⟨L.sl.ext f, L.len, L.room.ext f, L.le, L.pt, L.fresh, L.all⟩
end Go.Eng
namespace Go.Proofs
open Go Go.Eng
variable {B : World} {R : Ending → Heap → Prop} {h : Heap}
theorem _root_.Go.Eng.Lj.ints {h0 : Heap} {p : Option Addr} {n c : Nat} {ws : List Int} (L : Lj h0 h p n c ws) : IntsH h p ws := by
  refine ⟨L.all, ?_⟩
  rcases L.sl with e | ⟨b, o, cs, e, O, g⟩
  · exact .inl e
  · exact .inr ⟨b, o, e, O.lt, fun i hi => by rw [O.cell]; exact g i hi⟩
end Go.Proofs
namespace Go.Proofs
open Go Go.Eng
variable {B : World} {R : Ending → Heap → Prop} {h : Heap}
theorem _root_.Go.Eng.Lj.fr2 {h0 h h' : Heap} {p : Option Addr} {n c r s : Nat} {ws : List Int} (L : Lj h0 h p n c ws) (f : Fr (fun x => x = r ∨ x = s) h h') (hr : r < h0.size) (hs : s < h0.size) : Lj h0 h' p n c ws :=
  ⟨L.sl.fr f fun b o e _ k => by have := L.fresh b o e; omega, L.len, L.room.fr f fun b k1 k2 => by omega, L.le, L.pt, L.fresh, L.all⟩
theorem _root_.Go.Eng.Lj.base {h0 h1 h : Heap} {p : Option Addr} {n c : Nat} {ws : List Int} (L : Lj h1 h p n c ws) (hs : h0.size ≤ h1.size) : Lj h0 h p n c ws :=
  ⟨L.sl, L.len, L.room.mono fun b k => by omega, L.le, L.pt, L.fresh.mono hs, L.all⟩
end Go.Proofs
namespace Go.Eng
open Go
end Go.Eng
namespace Go.Proofs
open Go Go.Eng
variable {B : World} {R : Ending → Heap → Prop} {h : Heap}
theorem _root_.Go.Eng.Lj.frS {h0 h h' : Heap} {p : Option Addr} {n c : Nat} {S : Nat → Prop} {ws : List Int} (L : Lj h0 h p n c ws) (f : Fr S h h') (hs : ∀ x, h0.size ≤ x → ¬ S x) : Lj h0 h' p n c ws :=
  ⟨L.sl.fr f fun b o e _ => hs b (L.fresh b o e), L.len, L.room.fr f fun b k => hs b k, L.le, L.pt, L.fresh, L.all⟩
end Go.Proofs
namespace Go.Proofs
open Go Go.Eng
variable {B : World} {R : Ending → Heap → Prop} {h : Heap}
theorem _root_.Go.Eng.IntsH.lt {p : Option Addr} {xs : List Int} (I : IntsH h p xs) (hx : xs ≠ []) : ∀ a o, p = some ⟨a, o, none⟩ → a < h.size := by
  rcases I.2 with e | ⟨r, q, e, hr, g⟩
  · exact absurd e hx
  · intro a o e2; rw [e] at e2; cases e2; exact hr
end Go.Proofs
namespace Go.Proofs
open Go Go.Eng
variable {B : World} {R : Ending → Heap → Prop} {h : Heap}
theorem IntsH.tail {p : Option Addr} {x : Int} {r : List Int} {n c : Nat} (I : IntsH h p (x :: r)) (hn : (x :: r).length = n) (hc : n ≤ c) : IntsH h (slP p 1 c 1) r := by
  refine ⟨fun y hy => I.1 y (List.mem_cons_of_mem _ hy), ?_⟩
  by_cases h0 : r = []
  · exact .inl h0
  rcases I.2 with e | ⟨a, q, e, ha, g⟩
  · cases e
  · subst e
    have hl : 0 < r.length := List.length_pos_iff.2 h0
    rw [List.length_cons] at hn
    refine .inr ⟨a, q + 1, ?_, ha, fun i hi => ?_⟩
    · unfold slP
      rw [if_neg (by omega)]
      rfl
    · have := g (i + 1) (by rw [List.length_cons]; omega)
      rw [show q + 1 + i = q + (i + 1) by omega, this]; rfl
end Go.Proofs
namespace Go.Proofs
open Go Go.Eng
variable {B : World} {R : Ending → Heap → Prop} {h : Heap}
theorem odd_short {M y q z : Nat} (hM : M % 2 = 1) (h : M * 2 ^ y = q * 2 ^ z) : M ≤ q := by
  rcases Nat.lt_or_ge y z with hc | hc
  · exfalso
    obtain ⟨d, rfl⟩ : ∃ d, z = y + (d + 1) := ⟨z - y - 1, by omega⟩
    rw [Nat.pow_add, Nat.mul_comm (2 ^ y), ← Nat.mul_assoc] at h
    have := Nat.eq_of_mul_eq_mul_right (Nat.pow_pos (by decide)) h
    rw [this, Nat.pow_succ, ← Nat.mul_assoc, Nat.mul_mod_left] at hM
    cases hM
  · obtain ⟨d, rfl⟩ : ∃ d, y = z + d := ⟨y - z, by omega⟩
    rw [Nat.pow_add, Nat.mul_comm (2 ^ z), ← Nat.mul_assoc] at h
    have := Nat.eq_of_mul_eq_mul_right (Nat.pow_pos (by decide)) h
    rw [← this]
    exact Nat.le_mul_of_pos_right _ (Nat.pow_pos (by decide))
/-- A number whose odd part is small has at most one digit. -/
theorem NumS.short {K : Nat} {neg : Bool} {p : Option Addr} {n : Nat} {e v : Int} (N : NumS K h neg p n e v) {s q z : Nat} (hv : v.natAbs * 2 ^ s = q * 2 ^ z) (hq : q ≤ 67108864) :
    n = 0 ∨ n = 1 ∧ ∃ b o, p = some ⟨b, o, none⟩ ∧ ∃ m : Nat, m < 67108864 ∧ cell? h ⟨b, o, none⟩ = some (.int .i64 (m : Int)) := by
  obtain ⟨M, NI, he, rfl⟩ := N
  have hB : B30 = 1073741824 := rfl
  have hlen := NI.d.len
  by_cases h0 : M = 0
  · subst h0
    rw [digs_zero] at hlen
    exact .inl hlen.symm
  have hpos : 0 < n := by rw [← hlen, digs_ne (by decide) h0]; simp
  have hodd := (NI.pos hpos).1
  rw [digs_val (by decide)] at hodd
  rw [signed_abs, Nat.mul_assoc, ← Nat.pow_add] at hv
  have hM := odd_short hodd hv
  have hM2 : M < 67108864 := by omega
  have hd : digs B30 M = [M] := by
    rw [digs_ne (by decide) h0, hB, Nat.mod_eq_of_lt (by omega), Nat.div_eq_of_lt (by omega), digs_zero]
  refine .inr ⟨by rw [← hlen, hd]; rfl, ?_⟩
  have hs := NI.d.sl
  rw [hd] at hs
  rcases hs with hs | ⟨b, o, cs, h1, h2, h3⟩
  · cases hs
  · exact ⟨b, o, h1, M, hM2, by rw [h2.cell]; have := h3 0 (by simp); rw [Nat.add_zero] at this; exact this⟩
end Go.Proofs
set_option linter.unusedVariables false
namespace Go.Proofs
open Go Go.Eng
theorem fl_fV (b : Int) : Fl (fV b) := by
  refine ⟨fM b, (fX b + 1074).toNat, ?_, ?_⟩
  · unfold fV; rw [signed_abs]
  · have := fM_lt b; omega
theorem cls_zero {b : Int} (fb : isFin b = true) : cls b = 0 ↔ fV b = 0 := by
  rw [fV_zero]
  unfold isFin at fb
  have := of_decide_eq_true fb
  unfold cls fM
  by_cases h0 : fE b = 0
  · rw [h0, if_neg (by omega), if_neg (by omega), if_neg (by omega), if_pos rfl]
    by_cases h1 : fT b = 0
    · rw [h1]; simp
    · rw [if_pos (by omega)]; omega
  · rw [if_neg (by omega), if_neg (by omega), if_pos (by omega), if_neg h0]; omega
end Go.Proofs
namespace Go.Eng
open Go
theorem setRow_own {b : Nat} : ∀ (xs : List Value) (h : Heap) (o : Nat) (cs : Array Value), Own h b cs → o + xs.length ≤ cs.size →
    ∃ cs', Own (setRow h b o xs) b cs' ∧ cs'.size = cs.size ∧ (∀ i (hi : i < xs.length), cs'[o + i]? = some xs[i]) ∧ (∀ i, i < o → cs'[i]? = cs[i]?) ∧ Fr (fun x => x = b) h (setRow h b o xs)
  | [], h, o, cs, O, _ => ⟨cs, O, rfl, fun i hi => absurd hi (by simp), fun _ _ => rfl, Fr.rfl'⟩
  | x :: xs, h, o, cs, O, hl => by
    rw [List.length_cons] at hl
    obtain ⟨cs', O', s', g1, g2, f⟩ := setRow_own xs (setCell h ⟨b, o, none⟩ x) (o + 1) _ (own_set (v := x) (o := o) O) (by rw [Array.size_setIfInBounds]; omega)
    refine ⟨cs', O', by rw [s', Array.size_setIfInBounds], fun i hi => ?_, fun i hi => ?_, Fr.trans fr_setCell f fun x _ e => e⟩
    · match i, hi with
      | 0, _ => rw [Nat.add_zero, g2 o (by omega), Array.getElem?_setIfInBounds_self_of_lt (by omega)]; rfl
      | i + 1, hi =>
        have := g1 i (by rw [List.length_cons] at hi; omega)
        rw [show o + (i + 1) = o + 1 + i by omega, this]; rfl
    · rw [g2 i (by omega), Array.getElem?_setIfInBounds_ne (by omega)]
end Go.Eng
set_option linter.unusedVariables false
namespace Go.Eng
open Go
/-- The block that a pointer points into. -/
def Blk (p : Option Addr) (b : Nat) : Prop := ∃ o, p = some ⟨b, o, none⟩
theorem not_blk_none {b : Nat} : ¬ Blk none b := fun ⟨_, e⟩ => by cases e
theorem blk_some {b b' o : Nat} (h : Blk (some ⟨b, o, none⟩) b') : b' = b := by
  obtain ⟨_, e⟩ := h; cases e; rfl
/-- The cells from p on are vs. -/
def Sv (h : Heap) (p : Option Addr) (vs : List Value) : Prop :=
  vs = [] ∨ ∃ b o cs, p = some ⟨b, o, none⟩ ∧ Own h b cs ∧ ∀ i (hi : i < vs.length), cs[o + i]? = some vs[i]
theorem Sv.fr {h h' : Heap} {p : Option Addr} {vs : List Value} {S : Nat → Prop} (H : Sv h p vs) (f : Fr S h h') (hp : ∀ b, Blk p b → b < h.size → ¬ S b) : Sv h' p vs := by
  rcases H with H | ⟨b, o, cs, h1, h2, h3⟩
  · exact .inl H
  · exact .inr ⟨b, o, cs, h1, h2.fr f (hp b ⟨o, h1⟩ h2.lt), h3⟩
theorem Sv.row {h : Heap} {p : Option Addr} {vs : List Value} (H : Sv h p vs) (hp : Pt p) {n : Nat} (hn : vs.length = n) : rowAt h p (n * 1) vs := by
  rcases hp with hp | ⟨b, o, hp⟩
  · subst hp
    rcases H with H | ⟨b, o, cs, h1, _⟩
    · subst H; rfl
    · cases h1
  · subst hp
    refine ⟨by simp [hn], b, o, rfl, fun i hi => ?_⟩
    rcases H with H | ⟨b', o', cs, h1, h2, h3⟩
    · subst H; exact absurd hi (by simp)
    · cases h1; rw [h2.cell, h3 i hi]
/-- Words that can be read, in a block that T has not. -/
def Rd (h : Heap) (T : Nat → Prop) (p : Option Addr) (ws : List Int) : Prop :=
  (∀ x ∈ ws, I64 x) ∧ (ws = [] ∨ ∃ b o, p = some ⟨b, o, none⟩ ∧ b < h.size ∧ ¬ T b ∧ ∀ i (hi : i < ws.length), cell? h ⟨b, o + i, none⟩ = some (.int .i64 ws[i]))
theorem cell_fr {h h' : Heap} {S : Nat → Prop} {b o : Nat} (f : Fr S h h') (hb : b < h.size) (hs : ¬ S b) : cell? h' ⟨b, o, none⟩ = cell? h ⟨b, o, none⟩ := by
  unfold cell?; rw [f.same b hb hs]
theorem Rd.fr {h h' : Heap} {S T T' : Nat → Prop} {p : Option Addr} {ws : List Int} (H : Rd h T p ws) (f : Fr S h h') (hS : ∀ b, b < h.size → S b → T b) (hT : ∀ b, b < h.size → T' b → T b) : Rd h' T' p ws := by
  refine ⟨H.1, ?_⟩
  rcases H.2 with e | ⟨b, o, e, hb, nT, g⟩
  · exact .inl e
  · exact .inr ⟨b, o, e, Nat.lt_of_lt_of_le hb f.size, fun k => nT (hT b hb k), fun i hi => (cell_fr f hb fun k => nT (hS b hb k)).trans (g i hi)⟩
theorem Rd.ints {h : Heap} {T : Nat → Prop} {p : Option Addr} {ws : List Int} (H : Rd h T p ws) : Go.Proofs.IntsH h p ws := by
  refine ⟨H.1, ?_⟩
  rcases H.2 with e | ⟨b, o, e, hb, _, g⟩
  · exact .inl e
  · exact .inr ⟨b, o, e, hb, g⟩
theorem Room.frT {h h' : Heap} {S T T' : Nat → Prop} {p : Option Addr} {c : Nat} (H : Room h p c fun b => ¬ T b) (f : Fr S h h') (hS : ∀ b, b < h.size → S b → T b) (hT : ∀ b, b < h.size → T' b → T b) : Room h' p c fun b => ¬ T' b := by
  rcases H with e | ⟨b, o, cs, e, O, g, nT⟩
  · exact .inl e
  · exact .inr ⟨b, o, cs, e, O.fr f fun k => nT (hS b O.lt k), g, fun k => nT (hT b O.lt k)⟩
/-- A list that was answered: its cells and its room lie where T is not. -/
structure Out (h : Heap) (T : Nat → Prop) (p : Option Addr) (n c : Nat) (ws : List Int) : Prop where
  len : ws.length = n
  le : n ≤ c
  pt : Pt p
  rd : Rd h T p ws
  room : Room h p c fun b => ¬ T b
theorem Out.fr {h h' : Heap} {S T T' : Nat → Prop} {p : Option Addr} {n c : Nat} {ws : List Int} (H : Out h T p n c ws) (f : Fr S h h') (hS : ∀ b, b < h.size → S b → T b) (hT : ∀ b, b < h.size → T' b → T b) : Out h' T' p n c ws :=
  ⟨H.len, H.le, H.pt, H.rd.fr f hS hT, H.room.frT f hS hT⟩
theorem Lj.out {h0 h : Heap} {p : Option Addr} {n c : Nat} {ws : List Int} (L : Lj h0 h p n c ws) {T : Nat → Prop} (hT : ∀ b, h0.size ≤ b → b < h.size → ¬ T b) : Out h T p n c ws := by
  refine ⟨L.len, L.le, L.pt, ⟨L.all, ?_⟩, ?_⟩
  · rcases L.sl with e | ⟨b, o, cs, e, O, g⟩
    · exact .inl e
    · exact .inr ⟨b, o, e, O.lt, hT b (L.fresh b o e) O.lt, fun i hi => by rw [O.cell]; exact g i hi⟩
  · rcases L.room with e | ⟨b, o, cs, e, O, g, k⟩
    · exact .inl e
    · exact .inr ⟨b, o, cs, e, O, g, hT b k O.lt⟩
/-- All blocks but those from lo to hi. -/
def Off (lo hi : Nat) (b : Nat) : Prop := ¬ (lo ≤ b ∧ b < hi)
theorem Lj.off {h0 h : Heap} {p : Option Addr} {n c : Nat} {ws : List Int} (L : Lj h0 h p n c ws) : Out h (Off h0.size h.size) p n c ws := L.out fun b h1 h2 k => k ⟨h1, h2⟩
theorem Out.off {h h' : Heap} {S : Nat → Prop} {lo hi : Nat} {p : Option Addr} {n c : Nat} {ws : List Int} (H : Out h (Off lo hi) p n c ws) (f : Fr S h h') (hS : ∀ b, lo ≤ b → b < hi → ¬ S b) : Out h' (Off lo hi) p n c ws :=
  H.fr f (fun b _ hs k => hS b k.1 k.2 hs) fun _ _ k => k
theorem Out.ext {h h' : Heap} {T : Nat → Prop} {p : Option Addr} {n c : Nat} {ws : List Int} (H : Out h T p n c ws) (f : Ext h h') : Out h' T p n c ws :=
  H.fr f (fun _ _ k => k.elim) fun _ _ k => k
/-- What Keep holds: the list, and what it was. -/
structure En where
  p : Option Addr
  n : Nat
  c : Nat
  q : Option Addr
  d : Nat
  ws : List Int
abbrev En.v (e : En) : Value := .slice e.p e.n e.c
abbrev En.w (e : En) : Value := .slice e.q e.n e.d
/-- The blocks that Keep itself has. -/
def KB (r : Nat) (pL pW : Option Addr) (b : Nat) : Prop := b = r ∨ Blk pL b ∨ Blk pW b
/-- The blocks of the lists that it holds. -/
def EB (es : List En) (b : Nat) : Prop := ∃ e ∈ es, e.c ≠ 0 ∧ Blk e.p b
def KT (r : Nat) (pL pW : Option Addr) (es : List En) (b : Nat) : Prop := KB r pL pW b ∨ EB es b
def PtB (h : Heap) (p : Option Addr) : Prop := p = none ∨ ∃ b o, p = some ⟨b, o, none⟩ ∧ b < h.size
theorem PtB.pt {h : Heap} {p : Option Addr} (H : PtB h p) : Pt p := by
  rcases H with e | ⟨b, o, e, _⟩
  · exact .inl e
  · exact .inr ⟨b, o, e⟩
theorem PtB.lt {h : Heap} {p : Option Addr} (H : PtB h p) {b : Nat} (hb : Blk p b) : b < h.size := by
  rcases H with e | ⟨b', o, e, hl⟩
  · subst e; exact absurd hb not_blk_none
  · subst e; rw [blk_some hb]; exact hl
theorem PtB.mono {h h' : Heap} {p : Option Addr} (H : PtB h p) (f : h.size ≤ h'.size) : PtB h' p := by
  rcases H with e | ⟨b, o, e, hl⟩
  · exact .inl e
  · exact .inr ⟨b, o, e, Nat.lt_of_lt_of_le hl f⟩
theorem Room.blk {h : Heap} {p : Option Addr} {c : Nat} {S : Nat → Prop} (H : Room h p c S) : Room h p c (Blk p) := by
  rcases H with e | ⟨b, o, cs, e, O, g, _⟩
  · exact .inl e
  · exact .inr ⟨b, o, cs, e, O, g, o, e⟩
theorem Out.blk {h : Heap} {T : Nat → Prop} {p : Option Addr} {n c : Nat} {ws : List Int} (H : Out h T p n c ws) (hc : c ≠ 0) {b : Nat} (hb : Blk p b) : ¬ T b ∧ b < h.size := by
  rcases H.room with e | ⟨b', o, cs, e, O, g, nT⟩
  · exact absurd e hc
  · rw [e] at hb; rw [blk_some hb]; exact ⟨nT, O.lt⟩
structure Kept (h : Heap) (r : Nat) (pL : Option Addr) (cL : Nat) (pW : Option Addr) (cW : Nat) (es : List En) : Prop where
  obj : Own h r #[.slice pL es.length cL, .slice pW es.length cW]
  lL : es.length ≤ cL
  lW : es.length ≤ cW
  ptL : PtB h pL
  ptW : PtB h pW
  vL : Sv h pL (es.map En.v)
  vW : Sv h pW (es.map En.w)
  rL : Room h pL cL (Blk pL)
  rW : Room h pW cW (Blk pW)
  nL : ¬ Blk pL r
  nW : ¬ Blk pW r
  nLW : ∀ b, Blk pL b → ¬ Blk pW b
  ok : ∀ e ∈ es, Out h (KB r pL pW) e.p e.n e.c e.ws ∧ Rd h (KB r pL pW) e.q e.ws
  lim : ∀ e ∈ es, e.n ≤ 1000000
  apart : es.Pairwise fun e f => e.c ≠ 0 → f.c ≠ 0 → ∀ b, Blk e.p b → ¬ Blk f.p b
theorem Kept.new {h : Heap} {r : Nat} (O : Own h r #[.slice none 0 0, .slice none 0 0]) : Kept h r none 0 none 0 [] :=
  ⟨O, Nat.le_refl _, Nat.le_refl _, .inl rfl, .inl rfl, .inl rfl, .inl rfl, .inl rfl, .inl rfl, not_blk_none, not_blk_none, fun _ _ => not_blk_none, fun e he => (by cases he), fun e he => (by cases he), .nil⟩
theorem Kept.lt {h : Heap} {r cL cW : Nat} {pL pW : Option Addr} {es : List En} (K : Kept h r pL cL pW cW es) {b : Nat} (hb : KT r pL pW es b) : b < h.size := by
  rcases hb with (e | e | e) | ⟨e, he, hc, hb⟩
  · rw [e]; exact K.obj.lt
  · exact K.ptL.lt e
  · exact K.ptW.lt e
  · rcases (K.ok e he).1.room with k | ⟨b', o, cs, k, O, _⟩
    · exact absurd k hc
    · rw [k] at hb; rw [blk_some hb]; exact O.lt
theorem Kept.fr {h h' : Heap} {S : Nat → Prop} {r cL cW : Nat} {pL pW : Option Addr} {es : List En} (K : Kept h r pL cL pW cW es) (f : Fr S h h') (hS : ∀ b, b < h.size → ¬ S b) : Kept h' r pL cL pW cW es := by
  have hO : ∀ b cs, Own h b cs → Own h' b cs := fun b cs O => O.fr f (hS b O.lt)
  refine ⟨hO _ _ K.obj, K.lL, K.lW, K.ptL.mono f.size, K.ptW.mono f.size, K.vL.fr f fun b _ hb => hS b hb, K.vW.fr f fun b _ hb => hS b hb, ?_, ?_, K.nL, K.nW, K.nLW, fun e he => ?_, K.lim, K.apart⟩
  · rcases K.rL with k | ⟨b, o, cs, k, O, g⟩
    · exact .inl k
    · exact .inr ⟨b, o, cs, k, hO _ _ O, g⟩
  · rcases K.rW with k | ⟨b, o, cs, k, O, g⟩
    · exact .inl k
    · exact .inr ⟨b, o, cs, k, hO _ _ O, g⟩
  · exact ⟨(K.ok e he).1.fr f (fun b hb k => absurd k (hS b hb)) fun _ _ k => k, (K.ok e he).2.fr f (fun b hb k => absurd k (hS b hb)) fun _ _ k => k⟩
theorem Kept.ext {h h' : Heap} {r cL cW : Nat} {pL pW : Option Addr} {es : List En} (K : Kept h r pL cL pW cW es) (f : Ext h h') : Kept h' r pL cL pW cW es := K.fr f fun _ _ => id
end Go.Eng
set_option linter.unusedVariables false
namespace Go.Proofs
open Go Go.Eng
variable {B : World} {R : Ending → Heap → Prop} {h : Heap}
/-- What a call hands on that keeps some lists. -/
def KeepK (R : Ending → Heap → Prop) (h : Heap) (r : Nat) (pL pW : Option Addr) (es : List En) (k : Nat) : Prop :=
  ∀ pL' cL' pW' cW' es' h', Kept h' r pL' cL' pW' cW' (es ++ es') → es'.length ≤ k → Fr (KB r pL pW) h h' → (∀ b, b < h.size → KB r pL' pW' b → KB r pL pW b) → (∀ b, KT r pL' pW' (es ++ es') b → KT r pL pW es b ∨ h.size ≤ b) → R (.returned (.bool true)) h'
/-- Another heap to begin from, with nothing changed since. -/
theorem KeepK.ext {hS h : Heap} {r k : Nat} {pL pW : Option Addr} {es : List En} (H : KeepK R hS r pL pW es k) (F : Ext hS h) : KeepK R h r pL pW es k :=
  fun pL' cL' pW' cW' es' h' K' l' F' B' Z' => H pL' cL' pW' cW' es' h' K' l' (Fr.trans F.to F' fun _ _ k => k) (fun b hb k => B' b (Nat.lt_of_lt_of_le hb F.size) k) fun b k => (Z' b k).imp id fun k => Nat.le_trans F.size k
end Go.Proofs
set_option linter.unusedVariables false
namespace Go.Eng
open Go
end Go.Eng
namespace Go.Proofs
open Go Go.Eng
/-- An expansion of floats of at most 2^b. -/
structure Good (b : Nat) (xs : List Int) : Prop where
  fin : ∀ x ∈ xs, isFin x = true ∧ (fV x).natAbs ≤ 2 ^ b
  val : vZ 0 (xs.map fV)
theorem Good.nil {b : Nat} : Good b [] := ⟨fun x hx => (by cases hx), trivial⟩
theorem Good.mono {a b : Nat} {xs : List Int} (G : Good a xs) (h : a ≤ b) : Good b xs :=
  ⟨fun x hx => ⟨(G.fin x hx).1, Nat.le_trans (G.fin x hx).2 (Nat.pow_le_pow_right (by decide) h)⟩, G.val⟩
end Go.Proofs
set_option linter.unusedVariables false
/-! A number's parts: the nearest float, then of what is left, till nothing is left. -/
namespace Go.Eng
open Go
theorem rnd_less {r : Int} (h : r ≠ 0) : (r - rndI r).natAbs < r.natAbs := by
  rcases rnd_cases r with e | ⟨j, h1, h2, h3, h4⟩
  · rw [e, Int.sub_self]; show 0 < _; omega
  · have : 0 < 2 ^ j := Nat.pow_pos (by decide)
    omega
def parts (r : Int) : List Int := if h : r = 0 then [] else rndI r :: parts (r - rndI r)
 termination_by r.natAbs
 decreasing_by exact rnd_less h
end Go.Eng
set_option linter.unusedVariables false
namespace Go.Eng
open Go
theorem cn_nz {a : Int} (ha : I64 a) (hn : isNaN a = false) : cnP a ≠ -9223372036854775808 := by
  obtain ⟨s, k, hk, rfl⟩ := as_pat ha hn
  have hz : isNaN 0 = false ∧ isInf 0 = false ∧ fW 0 = 0 ∧ decide ((0 : Int) < 0) = false := ⟨by decide, by decide, by decide, by decide⟩
  unfold cnP addP plusP
  rw [hn, hz.1, hz.2.1, hz.2.2.1, hz.2.2.2]
  by_cases h : k = 9218868437227405312
  · subst h
    have hi : isInf (pat s 9218868437227405312) = true := by cases s <;> decide +kernel
    rw [hi, pat_neg s (by omega)]
    simp only [Bool.or_self, Bool.and_false, Bool.false_and, Bool.false_eq_true, if_false, if_true]
    cases s <;> decide
  · have hf : isFin (pat s k) = true := pat_fin (by omega)
    have hi : isInf (pat s k) = false := (fin_not hf).2
    have hw : fW (pat s k) = if s then -(magK k : Int) else (magK k : Int) := by unfold fW; rw [if_pos hf, fV_mag (by omega)]
    rw [hi, hw, pat_neg s (by omega), Int.add_zero]
    simp only [Bool.or_self, Bool.and_false, Bool.false_and, Bool.false_eq_true, if_false]
    have hab : (if s then -(magK k : Int) else (magK k : Int)).natAbs = magK k := by cases s <;> simp
    rw [hab, rung_mag hk]
    by_cases h0 : k = 0
    · subst h0
      rw [magK_zero]
      cases s <;> decide
    · unfold pat
      split <;> omega
theorem rk_inj {a b : Int} (ha : I64 a) (hb : I64 b) (na : a ≠ -9223372036854775808) (nb : b ≠ -9223372036854775808) (h : rk a = rk b) : a = b := by
  unfold I64 at ha hb
  unfold rk at h
  split at h <;> split at h <;> omega
/-- An interval that was told: ends that are no NaNs, canonical, in order. -/
structure TolS (lo hi : Int) : Prop where
  il : I64 lo
  ih : I64 hi
  nl : isNaN lo = false
  nh : isNaN hi = false
  zl : lo ≠ -9223372036854775808
  zh : hi ≠ -9223372036854775808
  v : vS lo hi = true
theorem TolS.mk' {x y : Int} (ix : I64 x) (iy : I64 y) (nx : isNaN x = false) (ny : isNaN y = false) (h1 : rk x ≤ rk y) (h2 : rk x < 9218868437227405312) (h3 : -9218868437227405312 < rk y) : TolS (cnP x) (cnP y) := by
  obtain ⟨a1, a2, a3⟩ := cn_rk ix nx
  obtain ⟨b1, b2, b3⟩ := cn_rk iy ny
  refine ⟨a3, b3, a2, b2, cn_nz ix nx, cn_nz iy ny, ?_⟩
  unfold vS
  rw [a2, b2, a1, b1, decide_eq_true h1, decide_eq_true h2, decide_eq_true h3]; rfl
end Go.Eng
namespace Go.Proofs
open Go Go.Eng
variable {B : World} {R : Ending → Heap → Prop} {h : Heap}
end Go.Proofs
set_option linter.unusedVariables false
/-! What is told of a number lies on its side of it. -/
namespace Go.Eng
open Go
theorem fin_pat {s : Bool} {k : Nat} (hk : k ≤ 9218868437227405312) (h : isFin (pat s k) = true) : k < 9218868437227405312 := by
  unfold isFin at h
  rw [pat_fE s (by omega), decide_eq_true_eq] at h
  omega
end Go.Eng
set_option linter.unusedVariables false
/-! Products of ends keep the order. -/
namespace Go.Eng
open Go
theorem fin_rk {a : Int} (ia : I64 a) (fa : isFin a = true) : -9218868437227405312 < rk a ∧ rk a < 9218868437227405312 := by
  obtain ⟨s, k, hk, rfl⟩ := as_pat ia (fin_not fa).1
  have hk := fin_pat hk fa
  rw [rk_pat (by omega)]
  cases s <;> simp only [Bool.false_eq_true, if_false, if_true] <;> omega
end Go.Eng
namespace Go.Proofs
open Go Go.Eng
end Go.Proofs
set_option linter.unusedVariables false
/-! Sums of ends keep the order. -/
namespace Go.Eng
open Go
theorem fin_of_rk {a : Int} (ia : I64 a) (na : isNaN a = false) (h1 : -9218868437227405312 < rk a) (h2 : rk a < 9218868437227405312) : isFin a = true := by
  cases hf : isFin a
  · rcases rk_inf ia na hf with h | h <;> omega
  · rfl
end Go.Eng
namespace Go.Proofs
open Go Go.Eng
end Go.Proofs
set_option linter.unusedVariables false
/-! What is told of single floats; what an exact number lies in. -/
namespace Go.Eng
open Go
/-- What is told of a float: one that is no nought below 0. -/
structure PtS (A a : Int) : Prop where
  i : I64 A
  n : isNaN A = false
  z : A ≠ -9223372036854775808
  r : rk A = rk a
theorem PtS.fin {A a : Int} (P : PtS A a) (ia : I64 a) (fa : isFin a = true) : isFin A = true :=
  fin_of_rk P.i P.n (by rw [P.r]; exact (fin_rk ia fa).1) (by rw [P.r]; exact (fin_rk ia fa).2)
theorem PtS.val {A a : Int} (P : PtS A a) (ia : I64 a) (fa : isFin a = true) : fV A = fV a := (fV_rk P.i ia (P.fin ia fa) fa).2.2 P.r
theorem PtS.of {x a : Int} (ix : I64 x) (nx : isNaN x = false) (h : rk x = rk a) : PtS (cnP x) a := by
  obtain ⟨h1, h2, h3⟩ := cn_rk ix nx
  exact ⟨h3, h2, cn_nz ix nx, by rw [h1, h]⟩
end Go.Eng
namespace Go.Proofs
open Go Go.Eng
end Go.Proofs
set_option linter.unusedVariables false
namespace Go.Eng
open Go
end Go.Eng
namespace Go.Proofs
open Go Go.Eng
/-- A product's value, where it is a whole number. -/
theorem mulP_fV {a b V : Int} (fa : isFin a = true) (fb : isFin b = true) {K : Nat} (hK : K ≤ 2045) {W : Nat} (hW : W = 1074) (hV : fV a * fV b = V * ((2 ^ W : Nat) : Int)) (h : V.natAbs < 3 * 2 ^ (51 + K)) : isFin (mulP a b) = true ∧ fV (mulP a b) = rndI V := by
  obtain ⟨a1, a2⟩ := fin_not fa
  obtain ⟨b1, b2⟩ := fin_not fb
  have e : mulP a b = pat (decide (a < 0) ^^ decide (b < 0)) (rung (fV a * fV b).natAbs (-2148)) := by
    unfold mulP timesP zr fW
    rw [a1, a2, b1, b2, fa, fb]; rfl
  have hW0 : 0 < 2 ^ W := Nat.pow_pos (by decide)
  have key : rung (fV a * fV b).natAbs (-2148) = rung V.natAbs (-1074) := by
    rw [hV, Int.natAbs_mul, Int.natAbs_natCast]
    by_cases h0 : V.natAbs = 0
    · rw [h0, Nat.zero_mul, rung_zero2, rung_zero]
    · rw [rung_scale W (-2148) h0, hW]; rfl
  rw [e, key]
  obtain ⟨c1, c2⟩ := rung_fV (decide (a < 0) ^^ decide (b < 0)) hK h
  refine ⟨c1, ?_⟩
  rw [c2]
  by_cases h0 : V = 0
  · subst h0
    rw [show (0 : Int).natAbs = 0 from rfl, R53_zero]
    have : rndI 0 = 0 := rnd_exact Fl.zero
    rw [this]
    cases (decide (a < 0) ^^ decide (b < 0)) <;> rfl
  · have hne : fV a * fV b ≠ 0 := by
      rw [hV]; exact Int.mul_ne_zero h0 (by omega)
    have ha0 : fV a ≠ 0 := fun e => hne (by rw [e, Int.zero_mul])
    have hb0 : fV b ≠ 0 := fun e => hne (by rw [e, Int.mul_zero])
    have sa : decide (fV a < 0) = decide (a < 0) := signed_neg fun k => ha0 (fV_zero.2 k)
    have sb : decide (fV b < 0) = decide (b < 0) := signed_neg fun k => hb0 (fV_zero.2 k)
    have sv : (decide (a < 0) ^^ decide (b < 0)) = decide (V < 0) := by
      rw [← sa, ← sb]
      have hWi : (0 : Int) < ((2 ^ W : Nat) : Int) := by omega
      by_cases ca : fV a < 0 <;> by_cases cb : fV b < 0
      · have h1 : 0 < fV a * fV b := Int.mul_pos_of_neg_of_neg ca cb
        rw [hV] at h1
        have := Int.pos_of_mul_pos_left h1 hWi
        simp [ca, cb]; omega
      · have h1 : fV a * fV b < 0 := Int.mul_neg_of_neg_of_pos ca (by omega)
        rw [hV] at h1
        have : V < 0 := by
          apply Int.lt_of_not_ge
          intro k
          have := Int.mul_nonneg k (Int.le_of_lt hWi)
          omega
        simp [ca, cb, this]
      · have h1 : fV a * fV b < 0 := Int.mul_neg_of_pos_of_neg (by omega) cb
        rw [hV] at h1
        have : V < 0 := by
          apply Int.lt_of_not_ge
          intro k
          have := Int.mul_nonneg k (Int.le_of_lt hWi)
          omega
        simp [ca, cb, this]
      · have h1 : 0 < fV a * fV b := Int.mul_pos (by omega) (by omega)
        rw [hV] at h1
        have : 0 < V := by
          apply Int.lt_of_not_ge
          intro k
          have := Int.mul_nonpos_of_nonpos_of_nonneg k (Int.le_of_lt hWi)
          omega
        simp [ca, cb]; omega
    rw [sv]; rfl
end Go.Proofs
set_option linter.unusedVariables false
namespace Go.Eng
open Go
theorem Dv.mul {i j : Nat} {x y : Int} (a : Dv i x) (b : Dv j y) : Dv (i + j) (x * y) := by
  obtain ⟨z, rfl⟩ := a; obtain ⟨w, rfl⟩ := b
  exact ⟨z * w, by rw [Nat.pow_add, Int.natCast_mul]; ac_rfl⟩
theorem Dv.split {i W : Nat} {x : Int} (a : Dv (i + W) x) : ∃ z, x = z * ((2 ^ W : Nat) : Int) ∧ Dv i z := by
  obtain ⟨z, rfl⟩ := a
  exact ⟨z * ((2 ^ i : Nat) : Int), by rw [Nat.pow_add, Int.natCast_mul, Int.mul_assoc], ⟨z, rfl⟩⟩
end Go.Eng
namespace Go.Proofs
open Go Go.Eng
end Go.Proofs
