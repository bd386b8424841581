import Derived.Test.YtobkdplpkgikhaaGreatFmtA24
import Derived.Test.YtobkdplpkgikhaaGreatFmtA26
/- Here stand lemmas and contracts, in the order in which they are used. -/
set_option linter.unusedVariables false
namespace Go.Eng
open Go
theorem growBy_le (n : Nat) : ∀ (r c : Nat), c ≤ 2 * n + 200 → Builtin.growBy n r c ≤ 2 * n + 200
  | 0, c, h => h
  | r + 1, c, h => by
    unfold Builtin.growBy
    split
    · exact h
    · exact growBy_le n r _ (by omega)
theorem nsc_le {n c : Nat} (h : c < n) : Builtin.nextslicecap n c ≤ 2 * n + 200 := by
  unfold Builtin.nextslicecap
  split
  · omega
  · split
    · omega
    · exact growBy_le n 4 c (by omega)
/-- A list that is being made, in blocks that h0 has not. -/
structure Lst (h0 h : Heap) (p : Option Addr) (n c : Nat) (ws : List Nat) : Prop where
  sl : Sl .i64 h p ws
  len : ws.length = n
  room : Room h p c (fun b => h0.size ≤ b)
  le : n ≤ c
  pt : Pt p
  fresh : Fresh h0 p
theorem Lst.nil {h0 h : Heap} : Lst h0 h none 0 0 [] := ⟨Sl.nil, rfl, .inl rfl, Nat.le_refl _, .inl rfl, Fresh.nil⟩
theorem Lst.fr {h0 h h' : Heap} {p : Option Addr} {n c : Nat} {ws : List Nat} (L : Lst h0 h p n c ws) (f : Ext h h') : Lst h0 h' p n c ws := ⟨L.sl.ext f, L.len, L.room.ext f, L.le, L.pt, L.fresh⟩
theorem ap2 {h0 h : Heap} {p : Option Addr} {n c r e x : Nat} {ws : List Nat} {K : Option Addr → Nat → Nat → Heap → Prop} (L : Lst h0 h p n c ws) (F : Ext h0 h) (hn : n ≤ 1099511627776) (hx : Own h r #[.int .i64 (x : Int)])
    (hk : ∀ q c' h', Lst h0 h' q (n + 1) c' (ws ++ [x]) → Ext h0 h' → K q (n + 1) c' h') : apW h p n c (some ⟨r, 0, none⟩) 1 1 8 e #[.int .i64 0] K := by
  have hs := F.size
  refine ap1 L.sl L.room L.len L.le hx (by decide) (fun hlt => ?_) (by omega) rfl (fun _ => L.pt) fun q c' h' s r le f => ?_
  · have := nsc_le hlt
    omega
  · have r' : Room h' q c' (fun b => h0.size ≤ b) := r.mono fun b hb => by rcases hb with e | e; exact e; omega
    rcases r' with e | ⟨b, o, cs, e, e2, e3, e4⟩
    · omega
    · refine hk q c' h' ⟨s, by simp [L.len], .inr ⟨b, o, cs, e, e2, e3, e4⟩, le, .inr ⟨b, o, e⟩, fun b' o' e' => ?_⟩ (Fr.trans F f fun x hx e => by omega)
      rw [e] at e'; cases e'; exact e4
theorem tdB (s : Nat) : Int.tdiv (s : Int) (1073741824 : Int) = ((s / 1073741824 : Nat) : Int) := by rw [Int.tdiv_eq_ediv_of_nonneg (by omega)]; rfl
theorem tmB (s : Nat) : Int.tmod (s : Int) (1073741824 : Int) = ((s % 1073741824 : Nat) : Int) := by rw [Int.tmod_eq_emod_of_nonneg (by omega)]; rfl
theorem td30' (s : Nat) : Int.tdiv (s : Int) (30 : Int) = ((s / 30 : Nat) : Int) := by rw [Int.tdiv_eq_ediv_of_nonneg (by omega)]; rfl
theorem tm30 (s : Nat) : Int.tmod (s : Int) (30 : Int) = ((s % 30 : Nat) : Int) := by rw [Int.tmod_eq_emod_of_nonneg (by omega)]; rfl
theorem td2 (s : Nat) : Int.tdiv (s : Int) (2 : Int) = ((s / 2 : Nat) : Int) := by rw [Int.tdiv_eq_ediv_of_nonneg (by omega)]; rfl
theorem tm2 (s : Nat) : Int.tmod (s : Int) (2 : Int) = ((s % 2 : Nat) : Int) := by rw [Int.tmod_eq_emod_of_nonneg (by omega)]; rfl
theorem tdN (s t : Nat) : Int.tdiv (s : Int) (t : Int) = ((s / t : Nat) : Int) := by rw [Int.tdiv_eq_ediv_of_nonneg (by omega)]; rfl
theorem tmN (s t : Nat) : Int.tmod (s : Int) (t : Int) = ((s % t : Nat) : Int) := by rw [Int.tmod_eq_emod_of_nonneg (by omega)]; rfl
theorem i64_nat {x : Nat} (h : x < 9223372036854775808) : IntKind.i64.wrap (x : Int) = (x : Int) := wrap_i64_in (by omega) (by omega)
theorem shl1 {r : Nat} (hr : r < 63) : IntKind.i64.wrap ((1 : Int) * 2 ^ min (Int.toNat (r : Int)) IntKind.i64.bits) = ((2 ^ r : Nat) : Int) := by
  have h : min (Int.toNat (r : Int)) IntKind.i64.bits = r := by
    rw [Int.toNat_natCast]; exact Nat.min_eq_left (by have : IntKind.i64.bits = 64 := rfl; omega)
  have hp : 2 ^ r ≤ 2 ^ 62 := Nat.pow_le_pow_right (by decide) (by omega)
  rw [h, Int.one_mul, show (2 : Int) ^ r = ((2 ^ r : Nat) : Int) from by rw [Int.natCast_pow]; rfl]
  exact i64_nat (by omega)
end Go.Eng
namespace Go.Proofs
open Go Go.Eng
variable {B : World} {R : Ending → Heap → Prop} {h : Heap}
/-- Digits to the base 2^30, perhaps with zeros on top. -/
structure DigU (h : Heap) (p : Option Addr) (n : Nat) (ds : List Nat) : Prop where
  pt : Pt p
  sl : Sl .i64 h p ds
  len : ds.length = n
  dig : Dig B30 ds
theorem DigI.u {p : Option Addr} {n : Nat} {ds : List Nat} (H : DigI h p n ds) : DigU h p n ds := ⟨H.pt, H.sl, H.len, H.dig⟩
theorem DigU.ext {h' : Heap} {p : Option Addr} {n : Nat} {ds : List Nat} (H : DigU h p n ds) (f : Ext h h') : DigU h' p n ds := ⟨H.pt, H.sl.ext f, H.len, H.dig⟩
theorem DigI.nil : DigI h none 0 [] := ⟨.inl rfl, Sl.nil, rfl, Dig.nil, by simp [Trim]⟩
/-- plumbref2.trim. -/
theorem K192 {p : Option Addr} {n c : Nat} {ws : List Nat} (U : DigU h p n ws) (hc : n ≤ c) (hn : n ≤ 1099511627776)
    (H : ∀ j ds, DigI h p j ds → val B30 ds = val B30 ws → j ≤ n → R (.returned (.slice p j c)) h) : Ent Tryz.prog B 146 #[.slice p n c] R h := by
  have hl := U.len
  refine F192_ok _ _ _ ⟨fun m vs h' => match vs with
    | [.slice p1 n1 c1, .int _ k] => p = p1 ∧ n = n1 ∧ c = c1 ∧ h = h' ∧ k = (m : Int) ∧ m ≤ n ∧ val B30 (ws.take m) = val B30 ws
    | _ => False, n, ⟨rfl, rfl, rfl, rfl, rfl, Nat.le_refl _, by rw [List.take_of_length_le (by omega)]⟩, ?_⟩
  rintro m h' _ _ _ _ ⟨rfl, rfl, rfl, rfl, rfl, hm, hv⟩ _
  have fin : (m = 0 ∨ ∃ hm0 : m - 1 < ws.length, ws[m - 1] ≠ 0) → slW n c none (some (.int .i64 (m : Int))) none fun l19 l20 l21 => R (.returned (.slice (slP p l19 l21 1) (l20 - l19) (l21 - l19))) h := by
    intro ht
    refine ⟨by omega, by omega, ?_⟩
    show R (.returned (.slice (slP p 0 c 1) ((m : Int).toNat - 0) (c - 0))) h
    rw [slP0 U.pt, Int.toNat_natCast, Nat.sub_zero, Nat.sub_zero]
    refine H m (ws.take m) ⟨U.pt, U.sl.take m, by rw [List.length_take]; omega, U.dig.take m, ?_⟩ hv hm
    unfold Trim
    rcases ht with h0 | ⟨hm0, h1⟩
    · subst h0; simp
    · by_cases h00 : m = 0
      · subst h00; simp
      · rw [List.getLast?_eq_getElem?, List.length_take, Nat.min_eq_left (by omega), List.getElem?_take_of_lt (by omega), List.getElem?_eq_getElem hm0]
        simp only [ne_eq, Option.some.injEq]; exact h1
  refine ⟨fun e => ?_, fun e => ⟨fun e1 => (by cases e1), fun _ => fin (.inl ?_)⟩⟩
  · have hm0 : 0 < m := by simp at e; omega
    refine U.sl.get (m - 1) (by rw [i64_in (by omega) (by omega)]; omega) (by omega) (by omega) ⟨fun e1 => ?_, fun e1 => fin (.inr ⟨by omega, ?_⟩)⟩
    · have h0 : ws[m - 1]'(by omega) = 0 := by
        have := of_decide_eq_true e1; omega
      refine ⟨m - 1, by omega, rfl, rfl, rfl, rfl, by rw [i64_in (by omega) (by omega)]; omega, by omega, ?_⟩
      have := val_take_succ B30 ws (i := m - 1) (by omega)
      rw [h0, show m - 1 + 1 = m by omega, Nat.mul_zero, Nat.add_zero] at this
      rw [← this, hv]
    · have := of_decide_eq_false e1; omega
  · simp at e; omega
theorem val_low (b : Nat) (x : List Nat) {n : Nat} (hn : n < x.length) (hx : x.length = n + 1) : val b x = val b (x.take n) + b ^ n * x[n] := by
  have := val_take_succ b x hn
  rw [List.take_of_length_le (by omega)] at this; exact this
/-- plumbref2.Bits. -/
theorem K253 {p : Option Addr} {n c : Nat} {ds : List Nat} (D : DigI h p n ds) (hn : n ≤ 1099511627776) (H : R (.returned (.int .i64 (bl (val B30 ds) : Int))) h) : Ent Tryz.prog B 142 #[.slice p n c] R h := by
  have hl := D.len
  refine F253_ok _ _ _ ⟨fun e => ?_, fun e => ?_⟩
  · have hn0 : n = 0 := by simpa using e
    have : ds = [] := List.eq_nil_of_length_eq_zero (by omega)
    subst this; exact H
  · have hn0 : 0 < n := by simp at e; omega
    have dt := D.dig.get (i := n - 1) (by omega)
    have hB : B30 = 1073741824 := rfl
    have ht : ds[n - 1]'(by omega) ≠ 0 := by
      intro e0
      apply D.trim
      rw [List.getLast?_eq_getElem?, hl, List.getElem?_eq_getElem (by omega), e0]
    have hval : bl (val B30 ds) = 30 * (n - 1) + bl (ds[n - 1]'(by omega)) := by
      rw [val_low B30 ds (n := n - 1) (by omega) (by omega), show B30 ^ (n - 1) = 2 ^ (30 * (n - 1)) from by rw [Nat.pow_mul]]
      refine bl_top ?_ ht
      have := val_lt (D.dig.take (n - 1))
      rw [List.length_take, Nat.min_eq_left (by omega)] at this
      rw [Nat.pow_mul]; exact this
    refine D.sl.get (n - 1) (by rw [i64_in (by omega) (by omega)]; omega) (by omega) (by omega) ?_
    generalize ds[n - 1]'(by omega) = top at *
    have hbt : bl top ≤ 30 := bl_le_iff.2 dt
    refine ⟨fun m vs h' => match vs with
      | [.int _ a, .int _ v] => v = (m : Int) ∧ a + (bl m : Int) = 30 * ((n : Int) - 1) + (bl top : Int) ∧ m < 1073741824 ∧ h = h'
      | _ => False, top, ⟨rfl, ?_, dt, rfl⟩, ?_⟩
    · rw [i64_in (x := (n : Int) - 1) (by omega) (by omega), i64_in (by omega) (by omega)]
    rintro m h' a _ ⟨rfl, ha, hm, rfl⟩ _
    refine ⟨fun e => ⟨by decide, ?_⟩, fun e => ?_⟩
    · have hm0 : m ≠ 0 := by simp at e; omega
      have hh := bl_half hm0
      have hbm : bl m ≤ 30 := bl_le_iff.2 hm
      refine ⟨m / 2, by omega, by rw [td2, i64_nat (by omega)], ?_, by omega, rfl⟩
      rw [i64_in (by omega) (by omega)]; omega
    · have hm0 : m = 0 := by simp at e; omega
      subst hm0
      have : a = (bl (val B30 ds) : Int) := by
        have : bl 0 = 0 := rfl
        omega
      rw [this]; exact H
theorem val_zero_take {b : Nat} {x : List Nat} {i : Nat} (hi : i < x.length) (h0 : val b (x.take i) = 0) (h1 : x[i] = 0) : val b (x.take (i + 1)) = 0 := by
  rw [val_take_succ b x hi, h0, h1]; simp
/-- plumbref2.Low. -/
theorem K190 {p : Option Addr} {n c : Nat} {ds : List Nat} (D : DigU h p n ds) (hn : n ≤ 1099511627776) (H0 : val B30 ds = 0 → R (.returned (.int .i64 (-1 : Int))) h)
    (H : ∀ t m : Nat, val B30 ds = 2 ^ t * (2 * m + 1) → R (.returned (.int .i64 (t : Int))) h) : Ent Tryz.prog B 113 #[.slice p n c] R h := by
  have hl := D.len
  refine F190_ok _ _ _ ⟨fun m vs h' => match vs with
    | [.slice p1 n1 c1, .int _ k] => p = p1 ∧ n = n1 ∧ c = c1 ∧ h = h' ∧ ∃ j : Nat, k = (j : Int) ∧ j ≤ n ∧ m = n - j ∧ val B30 (ds.take j) = 0
    | _ => False, n, ⟨rfl, rfl, rfl, rfl, 0, rfl, by omega, rfl, rfl⟩, ?_⟩
  rintro m h' _ _ _ _ ⟨rfl, rfl, rfl, rfl, j, rfl, hj, rfl, hz⟩ _
  refine ⟨fun e => ?_, fun e => ?_⟩
  · have hjn : j < n := by simp at e; omega
    have dj := D.dig.get (i := j) (by omega)
    have hB : B30 = 1073741824 := rfl
    refine D.sl.get j rfl (by omega) (by omega) ⟨fun e1 => ?_, fun e1 => ?_⟩
    · have hne : ds[j]'(by omega) ≠ 0 := by intro h0; rw [h0] at e1; simp at e1
      refine D.sl.get j rfl (by omega) (by omega) ?_
      have hspl := val_split B30 ds (i := j) (by omega)
      rw [hz, Nat.zero_add, val_drop B30 ds (by omega)] at hspl
      generalize ds[j]'(by omega) = d at *
      generalize val B30 (ds.drop (j + 1)) = rest at *
      refine ⟨fun m vs h2 => match vs with
        | [.int _ a, .int _ v] => v = (m : Int) ∧ h = h2 ∧ 0 < m ∧ ∃ t : Nat, a = 30 * (j : Int) + (t : Int) ∧ d = 2 ^ t * m
        | _ => False, d, ⟨rfl, rfl, by omega, 0, ?_, by simp⟩, ?_⟩
      · rw [i64_in (by omega) (by omega)]; omega
      rintro m h2 a _ ⟨rfl, rfl, hm, t, rfl, hd⟩ _
      have ht : t < 30 := by
        rcases Nat.lt_or_ge t 30 with h | h
        · exact h
        · have : 2 ^ 30 ≤ 2 ^ t := Nat.pow_le_pow_right (by decide) h
          have : 2 ^ t * 1 ≤ 2 ^ t * m := Nat.mul_le_mul_left _ hm
          omega
      refine ⟨by decide, fun e2 => ⟨by decide, ?_⟩, fun e2 => ?_⟩
      · have h2 : m % 2 = 0 := by
          have := of_decide_eq_true e2
          rw [tm2] at this; omega
        have hmd : m ≤ d := by rw [hd]; exact Nat.le_mul_of_pos_left _ (Nat.pow_pos (by decide))
        refine ⟨m / 2, by omega, by rw [td2, i64_nat (by omega)], rfl, by omega, t + 1, by rw [i64_in (by omega) (by omega)]; omega, ?_⟩
        rw [hd, Nat.pow_succ, Nat.mul_assoc]
        congr 1; omega
      · have h2 : m % 2 = 1 := by
          have := of_decide_eq_false e2
          rw [tm2] at this; omega
        have := H (30 * j + t) (m / 2 + 2 ^ (29 - t) * rest) (by
          rw [hspl, hd, show B30 = 2 ^ 30 from rfl, ← Nat.pow_mul, Nat.pow_add, Nat.mul_assoc]
          congr 1
          rw [show (2 : Nat) ^ 30 = 2 ^ t * (2 * 2 ^ (29 - t)) from by rw [← Nat.pow_succ', ← Nat.pow_add]; congr 1; omega]
          have hm2 : m = 2 * (m / 2) + 1 := by omega
          rw [show 2 * (m / 2 + 2 ^ (29 - t) * rest) + 1 = m + 2 * (2 ^ (29 - t) * rest) by omega, Nat.mul_add]
          ac_rfl)
        rw [show (30 : Int) * (j : Int) + (t : Int) = ((30 * j + t : Nat) : Int) by omega]; exact this
    · have h0 : ds[j]'(by omega) = 0 := by simp at e1; exact e1
      exact ⟨n - (j + 1), by omega, rfl, rfl, rfl, rfl, j + 1, by rw [i64_in (by omega) (by omega)]; rfl, by omega, rfl, val_zero_take (by omega) hz h0⟩
  · have hjn : j = n := by simp at e; omega
    subst hjn
    rw [List.take_of_length_le (by omega)] at hz
    exact H0 hz
theorem digit_bit {ds : List Nat} (hd : Dig B30 ds) (i : Nat) (hi : i / 30 < ds.length) : val B30 ds / 2 ^ i % 2 = ds[i / 30] / 2 ^ (i % 30) % 2 := by
  have h1 := val_split B30 ds (i := i / 30) (by omega)
  have h2 := val_lt (hd.take (i / 30))
  rw [List.length_take, Nat.min_eq_left (by omega)] at h2
  rw [val_drop B30 ds hi] at h1
  generalize ds[i / 30] = d at *
  generalize val B30 (ds.drop (i / 30 + 1)) = rest at *
  have hp : 0 < B30 ^ (i / 30) := Nat.pow_pos (by decide)
  have hi' : 2 ^ i = B30 ^ (i / 30) * 2 ^ (i % 30) := by
    rw [show B30 = 2 ^ 30 from rfl, ← Nat.pow_mul, ← Nat.pow_add]; congr 1; omega
  rw [hi', ← Nat.div_div_eq_div_mul, h1, Nat.add_mul_div_left _ _ hp, Nat.div_eq_of_lt h2, Nat.zero_add]
  have h30 : B30 = 2 ^ (i % 30) * (2 * 2 ^ (29 - i % 30)) := by
    rw [← Nat.pow_succ', ← Nat.pow_add, show B30 = 2 ^ 30 from rfl]; congr 1; omega
  rw [h30, Nat.mul_assoc, Nat.add_mul_div_left _ _ (Nat.pow_pos (by decide)), Nat.mul_assoc, Nat.add_mul_mod_self_left]
/-- plumbref2.Bit. -/
theorem K254 {p : Option Addr} {n c : Nat} {ds : List Nat} {i : Int} (D : DigU h p n ds) (hn : n ≤ 1099511627776) (hi : i < 4611686018427387904) (H : R (.returned (.bool (decide (0 ≤ i) && decide (val B30 ds / 2 ^ i.toNat % 2 = 1)))) h) :
    Ent Tryz.prog B 143 #[.slice p n c, .int .i64 i] R h := by
  have hl := D.len
  refine F254_ok _ _ _ _ ⟨fun e => ⟨fun _ => ?_, fun e => (by cases e)⟩, fun e => ?_⟩
  · have : decide (0 ≤ i) = false := by simp at e ⊢; omega
    rw [this] at H; exact H
  · have hi0 : 0 ≤ i := by simp at e; omega
    have hde : decide (0 ≤ i) = true := by simp [hi0]
    rw [hde, Bool.true_and] at H
    obtain ⟨k, rfl⟩ : ∃ k : Nat, i = (k : Int) := ⟨i.toNat, by omega⟩
    rw [Int.toNat_natCast] at H
    rw [td30', i64_nat (by omega)]
    refine ⟨by decide, fun e1 => ?_, fun e1 => ?_⟩
    · have h1 : n ≤ k / 30 := by have := of_decide_eq_true e1; omega
      have h2 : val B30 ds / 2 ^ k = 0 := by
        apply Nat.div_eq_of_lt
        refine Nat.lt_of_lt_of_le (val_lt D.dig) ?_
        rw [hl, show B30 = 2 ^ 30 from rfl, ← Nat.pow_mul]
        exact Nat.pow_le_pow_right (by decide) (by omega)
      rw [h2] at H; exact H
    · have h1 : k / 30 < n := by have := of_decide_eq_false e1; omega
      rw [td30', i64_nat (by omega), tm30]
      refine ⟨by decide, D.sl.get (k / 30) rfl (by omega) (by omega) ⟨by decide, by omega, by decide, ?_⟩⟩
      have hm : min (Int.toNat ((k % 30 : Nat) : Int)) IntKind.i64.bits = k % 30 := by
        rw [Int.toNat_natCast]; exact Nat.min_eq_left (by have : IntKind.i64.bits = 64 := rfl; omega)
      rw [hm, show ((2 : Int) ^ (k % 30)) = ((2 ^ (k % 30) : Nat) : Int) from by rw [Int.natCast_pow]; rfl, Int.fdiv_eq_ediv_of_nonneg _ (Int.natCast_nonneg _), ← Int.natCast_ediv, tm2]
      rw [digit_bit D.dig k (by omega)] at H
      have : decide (((ds[k / 30]'(by omega) / 2 ^ (k % 30) % 2 : Nat) : Int) = 1) = decide (ds[k / 30]'(by omega) / 2 ^ (k % 30) % 2 = 1) := by
        rw [decide_eq_decide]; omega
      rw [this]; exact H
end Go.Proofs
namespace Go.Proofs
open Go Go.Eng
variable {B : World} {R : Ending → Heap → Prop} {h : Heap}
theorem _root_.Go.Eng.Lst.u {h0 h : Heap} {p : Option Addr} {n c : Nat} {ws : List Nat} (L : Lst h0 h p n c ws) (d : Dig B30 ws) : DigU h p n ws := ⟨L.pt, L.sl, L.len, d⟩
theorem divp (v q r : Nat) : v / B30 ^ q / 2 ^ r = v / 2 ^ (30 * q + r) := by
  rw [Nat.div_div_eq_div_mul, show B30 = 2 ^ 30 from rfl, ← Nat.pow_mul, ← Nat.pow_add]
theorem drop_div {ds : List Nat} (hd : Dig B30 ds) (q : Nat) (hq : q ≤ ds.length) : val B30 (ds.drop q) = val B30 ds / B30 ^ q := by
  have h1 := val_split B30 ds hq
  have h2 := val_lt (hd.take q)
  rw [List.length_take, Nat.min_eq_left hq] at h2
  rw [h1, Nat.add_mul_div_left _ _ (Nat.pow_pos (by decide)), Nat.div_eq_of_lt h2, Nat.zero_add]
theorem pow_r {r : Nat} (hr : r < 30) : B30 = 2 ^ r * 2 ^ (30 - r) := by
  rw [← Nat.pow_add]; show 2 ^ 30 = _; congr 1; omega
theorem shr_step {r d V : Nat} (hr : r < 30) : (d + B30 * V) / 2 ^ r = d / 2 ^ r + V % 2 ^ r * 2 ^ (30 - r) + B30 * (V / 2 ^ r) := by
  have hp : 0 < 2 ^ r := Nat.pow_pos (by decide)
  rw [pow_r hr, Nat.mul_assoc, Nat.add_mul_div_left _ _ hp]
  have := Nat.mod_add_div V (2 ^ r)
  generalize V % 2 ^ r = a at *
  generalize V / 2 ^ r = b at *
  rw [← this, Nat.mul_add, Nat.mul_comm (2 ^ (30 - r)) a, Nat.add_assoc]
  congr 1
  congr 1
  ac_rfl
def ShrI (h : Heap) (p : Option Addr) (n c q r : Nat) (ds : List Nat) (m : Nat) (vs : List Value) (h' : Heap) : Prop :=
  match vs with
  | [.slice p1 n1 c1, .slice p2 n2 c2, .int _ u, .int _ i] => p = p1 ∧ n = n1 ∧ c = c1 ∧ u = ((2 ^ r : Nat) : Int) ∧ ∃ (j : Nat) (l : List Nat), i = (j : Int) ∧ j ≤ n ∧ m = n - j ∧ Ext h h' ∧ Lst h h' p2 n2 c2 l ∧ Dig B30 l ∧ q + l.length = j ∧
      val B30 l + B30 ^ l.length * (val B30 (ds.drop j) / 2 ^ r) = val B30 (ds.drop q) / 2 ^ r
  | _ => False
/-- plumbref2.Shr. -/
theorem K191 {p : Option Addr} {n c k : Nat} {ds : List Nat} (D : DigU h p n ds) (hn : n ≤ 1000000000) (hk : k < 4611686018427387904)
    (H : ∀ p' n' c' es h', Ext h h' → Fresh h p' → DigI h' p' n' es → val B30 es = val B30 ds / 2 ^ k → R (.returned (.slice p' n' c')) h') : Ent Tryz.prog B 114 #[.slice p n c, .int .i64 (k : Int)] R h := by
  have hl := D.len
  refine F191_ok _ _ _ _ ⟨by decide, fun e => ?_, fun e => ?_⟩
  · rw [td30', i64_nat (by omega)] at e
    have h1 : n ≤ k / 30 := by have := of_decide_eq_true e; omega
    refine H none 0 0 [] h Fr.rfl' Fresh.nil DigI.nil ?_
    rw [Nat.div_eq_of_lt]; rfl
    refine Nat.lt_of_lt_of_le (val_lt D.dig) ?_
    rw [hl, show B30 = 2 ^ 30 from rfl, ← Nat.pow_mul]
    exact Nat.pow_le_pow_right (by decide) (by omega)
  · rw [td30', i64_nat (by omega)] at e
    have hq : k / 30 < n := by have := of_decide_eq_false e; omega
    rw [td30', i64_nat (by omega), tm30]
    have hr : k % 30 < 30 := by omega
    rw [shl1 (by omega)]
    have hkk : 30 * (k / 30) + k % 30 = k := by omega
    have hgoal : val B30 ds / 2 ^ k = val B30 (ds.drop (k / 30)) / 2 ^ (k % 30) := by
      rw [drop_div D.dig _ (by omega), divp, hkk]
    rw [hgoal] at H
    generalize k / 30 = q at *
    generalize k % 30 = r at *
    have hu : 2 ^ r ≤ 2 ^ 29 := Nat.pow_le_pow_right (by decide) (by omega)
    have hu0 : 0 < 2 ^ r := Nat.pow_pos (by decide)
    refine ⟨by decide, by omega, by decide, ?_⟩
    refine ⟨ShrI h p n c q r ds, n - q, ⟨rfl, rfl, rfl, rfl, q, [], rfl, by omega, rfl, Fr.rfl', Lst.nil, Dig.nil, rfl, ?_⟩, ?_⟩
    · show 0 + 1 * _ = _; omega
    rintro m h' _ _ _ p2 n2 c2 _ _ ⟨rfl, rfl, rfl, rfl, j, l, rfl, hj, rfl, F, L, hdl, hlen, hv⟩ _
    have hln := L.len
    refine ⟨fun e => ?_, fun e => ?_⟩
    · have hjn : j < n := by have := of_decide_eq_true e; omega
      have dj := D.dig.get (i := j) (by omega)
      have hB : B30 = 1073741824 := rfl
      have next : ∀ s : Nat, s = ds[j]'(by omega) / 2 ^ r + val B30 (ds.drop (j + 1)) % 2 ^ r * 2 ^ (30 - r) → ∀ h2, h2 = h' →
          F191_j28 B R (ShrI h p n c q r ds) (n - j) p n c p2 n2 c2 ((2 ^ r : Nat) : Int) (j : Int) (s : Int) h2 := by
        rintro s hs h2 rfl
        have hsb : s < B30 := by
          have h1 : ds[j]'(by omega) / 2 ^ r < 2 ^ (30 - r) := by
            rw [Nat.div_lt_iff_lt_mul hu0, Nat.mul_comm, ← pow_r hr]; exact dj
          have h2 : val B30 (ds.drop (j + 1)) % 2 ^ r < 2 ^ r := Nat.mod_lt _ hu0
          have h3 : (val B30 (ds.drop (j + 1)) % 2 ^ r + 1) * 2 ^ (30 - r) ≤ 2 ^ r * 2 ^ (30 - r) := Nat.mul_le_mul_right _ h2
          rw [← pow_r hr, Nat.add_mul, Nat.one_mul] at h3
          omega
        refine alK fun r35 h36 e35 f35 o35 z35 => ap2 (L.fr f35) (Ext.trans F f35) (by omega) o35 fun q' c' h37 L37 F37 => ?_
        refine ⟨n - (j + 1), by omega, rfl, rfl, rfl, rfl, j + 1, l ++ [s], by rw [i64_in (by omega) (by omega)]; rfl, by omega, rfl, F37, L37, hdl.snoc hsb, by simp; omega, ?_⟩
        rw [val_snoc, List.length_append, List.length_singleton, Nat.pow_succ, Nat.add_assoc, Nat.mul_assoc, ← Nat.mul_add, hs, ← shr_step hr, ← val_drop B30 ds (by omega)]
        exact hv
      refine D.sl.ext F |>.get j rfl (by omega) (by omega) ⟨by omega, fun e2 => ?_, fun e2 => ?_⟩
      · have hj1 : j + 1 < n := by rw [i64_in (by omega) (by omega)] at e2; have := of_decide_eq_true e2; omega
        have dj1 := D.dig.get (i := j + 1) (by omega)
        have hB : B30 = 1073741824 := rfl
        refine D.sl.ext F |>.get (j + 1) (by rw [i64_in (by omega) (by omega)]; rfl) (by omega) (by omega) ⟨by omega, by omega, ?_⟩
        unfold F191_j21
        have hbu : (1073741824 : Int) = ((1073741824 : Nat) : Int) := rfl
        have hdb : 1073741824 / 2 ^ r = 2 ^ (30 - r) := by
          rw [show (1073741824 : Nat) = 2 ^ r * 2 ^ (30 - r) from pow_r hr, Nat.mul_div_cancel_left _ hu0]
        have hp30 : 2 ^ (30 - r) ≤ 2 ^ 30 := Nat.pow_le_pow_right (by decide) (by omega)
        have hmod : ds[j + 1]'(by omega) % 2 ^ r < 2 ^ r := Nat.mod_lt _ hu0
        have hm1 : ds[j + 1]'(by omega) % 2 ^ r * 2 ^ (30 - r) ≤ 2 ^ 30 * 2 ^ 30 := Nat.mul_le_mul (by omega) hp30
        have hdiv : ds[j]'(by omega) / 2 ^ r ≤ ds[j]'(by omega) := Nat.div_le_self _ _
        have hVm : val B30 (ds.drop (j + 1)) % 2 ^ r = ds[j + 1]'(by omega) % 2 ^ r := by
          rw [val_drop B30 ds (by omega), pow_r hr, Nat.mul_assoc, Nat.add_mul_mod_self_left]
        rw [tdN, i64_nat (by omega), tmN, hbu, tdN, hdb, i64_nat (by omega), ← Int.natCast_mul, i64_nat (by omega), ← Int.natCast_add, i64_nat (by omega)]
        exact next _ (by rw [hVm]) _ rfl
      · have hj1 : j + 1 = n := by rw [i64_in (by omega) (by omega)] at e2; have := of_decide_eq_false e2; omega
        have hdiv : ds[j]'(by omega) / 2 ^ r ≤ ds[j]'(by omega) := Nat.div_le_self _ _
        rw [tdN, i64_nat (by omega)]
        refine next _ ?_ _ rfl
        rw [List.drop_of_length_le (by omega)]
        show _ = _ + 0 % 2 ^ r * _
        rw [Nat.zero_mod, Nat.zero_mul, Nat.add_zero]
    · have hjn : j = n := by have := of_decide_eq_false e; omega
      rw [hjn, List.drop_of_length_le (by omega)] at hv
      have hv' : val B30 l = val B30 (ds.drop q) / 2 ^ r := by
        rw [← hv]; show _ = _ + _ * (0 / 2 ^ r); rw [Nat.zero_div, Nat.mul_zero, Nat.add_zero]
      exact K192 (L.u hdl) L.le (by omega) fun j' es D' hes hj' => ⟨_, _, _, rfl, H _ _ _ es _ F L.fresh D' (by rw [hes, hv'])⟩
theorem mkCells_zero (k : Nat) : mkCells #[.int .i64 0] (k * 1) = ((List.replicate k 0).map fun w : Nat => Value.int .i64 (w : Int)).toArray := by
  apply Array.ext
  · simp [mkCells]
  · intro i h1 h2
    simp [mkCells, Nat.mod_one]
/-- A blank list. -/
theorem Lst.zeros {h0 h : Heap} {r k : Nat} {p : Array Value} (hp : p = mkCells #[.int .i64 0] (k * 1)) (O : Own h r p) (hr : h0.size ≤ r) : Lst h0 h (some ⟨r, 0, none⟩) k k (List.replicate k 0) := by
  subst hp
  have hsz : (mkCells #[.int .i64 0] (k * 1)).size = k := by simp [mkCells]
  refine ⟨.inr ⟨r, 0, _, rfl, O.k, fun i hi => ?_⟩, by simp, .inr ⟨r, 0, _, rfl, O, by omega, hr⟩, Nat.le_refl _, pt_some, fun b o e => by cases e; exact hr⟩
  rw [mkCells_zero, Nat.zero_add]
  simp only [List.getElem?_toArray, List.getElem?_map, List.getElem?_eq_getElem hi, Option.map_some]
theorem dig_zeros (k : Nat) : Dig B30 (List.replicate k 0) := fun w hw => by rw [List.eq_of_mem_replicate hw]; decide
/-- plumbref2.Shl. -/
theorem K177 {p : Option Addr} {n c k : Nat} {ds : List Nat} (D : DigU h p n ds) (hn : n ≤ 1000000000) (hk : k ≤ 100000000000)
    (H : ∀ p' n' c' es h', Ext h h' → Fresh h p' → DigI h' p' n' es → val B30 es = val B30 ds * 2 ^ k → R (.returned (.slice p' n' c')) h') : Ent Tryz.prog B 109 #[.slice p n c, .int .i64 (k : Int)] R h := by
  have hl := D.len
  refine F177_ok _ _ _ _ ⟨fun e => ?_, fun e => ?_⟩
  · have hn0 : n = 0 := by have := of_decide_eq_true e; omega
    have : ds = [] := List.eq_nil_of_length_eq_zero (by omega)
    subst this
    refine H none 0 0 [] h Fr.rfl' Fresh.nil DigI.nil ?_
    show 0 = 0 * _; rw [Nat.zero_mul]
  · rw [td30', i64_nat (by omega), tm30, Int.toNat_natCast]
    have hr : k % 30 < 30 := by omega
    rw [shl1 (by omega)]
    have hkk : 2 ^ k = B30 ^ (k / 30) * 2 ^ (k % 30) := by
      rw [show B30 = 2 ^ 30 from rfl, ← Nat.pow_mul, ← Nat.pow_add]; congr 1; omega
    rw [hkk] at H
    have hq : k / 30 ≤ 10000000000 := by omega
    generalize k / 30 = q at *
    generalize k % 30 = r at *
    have hu : 2 ^ r ≤ 2 ^ 29 := Nat.pow_le_pow_right (by decide) (by omega)
    have hu0 : 0 < 2 ^ r := Nat.pow_pos (by decide)
    refine ⟨by decide, by omega, by omega, by omega, by omega, alK fun r3 h4 e3 f3 o3 z3 => ⟨by decide, by omega, ?_⟩⟩
    refine ⟨fun m vs h' => match vs with
      | [.slice p1 n1 c1, .slice p2 n2 c2, .int _ u, .int _ cy, .int _ i] => p = p1 ∧ n = n1 ∧ c = c1 ∧ u = ((2 ^ r : Nat) : Int) ∧ ∃ (j cr : Nat) (l : List Nat), i = (j : Int) ∧ cy = (cr : Int) ∧ cr < 2 ^ r ∧ j ≤ n ∧ m = n - j ∧ Ext h h' ∧ Lst h h' p2 n2 c2 l ∧ Dig B30 l ∧ l.length = q + j ∧
          val B30 l + B30 ^ l.length * (cr + 2 ^ r * val B30 (ds.drop j)) = val B30 ds * (B30 ^ q * 2 ^ r)
      | _ => False, n, ⟨rfl, rfl, rfl, rfl, 0, 0, List.replicate q 0, rfl, rfl, hu0, by omega, rfl, f3, Lst.zeros rfl o3 (by omega), dig_zeros q, by simp, ?_⟩, ?_⟩
    · rw [val_zeros, List.length_replicate, List.drop_zero, Nat.zero_add, Nat.zero_add]
      ac_rfl
    rintro m h' _ _ _ p2 n2 c2 _ _ _ ⟨rfl, rfl, rfl, rfl, j, cr, l, rfl, rfl, hcr, hj, rfl, F, L, hdl, hlen, hv⟩ _
    have hln := L.len
    refine ⟨fun e => ?_, fun e => ?_⟩
    · have hjn : j < n := by have := of_decide_eq_true e; omega
      have dj := D.dig.get (i := j) (by omega)
      have hB : B30 = 1073741824 := rfl
      refine D.sl.ext F |>.get j rfl (by omega) (by omega) ⟨by decide, ?_⟩
      have hvd := val_drop B30 ds (i := j) (by omega)
      generalize ds[j]'(by omega) = d at *
      have hb1 : d * 2 ^ r ≤ 2 ^ 30 * 2 ^ 29 := Nat.mul_le_mul (by omega) hu
      have hb2 : (d + 1) * 2 ^ r ≤ 1073741824 * 2 ^ r := Nat.mul_le_mul_right _ dj
      rw [Nat.add_mul, Nat.one_mul] at hb2
      rw [← Int.natCast_mul, i64_nat (by omega), ← Int.natCast_add, i64_nat (by omega), tmB]
      refine alK fun r19 h20 e19 f19 o19 z19 => ap2 (L.fr f19) (Ext.trans F f19) (by omega) o19 fun q' c' h21 L21 F21 => ⟨by decide, ?_⟩
      rw [tdB]
      have hcr' : (d * 2 ^ r + cr) / 1073741824 < 2 ^ r := by
        rw [Nat.div_lt_iff_lt_mul (by decide)]; omega
      refine ⟨n - (j + 1), by omega, rfl, rfl, rfl, rfl, j + 1, (d * 2 ^ r + cr) / 1073741824, l ++ [(d * 2 ^ r + cr) % 1073741824], by rw [i64_in (by omega) (by omega)]; rfl, by rw [i64_nat (by omega)], hcr', by omega, rfl, F21, L21, hdl.snoc (Nat.mod_lt _ (by decide)), by simp; omega, ?_⟩
      rw [val_snoc, List.length_append, List.length_singleton, Nat.pow_succ, Nat.add_assoc, Nat.mul_assoc, ← Nat.mul_add, ← hv, hvd]
      congr 2
      have := Nat.mod_add_div (d * 2 ^ r + cr) 1073741824
      generalize (d * 2 ^ r + cr) % 1073741824 = a at *
      generalize (d * 2 ^ r + cr) / 1073741824 = b at *
      rw [Nat.mul_add, Nat.mul_add, Nat.mul_comm (2 ^ r) d]
      have e1 : B30 * (2 ^ r * val B30 (ds.drop (j + 1))) = 2 ^ r * (B30 * val B30 (ds.drop (j + 1))) := by ac_rfl
      rw [e1]
      show a + (1073741824 * b + _) = _
      omega
    · have hjn : j = n := by have := of_decide_eq_false e; omega
      rw [hjn, List.drop_of_length_le (by omega)] at hv
      have hv' : val B30 l + B30 ^ l.length * cr = val B30 ds * (B30 ^ q * 2 ^ r) := by
        rw [← hv]; show _ = _ + _ * (cr + 2 ^ r * 0); rw [Nat.mul_zero, Nat.add_zero]
      refine alK fun r26 h27 e26 f26 o26 z26 => ap2 (L.fr f26) (Ext.trans F f26) (by omega) o26 fun q' c' h28 L28 F28 => ?_
      have hd28 : Dig B30 (l ++ [cr]) := hdl.snoc (by show cr < 1073741824; omega)
      exact K192 (L28.u hd28) L28.le (by omega) fun j' es D' hes hj' => ⟨_, _, _, rfl, H _ _ _ es _ F28 L28.fresh D' (by rw [hes, val_snoc, hv'])⟩
def SubI (h : Heap) (pa pb : Option Addr) (na ca nb cb : Nat) (xs ys : List Nat) (m : Nat) (vs : List Value) (h' : Heap) : Prop :=
  match vs with
  | [.slice p1 n1 c1, .slice p2 n2 c2, .slice p3 n3 c3, .int _ cy, .int _ i] => pa = p1 ∧ na = n1 ∧ ca = c1 ∧ pb = p2 ∧ nb = n2 ∧ cb = c2 ∧ ∃ (j cr : Nat) (l : List Nat), i = (j : Int) ∧ cy = (cr : Int) ∧ cr ≤ 1 ∧ j ≤ na ∧ m = na - j ∧ Ext h h' ∧ Lst h h' p3 n3 c3 l ∧ Dig B30 l ∧ l.length = j ∧
      val B30 l + B30 ^ j * val B30 (xs.drop j) + val B30 ys = val B30 xs + B30 ^ j * (val B30 (ys.drop j) + cr)
  | _ => False
/-- plumbref2.Sub. -/
theorem K180 {pa pb : Option Addr} {na nb ca cb : Nat} {xs ys : List Nat} (Da : DigU h pa na xs) (Db : DigU h pb nb ys) (hn : na ≤ 1000000000) (hnb : nb ≤ na) (hle : val B30 ys ≤ val B30 xs)
    (H : ∀ p' n' c' es h', Ext h h' → Fresh h p' → DigI h' p' n' es → val B30 es = val B30 xs - val B30 ys → R (.returned (.slice p' n' c')) h') : Ent Tryz.prog B 112 #[.slice pa na ca, .slice pb nb cb] R h := by
  have hla := Da.len
  have hlb := Db.len
  refine F180_ok _ _ _ _ _ _ ⟨SubI h pa pb na ca nb cb xs ys, na, ⟨rfl, rfl, rfl, rfl, rfl, rfl, 0, 0, [], rfl, rfl, by omega, by omega, rfl, Fr.rfl', Lst.nil, Dig.nil, rfl, ?_⟩, ?_⟩
  · simp only [List.drop_zero, Nat.pow_zero, Nat.one_mul, val]; omega
  rintro m h' _ _ _ _ _ _ p3 n3 c3 _ _ ⟨rfl, rfl, rfl, rfl, rfl, rfl, j, cr, l, rfl, rfl, hcr, hj, rfl, F, L, hdl, hlen, hv⟩ _
  have hln := L.len
  refine ⟨fun e => ?_, fun e => ?_⟩
  · have hjn : j < na := by have := of_decide_eq_true e; omega
    have dj := Da.dig.get (i := j) (by omega)
    have hB : B30 = 1073741824 := rfl
    have hva := val_drop B30 xs (i := j) (by omega)
    have next : ∀ (x : Int) (y s cr' : Nat), x = (xs[j]'(by omega) : Int) - (cr : Int) - (y : Int) → val B30 (ys.drop j) = y + B30 * val B30 (ys.drop (j + 1)) → y < B30 →
        F180_j22 B R (SubI h pa pb na ca nb cb xs ys) (na - j) pa na ca pb nb cb p3 n3 c3 (j : Int) x h' := by
      intro x y s0 cr0 hx hvb hy
      have fin : ∀ (s cr' : Nat), s < B30 → cr' ≤ 1 → s + y + cr = xs[j]'(by omega) + B30 * cr' →
          F180_j29 B R (SubI h pa pb na ca nb cb xs ys) (na - j) pa na ca pb nb cb p3 n3 c3 (cr' : Int) (j : Int) (s : Int) h' := by
        intro s cr' hs hcr' heq
        refine alK fun r37 h38 e37 f37 o37 z37 => ap2 (L.fr f37) (Ext.trans F f37) (by omega) o37 fun q' c' h39 L39 F39 => ?_
        refine ⟨na - (j + 1), by omega, rfl, rfl, rfl, rfl, rfl, rfl, j + 1, cr', l ++ [s], by rw [i64_in (by omega) (by omega)]; rfl, rfl, hcr', by omega, rfl, F39, L39, hdl.snoc hs, by simp; omega, ?_⟩
        rw [val_snoc, hlen, Nat.pow_succ]
        rw [hva, hvb] at hv
        generalize val B30 (xs.drop (j + 1)) = VA at *
        generalize val B30 (ys.drop (j + 1)) = VB at *
        generalize B30 ^ j = P at *
        generalize xs[j]'(by omega) = d at *
        have e1 : P * (s + y + cr) = P * (d + B30 * cr') := by rw [heq]
        have e2 : P * B30 * (VB + cr') = P * (B30 * VB) + P * (B30 * cr') := by rw [Nat.mul_assoc, Nat.mul_add, Nat.mul_add]
        have e3 : P * B30 * VA = P * (B30 * VA) := by rw [Nat.mul_assoc]
        simp only [Nat.mul_add] at hv e1
        rw [e2, e3]
        omega
      refine ⟨fun e1 => ?_, fun e1 => ?_⟩
      · have hneg : x < 0 := of_decide_eq_true e1
        have hxs : x + 1073741824 = ((x + 1073741824).toNat : Int) := by omega
        rw [i64_in (x := x + 1073741824) (by omega) (by omega), hxs]
        exact fin _ 1 (by show _ < 1073741824; omega) (by omega) (by show _ = _ + 1073741824 * 1; omega)
      · have hneg : ¬ x < 0 := of_decide_eq_false e1
        obtain ⟨s, hs⟩ : ∃ s : Nat, x = (s : Int) := ⟨x.toNat, by omega⟩
        rw [hs]
        exact fin s 0 (by show _ < 1073741824; omega) (by omega) (by show _ = _ + 1073741824 * 0; omega)
    refine Da.sl.ext F |>.get j rfl (by omega) (by omega) ⟨fun e2 => ?_, fun e2 => ?_⟩
    · have hjb : j < nb := by have := of_decide_eq_true e2; omega
      have db := Db.dig.get (i := j) (by omega)
      have hB : B30 = 1073741824 := rfl
      refine Db.sl.ext F |>.get j rfl (by omega) (by omega) ?_
      rw [i64_in (x := ((xs[j]'(by omega) : Nat) : Int) - (cr : Int)) (by omega) (by omega), i64_in (by omega) (by omega)]
      exact next _ (ys[j]'(by omega)) 0 0 rfl (val_drop B30 ys (by omega)) db
    · have hjb : nb ≤ j := by have := of_decide_eq_false e2; omega
      rw [i64_in (x := ((xs[j]'(by omega) : Nat) : Int) - (cr : Int)) (by omega) (by omega)]
      refine next _ 0 0 0 (by omega) ?_ (by decide)
      rw [List.drop_of_length_le (by omega), List.drop_of_length_le (by omega)]; rfl
  · have hjn : j = na := by have := of_decide_eq_false e; omega
    subst hjn
    rw [List.drop_of_length_le (l := xs) (by omega), List.drop_of_length_le (l := ys) (by omega)] at hv
    have hlt := val_lt hdl
    rw [hlen] at hlt
    have hv' : val B30 l = val B30 xs - val B30 ys := by
      have h0 : val B30 [] = 0 := rfl
      rw [h0, Nat.mul_zero, Nat.zero_add] at hv
      rcases (by omega : cr = 0 ∨ cr = 1) with h | h
      · subst h; omega
      · subst h; omega
    exact K192 (L.u hdl) L.le (by omega) fun j' es D' hes hj' => ⟨_, _, _, rfl, H _ _ _ es _ F L.fresh D' (by rw [hes, hv'])⟩
end Go.Proofs
namespace Go.Proofs
open Go Go.Eng
variable {B : World} {R : Ending → Heap → Prop} {h : Heap}
def AddI (h : Heap) (pa pb : Option Addr) (na ca nb cb : Nat) (xs ys : List Nat) (m : Nat) (vs : List Value) (h' : Heap) : Prop :=
  match vs with
  | [.slice p1 n1 c1, .slice p2 n2 c2, .slice p3 n3 c3, .int _ cy, .int _ i] => pa = p1 ∧ na = n1 ∧ ca = c1 ∧ pb = p2 ∧ nb = n2 ∧ cb = c2 ∧ ∃ (j cr : Nat) (l : List Nat), i = (j : Int) ∧ cy = (cr : Int) ∧ cr ≤ 1 ∧ (na < j → nb < j → cr = 0) ∧ j ≤ na + nb + 1 ∧ m = na + nb + 2 - j ∧ Ext h h' ∧ Lst h h' p3 n3 c3 l ∧ Dig B30 l ∧ l.length = j ∧
      val B30 l + B30 ^ j * (val B30 (xs.drop j) + val B30 (ys.drop j) + cr) = val B30 xs + val B30 ys
  | _ => False
/-- plumbref2.Add. -/
theorem K178 {pa pb : Option Addr} {na nb ca cb : Nat} {xs ys : List Nat} (Da : DigU h pa na xs) (Db : DigU h pb nb ys) (hna : na ≤ 1000000000) (hnb : nb ≤ 1000000000)
    (H : ∀ p' n' c' es h', Ext h h' → Fresh h p' → DigU h' p' n' es → n' ≤ na + nb + 2 → val B30 es = val B30 xs + val B30 ys → R (.returned (.slice p' n' c')) h') : Ent Tryz.prog B 110 #[.slice pa na ca, .slice pb nb cb] R h := by
  have hla := Da.len
  have hlb := Db.len
  refine F178_ok _ _ _ _ _ _ ⟨AddI h pa pb na ca nb cb xs ys, na + nb + 2, ⟨rfl, rfl, rfl, rfl, rfl, rfl, 0, 0, [], rfl, rfl, by omega, by omega, by omega, rfl, Fr.rfl', Lst.nil, Dig.nil, rfl, ?_⟩, ?_⟩
  · simp only [List.drop_zero, Nat.pow_zero, Nat.one_mul, val]; omega
  rintro m h' _ _ _ _ _ _ p3 n3 c3 _ _ ⟨rfl, rfl, rfl, rfl, rfl, rfl, j, cr, l, rfl, rfl, hcr, hz, hj, rfl, F, L, hdl, hlen, hv⟩ _
  have hln := L.len
  have step : (j < na ∨ j < nb ∨ 0 < cr) → F178_j12 B R (AddI h pa pb na ca nb cb xs ys) (na + nb + 2 - j) pa na ca pb nb cb p3 n3 c3 (cr : Int) (j : Int) true h' := by
    intro hgo
    have last : ∀ (x y s : Nat), s = cr + x + y → val B30 (xs.drop j) = x + B30 * val B30 (xs.drop (j + 1)) → val B30 (ys.drop j) = y + B30 * val B30 (ys.drop (j + 1)) → x < B30 → y < B30 → (na ≤ j → x = 0) → (nb ≤ j → y = 0) →
        F178_j37 B R (AddI h pa pb na ca nb cb xs ys) (na + nb + 2 - j) pa na ca pb nb cb p3 n3 c3 (j : Int) (s : Int) h' := by
      intro x y s hs hxa hyb hx hy hx0 hy0
      have hsl : s < 2147483649 := by
        have : B30 = 1073741824 := rfl
        omega
      rw [F178_j37, tmB]
      refine ⟨by decide, alK fun r44 h45 e44 f44 o44 z44 => ap2 (L.fr f44) (Ext.trans F f44) (by omega) o44 fun q' c' h46 L46 F46 => ⟨by decide, ?_⟩⟩
      rw [tdB]
      have hc' : s / 1073741824 ≤ 1 := by
        have : B30 = 1073741824 := rfl
        omega
      have hjj : j ≤ na + nb := by
        rcases hgo with h1 | h1 | h1
        · omega
        · omega
        · by_cases a1 : na < j
          · by_cases a2 : nb < j
            · have := hz a1 a2; omega
            · omega
          · omega
      refine ⟨na + nb + 2 - (j + 1), by omega, rfl, rfl, rfl, rfl, rfl, rfl, j + 1, s / 1073741824, l ++ [s % 1073741824], by rw [i64_in (by omega) (by omega)]; rfl, by rw [i64_nat (by omega)], hc', ?_, by omega, rfl, F46, L46, hdl.snoc (Nat.mod_lt _ (by decide)), by simp; omega, ?_⟩
      · intro b1 b2
        have := hx0 (by omega)
        have := hy0 (by omega)
        omega
      · rw [val_snoc, hlen, Nat.pow_succ]
        rw [hxa, hyb] at hv
        have hdm := Nat.mod_add_div s 1073741824
        generalize val B30 (xs.drop (j + 1)) = VA at *
        generalize val B30 (ys.drop (j + 1)) = VB at *
        generalize s % 1073741824 = a at *
        generalize s / 1073741824 = b at *
        have hb : B30 = 1073741824 := rfl
        generalize B30 ^ j = P at *
        have e1 : P * (a + B30 * b) = P * (cr + x + y) := by rw [hb, hdm, hs]
        have e2 : P * B30 * (VA + VB + b) = P * (B30 * VA) + P * (B30 * VB) + P * (B30 * b) := by rw [Nat.mul_assoc, Nat.mul_add, Nat.mul_add, Nat.mul_add, Nat.mul_add]
        simp only [Nat.mul_add] at hv e1
        rw [e2]
        omega
    have mid : ∀ (x t : Nat), t = cr + x → val B30 (xs.drop j) = x + B30 * val B30 (xs.drop (j + 1)) → x < B30 → (na ≤ j → x = 0) →
        F178_j25 B R (AddI h pa pb na ca nb cb xs ys) (na + nb + 2 - j) pa na ca pb nb cb p3 n3 c3 (j : Int) (t : Int) h' := by
      intro x t ht hxa hx hx0
      have hb : B30 = 1073741824 := rfl
      refine ⟨fun e2 => ?_, fun e2 => ?_⟩
      · have hjb : j < nb := by have := of_decide_eq_true e2; omega
        have db := Db.dig.get (i := j) (by omega)
        have hB : B30 = 1073741824 := rfl
        refine Db.sl.ext F |>.get j rfl (by omega) (by omega) ?_
        rw [← Int.natCast_add, i64_nat (by omega)]
        exact last x (ys[j]'(by omega)) _ (by omega) hxa (val_drop B30 ys (by omega)) hx db hx0 (by omega)
      · have hjb : nb ≤ j := by have := of_decide_eq_false e2; omega
        refine last x 0 t (by omega) hxa ?_ hx (by decide) hx0 (by omega)
        rw [List.drop_of_length_le (by omega), List.drop_of_length_le (by omega)]; rfl
    refine ⟨fun _ => ⟨fun e2 => ?_, fun e2 => ?_⟩, fun e => (by cases e)⟩
    · have hja : j < na := by have := of_decide_eq_true e2; omega
      have da := Da.dig.get (i := j) (by omega)
      have hB : B30 = 1073741824 := rfl
      have hb : B30 = 1073741824 := rfl
      refine Da.sl.ext F |>.get j rfl (by omega) (by omega) ?_
      rw [← Int.natCast_add, i64_nat (by omega)]
      exact mid (xs[j]'(by omega)) _ rfl (val_drop B30 xs (by omega)) da (by omega)
    · have hja : na ≤ j := by have := of_decide_eq_false e2; omega
      refine mid 0 cr rfl ?_ (by decide) (by omega)
      rw [List.drop_of_length_le (by omega), List.drop_of_length_le (by omega)]; rfl
  have done : na ≤ j → nb ≤ j → cr = 0 → R (.returned (.slice p3 n3 c3)) h' := by
    intro a1 a2 a3
    refine H p3 n3 c3 l h' F L.fresh (L.u hdl) (by omega) ?_
    rw [← hv, List.drop_of_length_le (by omega), List.drop_of_length_le (by omega), a3]
    show _ = _ + _ * (0 + 0 + 0); rw [Nat.add_zero, Nat.mul_zero, Nat.add_zero]
  refine ⟨fun e => ⟨fun _ => step (.inl (by have := of_decide_eq_true e; omega)), fun e => (by cases e)⟩, fun e => ⟨fun e2 => step (.inr (.inl (by have := of_decide_eq_true e2; omega))), fun e2 => ?_⟩⟩
  have a1 : na ≤ j := by have := of_decide_eq_false e; omega
  have a2 : nb ≤ j := by have := of_decide_eq_false e2; omega
  by_cases h0 : 0 < cr
  · have : decide ((0 : Int) < (cr : Int)) = true := by simp; omega
    rw [this]; exact step (.inr (.inr h0))
  · have : decide ((0 : Int) < (cr : Int)) = false := by simp; omega
    rw [this]; exact ⟨fun e => (by cases e), fun _ => done a1 a2 (by omega)⟩
/-- plumbref2.Cmp. -/
theorem K179 {pa pb : Option Addr} {na nb ca cb : Nat} {xs ys : List Nat} (Da : DigI h pa na xs) (Db : DigI h pb nb ys) (hna : na ≤ 1000000000) (hnb : nb ≤ 1000000000)
    (H : R (.returned (.int .i64 (cmpN (val B30 xs) (val B30 ys)))) h) : Ent Tryz.prog B 111 #[.slice pa na ca, .slice pb nb cb] R h := by
  have hla := Da.len
  have hlb := Db.len
  have less : ∀ {x y : List Nat}, Dig B30 x → Trim y → x.length < y.length → val B30 x < val B30 y := by
    intro x y hx ty hl
    have h1 := val_lt hx
    have h2 := val_pos (b := B30) (x := y) (by intro e; rw [e] at hl; simp at hl) ty (by decide)
    have h3 : B30 ^ x.length ≤ B30 ^ (y.length - 1) := Nat.pow_le_pow_right (by decide) (by omega)
    omega
  refine F179_ok _ _ _ _ _ _ ⟨fun e => ⟨fun e1 => ?_, fun e1 => ?_⟩, fun e => ?_⟩
  · have h1 : na < nb := by have := of_decide_eq_true e1; omega
    have := less Da.dig Db.trim (by omega)
    rw [cmpN, if_pos this] at H; exact H
  · have h1 : nb < na := by
      have := of_decide_eq_false e1
      have : ¬ (na : Int) = (nb : Int) := by simpa using e
      omega
    have := less Db.dig Da.trim (by omega)
    rw [cmpN, if_neg (by omega), if_pos this] at H; exact H
  · have hab : na = nb := by
      have : (na : Int) = (nb : Int) := by simpa using e
      omega
    subst hab
    refine ⟨fun m vs h' => match vs with
      | [.slice p1 n1 c1, .slice p2 n2 c2, .int _ i] => pa = p1 ∧ na = n1 ∧ ca = c1 ∧ pb = p2 ∧ na = n2 ∧ cb = c2 ∧ h = h' ∧ i = (m : Int) - 1 ∧ m ≤ na ∧ val B30 (xs.drop m) = val B30 (ys.drop m)
      | _ => False, na, ⟨rfl, rfl, rfl, rfl, rfl, rfl, rfl, by rw [i64_in (by omega) (by omega)], Nat.le_refl _, ?_⟩, ?_⟩
    · rw [List.drop_of_length_le (by omega), List.drop_of_length_le (by omega)]
    rintro m h' _ _ _ _ _ _ _ ⟨rfl, rfl, rfl, rfl, rfl, rfl, rfl, rfl, hm, hv⟩ _
    refine ⟨fun e1 => ?_, fun e1 => ?_⟩
    · have hm0 : 0 < m := by have := of_decide_eq_true e1; omega
      have ea := val_drop B30 xs (i := m - 1) (by omega)
      have eb := val_drop B30 ys (i := m - 1) (by omega)
      rw [show m - 1 + 1 = m by omega] at ea eb
      have sa := val_split B30 xs (i := m - 1) (by omega)
      have sb := val_split B30 ys (i := m - 1) (by omega)
      have la := val_lt (Da.dig.take (m - 1))
      have lb := val_lt (Db.dig.take (m - 1))
      rw [List.length_take, Nat.min_eq_left (by omega)] at la lb
      refine Da.sl.get (m - 1) (by omega) (by omega) (by omega) (Db.sl.get (m - 1) (by omega) (by omega) (by omega) ?_)
      have key : ∀ {x y : Nat}, x < y → ∀ {V T1 T2 P : Nat}, T1 < P → T1 + P * (x + B30 * V) < T2 + P * (y + B30 * V) := by
        intro x y hxy V T1 T2 P hT
        have h1 : P * (x + 1) ≤ P * y := Nat.mul_le_mul_left _ hxy
        rw [Nat.mul_add] at h1
        rw [Nat.mul_add, Nat.mul_add]
        omega
      by_cases h1 : xs[m - 1]'(by omega) < ys[m - 1]'(by omega)
      · have e2 : decide (((xs[m - 1]'(by omega) : Nat) : Int) < ((ys[m - 1]'(by omega) : Nat) : Int)) = true := by simpa using h1
        rw [e2]
        refine ⟨fun _ => ?_, fun e => (by cases e)⟩
        have : val B30 xs < val B30 ys := by rw [sa, sb, ea, eb, hv]; exact key h1 la
        rw [cmpN, if_pos this] at H; exact H
      · have e2 : decide (((xs[m - 1]'(by omega) : Nat) : Int) < ((ys[m - 1]'(by omega) : Nat) : Int)) = false := by simpa using h1
        rw [e2]
        refine ⟨fun e => (by cases e), fun _ => Da.sl.get (m - 1) (by omega) (by omega) (by omega) (Db.sl.get (m - 1) (by omega) (by omega) (by omega) ?_)⟩
        by_cases h2 : ys[m - 1]'(by omega) < xs[m - 1]'(by omega)
        · have e3 : decide (((ys[m - 1]'(by omega) : Nat) : Int) < ((xs[m - 1]'(by omega) : Nat) : Int)) = true := by simpa using h2
          rw [e3]
          refine ⟨fun _ => ?_, fun e => (by cases e)⟩
          have : val B30 ys < val B30 xs := by rw [sa, sb, ea, eb, hv]; exact key h2 lb
          rw [cmpN, if_neg (by omega), if_pos this] at H; exact H
        · have e3 : decide (((ys[m - 1]'(by omega) : Nat) : Int) < ((xs[m - 1]'(by omega) : Nat) : Int)) = false := by simpa using h2
          rw [e3]
          refine ⟨fun e => (by cases e), fun _ => ⟨m - 1, by omega, rfl, rfl, rfl, rfl, rfl, rfl, rfl, by rw [i64_in (by omega) (by omega)]; omega, by omega, ?_⟩⟩
          rw [ea, eb, hv, show xs[m - 1]'(by omega) = ys[m - 1]'(by omega) by omega]
    · have hm0 : m = 0 := by have := of_decide_eq_false e1; omega
      subst hm0
      rw [List.drop_zero, List.drop_zero] at hv
      rw [cmpN, if_neg (by omega), if_neg (by omega)] at H; exact H
/-- plumbref2.From. -/
theorem K161 {v : Nat} (hv : v < 9223372036854775808) (H : ∀ p n c h', Ext h h' → Fresh h p → DigI h' p n (digs B30 v) → n ≤ 3 → R (.returned (.slice p n c)) h') : Ent Tryz.prog B 66 #[.int .i64 (v : Int)] R h := by
  have h3 : ∀ w, w < 9223372036854775808 → (digs B30 w).length ≤ 3 := fun w hw => digs_len (k := 30) rfl (by decide) (by rw [bl_le_iff]; exact Nat.lt_of_lt_of_le hw (by decide))
  refine F161_ok _ ⟨fun m vs h' => match vs with
    | [.int _ x, .slice p n c] => x = (m : Int) ∧ m < 9223372036854775808 ∧ ∃ l, Ext h h' ∧ Lst h h' p n c l ∧ l ++ digs B30 m = digs B30 v
    | _ => False, v, ⟨rfl, hv, [], Fr.rfl', Lst.nil, rfl⟩, ?_⟩
  rintro m h' _ p n c ⟨rfl, hm, l, F, L, hl⟩ _
  have hln := L.len
  have hlen := congrArg List.length hl
  rw [List.length_append] at hlen
  have := h3 v hv
  refine ⟨fun e => ?_, fun e => ?_⟩
  · have hm0 : 0 < m := by have := of_decide_eq_true e; omega
    rw [tmB]
    refine ⟨by decide, alK fun r8 h9 e8 f8 o8 z8 => ap2 (L.fr f8) (Ext.trans F f8) (by omega) o8 fun q' c' h10 L10 F10 => ⟨by decide, ?_⟩⟩
    rw [tdB, i64_nat (by omega)]
    exact ⟨m / 1073741824, Nat.div_lt_self hm0 (by decide), rfl, by omega, _, F10, L10, by rw [← hl]; exact (digs_snoc (by decide) hm0 l).symm⟩
  · have hm0 : m = 0 := by have := of_decide_eq_false e; omega
    subst hm0
    rw [digs_zero, List.append_nil] at hl
    subst hl
    exact H p n c h' F L.fresh ⟨L.pt, L.sl, L.len, digs_dig (by decide) v, digs_trim (by decide) v⟩ (by omega)
end Go.Proofs
namespace Go.Eng
open Go
theorem Dig.set {b : Nat} {l : List Nat} (h : Dig b l) (k x : Nat) (hx : x < b) : Dig b (l.set k x) := fun w hw => by
  rcases List.mem_or_eq_of_mem_set hw with h1 | h1
  · exact h w h1
  · rw [h1]; exact hx
end Go.Eng
namespace Go.Proofs
open Go Go.Eng
variable {B : World} {R : Ending → Heap → Prop} {h : Heap}
end Go.Proofs
