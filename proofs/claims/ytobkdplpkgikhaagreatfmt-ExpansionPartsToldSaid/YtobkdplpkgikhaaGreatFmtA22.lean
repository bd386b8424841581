import Derived.Test.YtobkdplpkgikhaaGreatFmtA17
/- Here stand lemmas and contracts, in the order in which they are used. -/
set_option linter.unusedVariables false
namespace Go.Eng
/-- How many bits a number has. -/
def bl (v : Nat) : Nat := if v = 0 then 0 else v.log2 + 1
theorem bl_iff {v k : Nat} (h : v ≠ 0) : bl v = k + 1 ↔ 2 ^ k ≤ v ∧ v < 2 ^ (k + 1) := by
  rw [bl, if_neg h]
  constructor
  · intro e
    have : v.log2 = k := by omega
    exact (Nat.log2_eq_iff h).1 this
  · intro e
    rw [(Nat.log2_eq_iff h).2 e]
theorem bl_lt (v : Nat) : v < 2 ^ bl v := by
  by_cases h : v = 0
  · subst h; simp [bl]
  · have := (bl_iff (k := v.log2) h).1 (by rw [bl, if_neg h]); rw [bl, if_neg h]; exact this.2
theorem bl_le {v : Nat} (h : v ≠ 0) : 2 ^ (bl v - 1) ≤ v := by
  have := (bl_iff (k := v.log2) h).1 (by rw [bl, if_neg h]); rw [bl, if_neg h]; exact this.1
theorem bl_pos {v : Nat} (h : v ≠ 0) : 0 < bl v := by rw [bl, if_neg h]; omega
theorem bl_le_iff {v k : Nat} : bl v ≤ k ↔ v < 2 ^ k := by
  constructor
  · intro h; exact Nat.lt_of_lt_of_le (bl_lt v) (Nat.pow_le_pow_right (by decide) h)
  · intro h
    by_cases h0 : v = 0
    · subst h0; simp [bl]
    · have h1 := bl_le h0
      have h2 : 2 ^ (bl v - 1) < 2 ^ k := by omega
      have := (Nat.pow_lt_pow_iff_right (by decide : 1 < 2)).1 h2
      omega
theorem bl_mono {a b : Nat} (h : a ≤ b) : bl a ≤ bl b := by
  rw [bl_le_iff]; exact Nat.lt_of_le_of_lt h (bl_lt b)
theorem bl_of_lt {v a b : Nat} (h : v < 2 ^ a) (hab : a ≤ b) : bl v ≤ b := Nat.le_trans (bl_le_iff.2 h) hab
theorem bl_half {v : Nat} (h : v ≠ 0) : bl v = 1 + bl (v / 2) := by
  have h1 := bl_lt v
  have h2 := bl_le h
  have h3 := bl_pos h
  obtain ⟨k, hk⟩ : ∃ k, bl v = k + 1 := ⟨bl v - 1, by omega⟩
  rw [hk] at h1 h2 ⊢
  rw [Nat.add_sub_cancel] at h2
  rw [Nat.pow_succ] at h1
  have a : bl (v / 2) ≤ k := bl_le_iff.2 (by omega)
  have b : k ≤ bl (v / 2) := by
    cases k with
    | zero => omega
    | succ k =>
      have : ¬ bl (v / 2) ≤ k := fun hh => by
        have := bl_le_iff.1 hh
        rw [Nat.pow_succ] at h2
        omega
      omega
  omega
theorem bitLen_bl : ∀ x : Nat, x < 2 ^ 64 → Go.Lib.bitLen x = bl x := by
  intro x
  induction x using Nat.strongRecOn with
  | _ x ih =>
    intro hx
    by_cases h0 : x = 0
    · subst h0; simp [bl, Go.Lib.bitLen, Go.Lib.bitLenAux]
    · rw [Go.Lib.bitLen_half x h0 hx, bl_half h0, ih (x / 2) (by omega) (by omega)]
theorem bl_smear {x : Nat} (k : Nat) (h0 : x ≠ 0) : (x ||| x / 2 ^ k) ≠ 0 ∧ bl (x ||| x / 2 ^ k) = bl x := by
  have hge : x ≤ x ||| x / 2 ^ k := Nat.left_le_or
  have hne : (x ||| x / 2 ^ k) ≠ 0 := by omega
  refine ⟨hne, ?_⟩
  have h1 := bl_le h0
  have h2 := bl_lt x
  have h3 := bl_pos h0
  have h4 : x ||| x / 2 ^ k < 2 ^ bl x := Nat.or_lt_two_pow h2 (Nat.lt_of_le_of_lt (Nat.div_le_self _ _) h2)
  have := (bl_iff (v := x ||| x / 2 ^ k) (k := bl x - 1) hne).2 ⟨by omega, by rw [show bl x - 1 + 1 = bl x by omega]; exact h4⟩
  omega
theorem bl_top {L w k : Nat} (hL : L < 2 ^ k) (hw : w ≠ 0) : bl (L + 2 ^ k * w) = k + bl w := by
  have h1 := bl_le hw
  have h2 := bl_lt w
  have h3 := bl_pos hw
  have hne : L + 2 ^ k * w ≠ 0 := by
    have : 0 < 2 ^ k * w := Nat.mul_pos (Nat.pow_pos (by decide)) (by omega)
    omega
  have := (bl_iff (v := L + 2 ^ k * w) (k := k + bl w - 1) hne).2 ⟨?_, ?_⟩
  · omega
  · rw [show k + bl w - 1 = k + (bl w - 1) by omega, Nat.pow_add]
    exact Nat.le_trans (Nat.mul_le_mul_left _ h1) (Nat.le_add_left _ _)
  · rw [show k + bl w - 1 + 1 = k + bl w by omega, Nat.pow_add]
    have : 2 ^ k * (w + 1) ≤ 2 ^ k * 2 ^ bl w := Nat.mul_le_mul_left _ h2
    rw [Nat.mul_add, Nat.mul_one] at this
    omega
end Go.Eng
namespace Go.Proofs
open Go Go.Eng
variable {B : World} {R : Ending → Heap → Prop} {h : Heap}
theorem smear {e : Int} {x : Nat} (ki : Int) (k : Nat) (hki : ki = k) (hk : k < 64) (H : ∃ y : Nat, e = (y : Int) ∧ y < B64 ∧ y ≠ 0 ∧ bl y = bl x) :
    ∃ y : Nat, bitsI .or .u64 e (Int.fdiv e (2 ^ min (Int.toNat ki) IntKind.u64.bits)) = (y : Int) ∧ y < B64 ∧ y ≠ 0 ∧ bl y = bl x := by
  subst hki
  obtain ⟨y, rfl, h1, h2, h3⟩ := H
  have hd : y / 2 ^ k < B64 := Nat.lt_of_le_of_lt (Nat.div_le_self _ _) h1
  obtain ⟨s1, s2⟩ := bl_smear k h2
  exact ⟨_, by rw [fdiv_pow hk, bitsI_or h1 hd], Nat.or_lt_two_pow (n := 64) h1 hd, s1, s2.trans h3⟩
theorem smear2 {e : Int} {x : Nat} (ki : Int) (k : Nat) (hki : ki = k) (hk : k < 32) (H : ∃ y : Nat, e = (y : Int) ∧ y < B64 ∧ y ≠ 0 ∧ bl y = bl x) :
    ∃ y : Nat, bitsI .or .u64 e (Int.fdiv (Int.fdiv e (2 ^ min (Int.toNat ki) IntKind.u64.bits)) (2 ^ min (Int.toNat ki) IntKind.u64.bits)) = (y : Int) ∧ y < B64 ∧ y ≠ 0 ∧ bl y = bl x := by
  subst hki
  obtain ⟨y, rfl, h1, h2, h3⟩ := H
  obtain ⟨s1, s2⟩ := bl_smear (k + k) h2
  have e1 : y / 2 ^ k / 2 ^ k = y / 2 ^ (k + k) := by rw [Nat.div_div_eq_div_mul, Nat.pow_add]
  have hd : y / 2 ^ (k + k) < B64 := Nat.lt_of_le_of_lt (Nat.div_le_self _ _) h1
  exact ⟨_, by rw [fdiv_pow (by omega), fdiv_pow (by omega), e1, bitsI_or h1 hd], Nat.or_lt_two_pow (n := 64) h1 hd, s1, s2.trans h3⟩
/-- nat.bitLen. -/
theorem K167 {px : Option Addr} {n xc vx : Nat} (hx : NatI h px n vx) (H : R (.returned (.int .i64 (bl vx : Int))) h) : Ent Tryz.prog B 135 #[.slice px n xc] R h := by
  obtain ⟨xs, x1, x2, x3, x4, x5⟩ := hx.ex
  have x5 : val B64 xs = vx := x5
  have hlim := hx.lim
  refine F167_ok _ _ _ ⟨fun e => ?_, fun e => ?_⟩
  · rw [i64_in (by omega) (by omega)] at e
    have hn0 : 0 < n := by simp at e; omega
    refine x1.get (n - 1) (by rw [i64_in (by omega) (by omega)]; omega) (by omega) (by omega) ?_
    have dj : xs[n - 1]'(by omega) < B64 := x3.get (by omega)
    have hw : xs[n - 1]'(by omega) ≠ 0 := by
      intro e0
      apply x4
      rw [List.getLast?_eq_getElem?, x2, List.getElem?_eq_getElem (by omega), e0]
    have hv : bl vx = 64 * (n - 1) + bl (xs[n - 1]'(by omega)) := by
      rw [← x5, val_split B64 xs (i := n - 1) (by omega), val_drop _ _ (by omega), List.drop_of_length_le (by omega), pow64]
      show bl (_ + _ * (_ + B64 * 0)) = _
      rw [Nat.mul_zero, Nat.add_zero]
      exact bl_top (val_lt64 (x3.take _) (by rw [List.length_take]; omega)) hw
    refine ⟨by decide, by decide, by decide, by decide, by decide, by decide, by decide, ?_⟩
    obtain ⟨y, e1, e2, e3, e4⟩ := smear2 16 16 rfl (by decide) (smear 16 16 rfl (by decide) (smear 8 8 rfl (by decide) (smear 4 4 rfl (by decide) (smear 2 2 rfl (by decide) (smear 1 1 rfl (by decide) ⟨xs[n - 1]'(by omega), rfl, dj, hw, rfl⟩)))))
    rw [e1]
    refine K205 e2 ⟨_, rfl, ?_⟩
    rw [bitLen_bl y e2, e4]
    have hb : bl (xs[n - 1]'(by omega)) ≤ 64 := bl_le_iff.2 dj
    rw [i64_in (x := (n : Int) - 1) (by omega) (by omega), i64_in (x := ((n : Int) - 1) * 64) (by omega) (by omega), i64_in (by omega) (by omega)]
    rw [hv] at H
    rw [show ((n : Int) - 1) * 64 + ((bl (xs[n - 1]'(by omega)) : Nat) : Int) = ((64 * (n - 1) + bl (xs[n - 1]'(by omega)) : Nat) : Int) by omega]
    exact H
  · rw [i64_in (by omega) (by omega)] at e
    have hn0 : n = 0 := by simp at e; omega
    have : vx = 0 := by rw [← x5, List.eq_nil_of_length_eq_zero (x2.trans hn0)]; rfl
    rw [this] at H
    exact H
end Go.Proofs
namespace Go.Eng
def cmpN (x y : Nat) : Int := if x < y then -1 else if y < x then 1 else 0
theorem val_lt_at {b : Nat} {xs ys : List Nat} {i : Nat} (hb : 0 < b) (dx : Dig b xs) (hi : i < xs.length) (hj : i < ys.length) (hd : val b (xs.drop (i + 1)) = val b (ys.drop (i + 1))) (h : xs[i] < ys[i]) : val b xs < val b ys := by
  rw [val_split b xs (i := i) (by omega), val_split b ys (i := i) (by omega), val_drop b xs hi, val_drop b ys hj, hd]
  have h1 : val b (xs.take i) < b ^ i := by
    have := val_lt (dx.take i); rw [List.length_take, Nat.min_eq_left (by omega)] at this; exact this
  have h2 : b ^ i * (xs[i] + b * val b (ys.drop (i + 1)) + 1) ≤ b ^ i * (ys[i] + b * val b (ys.drop (i + 1))) := Nat.mul_le_mul_left _ (by omega)
  rw [Nat.mul_add, Nat.mul_one] at h2
  omega
end Go.Eng
namespace Go.Proofs
open Go Go.Eng
variable {B : World} {R : Ending → Heap → Prop} {h : Heap}
/-- nat.cmp. -/
theorem K172 {px py : Option Addr} {n m xc yc vx vy : Nat} (hx : NatI h px n vx) (hy : NatI h py m vy) (H : R (.returned (.int .i64 (cmpN vx vy))) h) :
    Ent Tryz.prog B 140 #[.slice px n xc, .slice py m yc] R h := by
  obtain ⟨xs, x1, x2, x3, x4, x5⟩ := hx.ex
  obtain ⟨ys, y1, y2, y3, y4, y5⟩ := hy.ex
  have x5 : val B64 xs = vx := x5
  have y5 : val B64 ys = vy := y5
  have hlim := hx.lim
  have hlt : n < m → vx < vy := fun h => by
    rcases Nat.lt_or_ge vx vy with h1 | h1
    · exact h1
    · have := len_le (b := B64) (by decide) x3 y4 (by rw [x5, y5]; exact h1); omega
  have hgt : m < n → vy < vx := fun h => by
    rcases Nat.lt_or_ge vy vx with h1 | h1
    · exact h1
    · have := len_le (b := B64) (by decide) y3 x4 (by rw [x5, y5]; exact h1); omega
  have short : (n ≠ m ∨ n = 0) → F172_j3 B R px n xc py m yc (0 : Int) (n : Int) (m : Int) true h := by
    intro hc
    refine ⟨fun _ => ⟨fun e => ?_, fun e => ⟨fun e2 => ?_, fun e2 => ?_⟩⟩, fun e => (by cases e)⟩
    · have := hlt (by simp at e; omega)
      rw [cmpN, if_pos this] at H; exact H
    · have := hgt (by simp at e2; omega)
      rw [cmpN, if_neg (by omega), if_pos this] at H; exact H
    · have e1 : n = m := by simp at e e2; omega
      have e0 : n = 0 := by omega
      have z1 : vx = 0 := by rw [← x5, List.eq_nil_of_length_eq_zero (x2.trans e0)]; rfl
      have z2 : vy = 0 := by rw [← y5, List.eq_nil_of_length_eq_zero (y2.trans (by omega))]; rfl
      rw [z1, z2] at H; exact H
  refine F172_ok _ _ _ _ _ _ ⟨fun e => short (.inl (by simp at e; omega)), fun e => ?_⟩
  have enm : n = m := by simp at e; omega
  subst enm
  by_cases h0 : n = 0
  · have : decide ((n : Int) = 0) = true := by simp [h0]
    rw [this]; exact short (.inr h0)
  have : decide ((n : Int) = 0) = false := by simp [h0]
  rw [this]
  refine ⟨fun e => (by cases e), fun _ => ?_⟩
  refine ⟨fun mm vs h' => match vs with
    | [.slice p1 n1 c1, .slice p2 n2 c2, .int _ r, .int _ i] => px = p1 ∧ n = n1 ∧ xc = c1 ∧ py = p2 ∧ n = n2 ∧ yc = c2 ∧ 0 = r ∧ h = h' ∧ i = (mm : Int) ∧ mm < n ∧ val B64 (xs.drop (mm + 1)) = val B64 (ys.drop (mm + 1))
    | _ => False, n - 1, ⟨rfl, rfl, rfl, rfl, rfl, rfl, rfl, rfl, by rw [i64_in (by omega) (by omega)]; omega, by omega, by rw [List.drop_of_length_le (by omega), List.drop_of_length_le (by omega)]⟩, ?_⟩
  rintro mm h' _ _ _ _ _ _ _ _ ⟨rfl, rfl, rfl, rfl, rfl, rfl, rfl, rfl, rfl, hmm, hd⟩ _
  have dx := x3.get (i := mm) (by omega)
  have dy := y3.get (i := mm) (by omega)
  have fin : (mm = 0 ∨ xs[mm]'(by omega) ≠ ys[mm]'(by omega)) → ∀ I : Nat → List Value → Heap → Prop, F172_j35 B R I mm px n xc py n yc (0 : Int) (mm : Int) false h := by
    intro hc I
    refine ⟨fun e => (by cases e), fun _ => ?_⟩
    refine x1.get mm rfl (by omega) (by omega) (y1.get mm rfl (by omega) (by omega) ?_)
    by_cases hl : xs[mm]'(by omega) < ys[mm]'(by omega)
    · have hv := val_lt_at (b := B64) (by decide) x3 (by omega) (by omega) hd hl
      rw [x5, y5] at hv
      have : decide (((xs[mm]'(by omega) : Nat) : Int) < ((ys[mm]'(by omega) : Nat) : Int)) = true := by simp; omega
      rw [this]
      refine ⟨fun _ => ?_, fun e => (by cases e)⟩
      rw [cmpN, if_pos hv] at H; exact H
    · have : decide (((xs[mm]'(by omega) : Nat) : Int) < ((ys[mm]'(by omega) : Nat) : Int)) = false := by simp; omega
      rw [this]
      refine ⟨fun e => (by cases e), fun _ => ?_⟩
      refine x1.get mm rfl (by omega) (by omega) (y1.get mm rfl (by omega) (by omega) ?_)
      by_cases hg : ys[mm]'(by omega) < xs[mm]'(by omega)
      · have hv := val_lt_at (b := B64) (by decide) y3 (by omega) (by omega) hd.symm hg
        rw [x5, y5] at hv
        have : decide (((ys[mm]'(by omega) : Nat) : Int) < ((xs[mm]'(by omega) : Nat) : Int)) = true := by simp; omega
        rw [this]
        refine ⟨fun _ => ?_, fun e => (by cases e)⟩
        rw [cmpN, if_neg (by omega), if_pos hv] at H; exact H
      · have he : xs[mm]'(by omega) = ys[mm]'(by omega) := by omega
        have hm0 : mm = 0 := by rcases hc with h | h; exact h; exact absurd he h
        have : decide (((ys[mm]'(by omega) : Nat) : Int) < ((xs[mm]'(by omega) : Nat) : Int)) = false := by simp; omega
        rw [this]
        refine ⟨fun e => (by cases e), fun _ => ?_⟩
        have hv : vx = vy := by
          rw [← x5, ← y5, val_split B64 xs (i := mm) (by omega), val_split B64 ys (i := mm) (by omega), val_drop _ xs (by omega), val_drop _ ys (by omega), hd, he, show xs.take mm = [] by rw [hm0]; rfl, show ys.take mm = [] by rw [hm0]; rfl]
        rw [hv, cmpN, if_neg (by omega), if_neg (by omega)] at H; exact H
  refine ⟨fun e => ?_, fun e => fin (.inl (by simp at e; omega)) _⟩
  have hm0 : 0 < mm := by simp at e; omega
  refine x1.get mm rfl (by omega) (by omega) (y1.get mm rfl (by omega) (by omega) ?_)
  by_cases he : xs[mm]'(by omega) = ys[mm]'(by omega)
  · have : decide (((xs[mm]'(by omega) : Nat) : Int) = ((ys[mm]'(by omega) : Nat) : Int)) = true := by simp [he]
    rw [this]
    refine ⟨fun _ => ⟨mm - 1, by omega, rfl, rfl, rfl, rfl, rfl, rfl, rfl, rfl, by rw [i64_in (by omega) (by omega)]; omega, by omega, ?_⟩, fun e => (by cases e)⟩
    rw [show mm - 1 + 1 = mm by omega, val_drop _ xs (by omega), val_drop _ ys (by omega), he, hd]
  · have : decide (((xs[mm]'(by omega) : Nat) : Int) = ((ys[mm]'(by omega) : Nat) : Int)) = false := by simp; omega
    rw [this]
    exact fin (.inr he) _
end Go.Proofs
namespace Go.Eng
open Go
theorem NatI.len {h : Heap} {p : Option Addr} {n v k : Nat} (H : NatI h p n v) (hv : bl v ≤ k) : 64 * (n - 1) < k ∨ n = 0 := by
  obtain ⟨ws, s1, s2, s3, s4, s5⟩ := H.ex
  by_cases hn : n = 0
  · exact .inr hn
  · left
    have hne : ws ≠ [] := fun e => by rw [e] at s2; simp at s2; omega
    have := val_pos (b := 18446744073709551616) hne s4 (by decide)
    rw [s2, s5, show (18446744073709551616 : Nat) = 2 ^ 64 from rfl, ← Nat.pow_mul] at this
    have h2 := bl_le_iff.1 hv
    have h3 : 2 ^ (64 * (n - 1)) < 2 ^ k := by omega
    exact (Nat.pow_lt_pow_iff_right (by decide : 1 < 2)).1 h3
theorem NatI.zero {h : Heap} {p : Option Addr} {n v : Nat} (H : NatI h p n v) : n = 0 ↔ v = 0 := by
  obtain ⟨ws, s1, s2, s3, s4, s5⟩ := H.ex
  constructor
  · intro e; rw [← s5, List.eq_nil_of_length_eq_zero (s2.trans e)]; rfl
  · intro e; rw [e] at s5; rw [← s2, s4.eq_nil (by decide) s5]; rfl
/-- The room of an Int at r is block q; an Int without room has q = r. -/
abbrev Rm (r q : Nat) : Nat → Prop := fun b => b = q ∧ b ≠ r
theorem Dst.block {h h0 : Heap} {p : Option Addr} {c r : Nat} {S : Nat → Prop} (H : Dst h p c (fun b => S b ∨ h0.size ≤ b)) (hr : r < h.size) (h0r : r < h0.size) (hS : ¬ S r) : ∃ q, Dst h p c (Rm r q) ∧ (q = r ∨ S q ∨ h0.size ≤ q) ∧ q < h.size := by
  rcases H.room with e | ⟨b, o, cs, e1, e2, e3, e4⟩
  · exact ⟨r, ⟨H.pt, H.lim, .inl e⟩, .inl rfl, hr⟩
  · refine ⟨b, ⟨H.pt, H.lim, .inr ⟨b, o, cs, e1, e2, e3, rfl, fun e => ?_⟩⟩, .inr e4, e2.lt⟩
    subst e
    rcases e4 with h | h
    · exact hS h
    · omega
/-- A big.Int at block r, its words' room in block q. -/
structure IntAt (h : Heap) (r q : Nat) (v : Int) : Prop where
  lq : q < h.size
  ex : ∃ p n c, Own h r #[.bool (decide (v < 0)), .slice p n c] ∧ NatI h p n v.natAbs ∧ n ≤ c ∧ Dst h p c (Rm r q)
/-- The blank one. -/
def ZeroAt (h : Heap) (r : Nat) : Prop := Own h r #[.bool false, .slice none 0 0]
theorem ZeroAt.int {h : Heap} {r : Nat} (H : ZeroAt h r) : IntAt h r r 0 :=
  ⟨H.lt, none, 0, 0, H, ⟨.inl rfl, by decide, [], Sl.nil, rfl, Dig.nil, by simp [Trim], rfl⟩, by omega, Dst.none⟩
theorem IntAt.lt {h : Heap} {r q : Nat} {v : Int} (H : IntAt h r q v) : r < h.size := by obtain ⟨p, n, c, h1, _⟩ := H.ex; exact h1.lt
theorem NatI.keep {h h' : Heap} {p : Option Addr} {n c v : Nat} {S T : Nat → Prop} (H : NatI h p n v) (D : Dst h p c T) (hc : n ≤ c) (f : Fr S h h') (hq : ∀ b, T b → ¬ S b) : NatI h' p n v := by
  obtain ⟨ws, s1, s2⟩ := H.ex
  by_cases hn : n = 0
  · have : ws = [] := List.eq_nil_of_length_eq_zero (s2.1.trans hn)
    subst this
    exact ⟨H.pt, H.lim, [], Sl.nil, s2⟩
  · rcases D.room with e | ⟨b, o, cs, e1, e2, e3, e4⟩
    · omega
    · exact H.fr f fun b' o' e _ => by rw [e1] at e; cases e; exact hq b e4
theorem Dst.keep {h h' : Heap} {p : Option Addr} {c : Nat} {S T : Nat → Prop} (D : Dst h p c T) (f : Fr S h h') (hq : ∀ b, T b → ¬ S b) : Dst h' p c T :=
  ⟨D.pt, D.lim, D.room.fr f hq⟩
theorem IntAt.fr {h h' : Heap} {r q : Nat} {v : Int} {S : Nat → Prop} (H : IntAt h r q v) (f : Fr S h h') (hr : ¬ S r) (hq : ¬ S q) : IntAt h' r q v := by
  obtain ⟨p, n, c, h1, h2, h3, h4⟩ := H.ex
  have hk : ∀ b, Rm r q b → ¬ S b := fun b hb => hb.1 ▸ hq
  exact ⟨Nat.lt_of_lt_of_le H.lq f.size, p, n, c, h1.fr f hr, h2.keep h4 h3 f hk, h3, h4.keep f hk⟩
theorem IntAt.ext {h h' : Heap} {r q : Nat} {v : Int} (H : IntAt h r q v) (f : Ext h h') : IntAt h' r q v := H.fr f id id
section
variable {h : Heap} {r : Nat} {b0 s0 : Value} {p : Option Addr} {n c : Nat} {bb : Bool}
theorem ldS {K : Option Addr → Nat → Nat → Prop} (H : Own h r #[b0, .slice p n c]) (k : K p n c) :
    isP (some ⟨r, 0, none⟩) fun b2 o3 => isP (some ⟨b2, o3, none⟩) fun b4 o5 => isP (some ⟨b4, o5 + 1, none⟩) fun b6 o7 => ∃ x xn xc, cell? h ⟨b6, o7, none⟩ = some (.slice x xn xc) ∧ K x xn xc :=
  ⟨r, 0, rfl, r, 0, rfl, r, 0 + 1, rfl, p, n, c, H.cell _, k⟩
theorem ldB {K : Bool → Prop} (H : Own h r #[.bool bb, s0]) (k : K bb) :
    isP (some ⟨r, 0, none⟩) fun b2 o3 => isP (some ⟨b2, o3, none⟩) fun b4 o5 => isP (some ⟨b4, o5, none⟩) fun b6 o7 => ∃ x, cell? h ⟨b6, o7, none⟩ = some (.bool x) ∧ K x :=
  ⟨r, 0, rfl, r, 0, rfl, r, 0, rfl, bb, H.cell _, k⟩
theorem stS {K : Heap → Prop} (H : Own h r #[b0, s0]) (k : ∀ h', Own h' r #[b0, .slice p n c] → Fr (fun x => x = r) h h' → K h') :
    isP (some ⟨r, 0, none⟩) fun b2 o3 => isP (some ⟨b2, o3, none⟩) fun b4 o5 => isP (some ⟨b4, o5 + 1, none⟩) fun b6 o7 => stC h b6 o7 (.slice p n c) K :=
  ⟨r, 0, rfl, r, 0, rfl, r, 0 + 1, rfl, H.stC (by simp) rfl fun a b => k _ a b⟩
theorem stB {K : Heap → Prop} (H : Own h r #[b0, s0]) (k : ∀ h', Own h' r #[.bool bb, s0] → Fr (fun x => x = r) h h' → K h') :
    isP (some ⟨r, 0, none⟩) fun b2 o3 => isP (some ⟨b2, o3, none⟩) fun b4 o5 => isP (some ⟨b4, o5, none⟩) fun b6 o7 => stC h b6 o7 (.bool bb) K :=
  ⟨r, 0, rfl, r, 0, rfl, r, 0, rfl, H.stC (by simp) rfl fun a b => k _ a b⟩
end
end Go.Eng
namespace Go.Proofs
open Go Go.Eng
variable {B : World} {R : Ending → Heap → Prop} {h : Heap}
/-- What an operation on Ints hands on: the Int at r, of value v; besides r and the blocks of S only new blocks. -/
def IntK (R : Ending → Heap → Prop) (h0 : Heap) (r : Nat) (S : Nat → Prop) (v : Int) : Prop :=
  ∀ (q : Nat) (h' : Heap), Fr (fun b => b = r ∨ S b) h0 h' → (q = r ∨ S q ∨ h0.size ≤ q) → IntAt h' r q v → R (.returned (.pointer (some ⟨r, 0, none⟩))) h'
/-- What stands in the Int once all is stored. -/
theorem intEnd {h0 h1 h2 : Heap} {r : Nat} {S : Nat → Prop} {v : Int} {p : Option Addr} {n c : Nat} {bb : Bool} (f : Fr S h0 h1) (g : Fr (fun x => x = r) h1 h2) (hr : r < h0.size) (hS : ¬ S r) (hn : n ≤ c) (hN : NatI h1 p n v.natAbs)
    (D : Dst h1 p c (fun b => S b ∨ h0.size ≤ b)) (o : Own h2 r #[.bool bb, .slice p n c]) (hb : bb = decide (v < 0)) (H : IntK R h0 r S v) : R (.returned (.pointer (some ⟨r, 0, none⟩))) h2 := by
  obtain ⟨q, d1, d2, d3⟩ := D.block (r := r) (Nat.lt_of_lt_of_le hr f.size) hr hS
  have hk : ∀ b, Rm r q b → ¬ b = r := fun b hb => hb.2
  subst hb
  exact H q h2 (Fr.trans (f.mono fun _ _ e => .inr e) g fun _ _ e => .inl e) d2 ⟨Nat.lt_of_lt_of_le d3 g.size, p, n, c, o, hN.keep d1 hn g hk, hn, d1.keep g hk⟩
theorem K75 {r q : Nat} {v : Int} (hx : IntAt h r q v) (H : R (.returned (.int .i64 v.sign)) h) : Ent Tryz.prog B 86 #[.pointer (some ⟨r, 0, none⟩)] R h := by
  obtain ⟨p, n, c, h1, h2, h3, h4⟩ := hx.ex
  have hz := h2.zero
  refine F75_ok _ (ldS h1 ⟨fun e => ?_, fun e => ldB h1 ⟨fun e2 => ?_, fun e2 => ?_⟩⟩)
  · have : v = 0 := by simp at e; omega
    rw [this] at H; exact H
  · have : v < 0 := of_decide_eq_true e2
    rw [Int.sign_eq_neg_one_of_neg this] at H; exact H
  · have : 0 < v := by have := of_decide_eq_false e2; simp at e; omega
    rw [Int.sign_eq_one_of_pos this] at H; exact H
theorem K121 {r q : Nat} {v : Int} (hx : IntAt h r q v) (h0 : v ≠ 0) (hb : bl v.natAbs ≤ 1000000) (ht : TabH h) (H : ∀ t m : Nat, v.natAbs = 2 ^ t * (2 * m + 1) → R (.returned (.int .u64 (t : Int))) h) :
    Ent Tryz.prog B 99 #[.pointer (some ⟨r, 0, none⟩)] R h := by
  obtain ⟨p, n, c, h1, h2, h3, h4⟩ := hx.ex
  have := h2.len hb
  exact F121_ok _ (ldS h1 (K163 h2 (by omega) (by omega) ht fun t m e => ⟨_, rfl, H t m e⟩))
theorem K124 {r q : Nat} {v : Int} (hx : IntAt h r q v) (H : R (.returned (.int .i64 (bl v.natAbs : Int))) h) : Ent Tryz.prog B 102 #[.pointer (some ⟨r, 0, none⟩)] R h := by
  obtain ⟨p, n, c, h1, h2, h3, h4⟩ := hx.ex
  exact F124_ok _ (ldS h1 (K167 h2 ⟨_, rfl, H⟩))
end Go.Proofs
namespace Go.Proofs
open Go Go.Eng
variable {B : World} {R : Ending → Heap → Prop} {h : Heap}
theorem dec_nat (x : Nat) : false = decide ((x : Int) < 0) := by
  have : ¬ (x : Int) < 0 := by omega
  simp [this]
theorem sh_abs (v : Int) (s : Nat) : (v * 2 ^ s).natAbs = v.natAbs * 2 ^ s := by rw [Int.natAbs_mul, Int.natAbs_pow]; rfl
theorem sh_neg (v : Int) (s : Nat) : decide (v * 2 ^ s < 0) = decide (v < 0) := by
  have hp : (0 : Int) < 2 ^ s := Int.pow_pos (by decide)
  by_cases hv : v < 0
  · have : v * 2 ^ s < 0 := Int.mul_neg_of_neg_of_pos hv hp
    simp [hv, this]
  · have : 0 ≤ v * 2 ^ s := Int.mul_nonneg (by omega) (by omega)
    have h2 : ¬ v * 2 ^ s < 0 := by omega
    simp [hv, h2]
theorem rm_ne {r q : Nat} : ¬ Rm r q r := fun h => h.2 rfl
/-- Lsh into a blank one. -/
theorem K128f {rz r q s : Nat} {v : Int} (hz : ZeroAt h rz) (hx : IntAt h r q v) (hr : rz ≠ r) (hb : bl v.natAbs ≤ 1000000) (hs : s < 4294967296) (H : IntK R h rz (fun _ => False) (v * 2 ^ s)) :
    Ent Tryz.prog B 106 #[.pointer (some ⟨rz, 0, none⟩), .pointer (some ⟨r, 0, none⟩), .int .u64 (s : Int)] R h := by
  obtain ⟨p, n, c, h1, h2, h3, h4⟩ := hx.ex
  have hl := h2.len hb
  refine F128_ok _ _ _ (ldS hz (ldS h1 (K173f h2 (by omega) hs fun p' n' c' h' f1 f2 f3 f4 => ⟨_, _, _, rfl, ?_⟩)))
  have hz' : Own h' rz _ := hz.fr f1 id
  refine stS hz' fun h2' o2 fr2 => ldB (h1.fr (Fr.trans (Ext.to f1) fr2 (S := fun b => b = rz) fun _ _ e => e) (fun e => hr e.symm)) (stB o2 fun h3' o3 fr3 => ?_)
  exact intEnd f1 (Fr.trans fr2 fr3 fun _ _ e => e) hz.lt id f2 (by rw [sh_abs]; exact f3) f4 o3 (sh_neg v s).symm H
/-- Lsh where it is. -/
theorem K128i {r q s : Nat} {v : Int} (hx : IntAt h r q v) (hb : bl v.natAbs ≤ 1000000) (h0 : 0 < s) (hs : s < 4294967296) (H : IntK R h r (Rm r q) (v * 2 ^ s)) :
    Ent Tryz.prog B 106 #[.pointer (some ⟨r, 0, none⟩), .pointer (some ⟨r, 0, none⟩), .int .u64 (s : Int)] R h := by
  obtain ⟨p, n, c, h1, h2, h3, h4⟩ := hx.ex
  have hl := h2.len hb
  refine F128_ok _ _ _ (ldS h1 (ldS h1 (K173i h4 h2 (by omega) h0 hs fun p' n' c' h' f1 f2 f3 f4 => ⟨_, _, _, rfl, ?_⟩)))
  refine stS (h1.fr f1 rm_ne) fun h2' o2 fr2 => ldB o2 (stB o2 fun h3' o3 fr3 => ?_)
  exact intEnd f1 (Fr.trans fr2 fr3 fun _ _ e => e) h1.lt rm_ne f2 (by rw [sh_abs]; exact f3) f4 o3 (sh_neg v s).symm H
/-- Rsh of what is not negative, into a blank one. -/
theorem K122f {rz r q s : Nat} {v : Nat} (hz : ZeroAt h rz) (hx : IntAt h r q v) (hb : bl v ≤ 1000000) (hs : s < 4294967296) (H : IntK R h rz (fun _ => False) ((v / 2 ^ s : Nat) : Int)) :
    Ent Tryz.prog B 100 #[.pointer (some ⟨rz, 0, none⟩), .pointer (some ⟨r, 0, none⟩), .int .u64 (s : Int)] R h := by
  obtain ⟨p, n, c, h1, h2, h3, h4⟩ := hx.ex
  rw [Int.natAbs_natCast] at h2
  have hl := h2.len hb
  have hd : decide ((v : Int) < 0) = false := by simp
  rw [hd] at h1
  refine F122_ok _ _ _ (ldB h1 ⟨fun e => (by cases e), fun _ => ldS hz (ldS h1 (K165f h2 h3 (by omega) hs fun p' n' c' h' f1 f2 f3 f4 => ⟨_, _, _, rfl, ?_⟩))⟩)
  refine stS (hz.fr f1 id) fun h2' o2 fr2 => stB o2 fun h3' o3 fr3 => ?_
  exact intEnd f1 (Fr.trans fr2 fr3 fun _ _ e => e) hz.lt id f2 f3 f4 o3 (dec_nat _) H
/-- Rsh of what is not negative, where it is. -/
theorem K122i {r q s : Nat} {v : Nat} (hx : IntAt h r q v) (hb : bl v ≤ 1000000) (h0 : 0 < s) (hs : s < 4294967296) (H : IntK R h r (Rm r q) ((v / 2 ^ s : Nat) : Int)) :
    Ent Tryz.prog B 100 #[.pointer (some ⟨r, 0, none⟩), .pointer (some ⟨r, 0, none⟩), .int .u64 (s : Int)] R h := by
  obtain ⟨p, n, c, h1, h2, h3, h4⟩ := hx.ex
  rw [Int.natAbs_natCast] at h2
  have hl := h2.len hb
  have hd : decide ((v : Int) < 0) = false := by simp
  rw [hd] at h1
  refine F122_ok _ _ _ (ldB h1 ⟨fun e => (by cases e), fun _ => ldS h1 (ldS h1 (K165i h4 h2 h3 (by omega) h0 hs fun p' n' c' h' f1 f2 f3 f4 => ⟨_, _, _, rfl, ?_⟩))⟩)
  refine stS (h1.fr f1 rm_ne) fun h2' o2 fr2 => stB o2 fun h3' o3 fr3 => ?_
  exact intEnd f1 (Fr.trans fr2 fr3 fun _ _ e => e) h1.lt rm_ne f2 f3 f4 o3 (dec_nat _) H
/-- Set of a blank one. -/
theorem K144f {rz r q : Nat} {v : Int} (hz : ZeroAt h rz) (hx : IntAt h r q v) (hr : rz ≠ r) (hb : bl v.natAbs ≤ 1000000) (H : IntK R h rz (fun _ => False) v) :
    Ent Tryz.prog B 98 #[.pointer (some ⟨rz, 0, none⟩), .pointer (some ⟨r, 0, none⟩)] R h := by
  obtain ⟨p, n, c, h1, h2, h3, h4⟩ := hx.ex
  have hl := h2.len hb
  refine F144_ok _ _ (.inr (.inr ⟨_, _, _, _, rfl, rfl, .inr ⟨hr, let ⟨e, he⟩ := hz; ⟨_, e, he⟩, let ⟨e, he⟩ := h1; ⟨_, e, he⟩, ?_⟩⟩))
  refine ⟨fun _ => ldS hz (ldS h1 (K182 (S := fun _ => False) Dst.none h2 (by omega) fun p' c' h' f1 f2 f3 f4 => ⟨_, _, _, rfl, ?_⟩)), fun e => (by cases e)⟩
  refine stS (hz.fr f1 id) fun h2' o2 fr2 => ldB (h1.fr (Fr.trans (Ext.to f1) fr2 (S := fun b => b = rz) fun _ _ e => e) (fun e => hr e.symm)) (stB o2 fun h3' o3 fr3 => ?_)
  exact intEnd f1 (Fr.trans fr2 fr3 fun _ _ e => e) hz.lt id f2 f3 f4 o3 rfl H
/-- Abs into a blank one. -/
theorem K123f {rz r q : Nat} {v : Int} (hz : ZeroAt h rz) (hx : IntAt h r q v) (hr : rz ≠ r) (hb : bl v.natAbs ≤ 1000000) (H : IntK R h rz (fun _ => False) (v.natAbs : Int)) :
    Ent Tryz.prog B 101 #[.pointer (some ⟨rz, 0, none⟩), .pointer (some ⟨r, 0, none⟩)] R h := by
  refine F123_ok _ _ (K144f hz hx hr hb fun q' h' f d hI => ⟨_, rfl, ?_⟩)
  obtain ⟨p, n, c, o1, o2, o3, o4⟩ := hI.ex
  refine stB o1 fun h2 p1 fr => ?_
  have hk : ∀ b, Rm rz q' b → ¬ b = rz := fun b hb => hb.2
  refine H q' h2 (Fr.trans f fr fun _ _ e => .inl e) d ⟨Nat.lt_of_lt_of_le hI.lq fr.size, p, n, c, ?_, ?_, o3, o4.keep fr hk⟩
  · have : decide ((v.natAbs : Int) < 0) = false := by simp
    rw [this]; exact p1
  · rw [Int.natAbs_natCast]; exact o2.keep o4 o3 fr hk
/-- Neg where it is. -/
theorem K74i {r q : Nat} {v : Int} (hx : IntAt h r q v) (H : IntK R h r (Rm r q) (-v)) :
    Ent Tryz.prog B 55 #[.pointer (some ⟨r, 0, none⟩), .pointer (some ⟨r, 0, none⟩)] R h := by
  obtain ⟨p, n, c, h1, h2, h3, h4⟩ := hx.ex
  have hz := h2.zero
  have hk : ∀ b, Rm r q b → ¬ b = r := fun b hb => hb.2
  have same : Ent Tryz.prog B 98 #[.pointer (some ⟨r, 0, none⟩), .pointer (some ⟨r, 0, none⟩)] (fun e h' => e = .returned (.pointer (some ⟨r, 0, none⟩)) ∧ h' = h) h :=
    F144_ok _ _ (.inr (.inr ⟨_, _, _, _, rfl, rfl, .inl ⟨rfl, ⟨fun e => by simp at e, fun _ => ⟨rfl, rfl⟩⟩⟩⟩))
  refine F74_ok _ _ (same.mono fun e h' hh => ?_)
  obtain ⟨rfl, rfl⟩ := hh
  refine ⟨_, rfl, ldS h1 ⟨fun e => ldB h1 (stB h1 fun h2' o fr => ?_), fun e => stB h1 fun h2' o fr => ?_⟩⟩
  · refine H q h2' (fr.mono fun _ _ e => .inl e) (by by_cases e : q = r; exact .inl e; exact .inr (.inl ⟨rfl, e⟩)) ⟨Nat.lt_of_lt_of_le hx.lq fr.size, p, n, c, ?_, ?_, h3, h4.keep fr hk⟩
    · have hv : v ≠ 0 := by simp at e; omega
      have : decide (-v < 0) = !decide (v < 0) := by
        by_cases hneg : v < 0
        · have : ¬ -v < 0 := by omega
          simp [hneg]; omega
        · have : -v < 0 := by omega
          simp [hneg]; omega
      rw [this]; exact o
    · rw [Int.natAbs_neg]; exact h2.keep h4 h3 fr hk
  · refine H q h2' (fr.mono fun _ _ e => .inl e) (by by_cases e : q = r; exact .inl e; exact .inr (.inl ⟨rfl, e⟩)) ⟨Nat.lt_of_lt_of_le hx.lq fr.size, p, n, c, ?_, ?_, h3, h4.keep fr hk⟩
    · have hv : v = 0 := by simp at e; omega
      rw [hv]; exact o
    · rw [Int.natAbs_neg]; exact h2.keep h4 h3 fr hk
/-- Or of what is not negative, where it is. -/
theorem K175i {r q ry qy : Nat} {v w : Nat} (hx : IntAt h r q v) (hy : IntAt h ry qy w) (hq : q ≠ qy) (hb : bl v ≤ 1000000) (hb2 : bl w ≤ 1000000) (h0 : 0 < v ||| w) (H : IntK R h r (Rm r q) ((v ||| w : Nat) : Int)) :
    Ent Tryz.prog B 120 #[.pointer (some ⟨r, 0, none⟩), .pointer (some ⟨r, 0, none⟩), .pointer (some ⟨ry, 0, none⟩)] R h := by
  obtain ⟨p, n, c, h1, h2, h3, h4⟩ := hx.ex
  obtain ⟨py, m, cy, y1, y2, y3, y4⟩ := hy.ex
  rw [Int.natAbs_natCast] at h2 y2
  have hl := h2.len hb
  have hl2 := y2.len hb2
  have hd : decide ((v : Int) < 0) = false := by simp
  have hd2 : decide ((w : Int) < 0) = false := by simp
  rw [hd] at h1
  rw [hd2] at y1
  have hal : Al (Rm r q) p py m := .inr fun b o e hm hb => by
    rcases y4.room with e0 | ⟨b', o', cs, e1, e2, e3, e4⟩
    · omega
    · rw [e1] at e; cases e; exact hq (hb.1.symm.trans e4.1)
  refine F175_ok _ _ _ (ldB h1 (ldB y1 ⟨fun _ => ldB h1 ⟨fun e => (by cases e), fun _ => ldS h1 (ldS h1 (ldS y1 (K168i h4 h2 y2 hal h3 y3 (by omega) (by omega) h0 fun p' n' c' h' f1 f2 f3 f4 => ⟨_, _, _, rfl, ?_⟩)))⟩, fun e => (by cases e)⟩))
  refine stS (h1.fr f1 rm_ne) fun h2' o2 fr2 => stB o2 fun h3' o3 fr3 => ?_
  exact intEnd f1 (Fr.trans fr2 fr3 fun _ _ e => e) h1.lt rm_ne f2 f3 f4 o3 (dec_nat _) H
end Go.Proofs
