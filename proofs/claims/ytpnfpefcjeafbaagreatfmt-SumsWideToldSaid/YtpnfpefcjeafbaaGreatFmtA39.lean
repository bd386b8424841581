import Derived.Test.YtpnfpefcjeafbaaGreatFmtA38
import Derived.Test.YtpnfpefcjeafbaaGreatFmtA09
import Derived.Test.YtpnfpefcjeafbaaGreatFmtA32
import Derived.Test.YtpnfpefcjeafbaaGreatFmtA26
import Derived.WalkKit
import Derived.Test.YtpnfpefcjeafbaaGreatFmtA12
import Derived.Test.YtpnfpefcjeafbaaGreatFmtA33
/- Here stand lemmas and contracts, in the order in which they are used. -/
set_option linter.unusedVariables false
set_option linter.unusedVariables false
namespace Go.Proofs
open Go Go.Eng
variable {B : World} {R : Ending → Heap → Prop} {h : Heap}
theorem Dst.more {pz : Option Addr} {zc : Nat} {S T : Nat → Prop} (hz : Dst h pz zc S) (hs : ∀ b, S b → T b) : Dst h pz zc T :=
  ⟨hz.pt, hz.lim, by rcases hz.room with e | ⟨b, o, cs, e1, e2, e3, e4⟩; exact .inl e; exact .inr ⟨b, o, cs, e1, e2, e3, hs b e4⟩⟩
/-- Where the tail of what was not yet read stands: behind what was written, or elsewhere. -/
theorem tail_at {h1 h2 : Heap} {px : Option Addr} {b o m xc : Nat} {xs zs : List Nat} (hx : Sl .u64 h1 px xs) (W : Wrote .u64 h1 h2 b o zs) (hz : zs.length = m) (hm : m < xs.length) (hxc : xs.length ≤ xc) (ha : ∀ b' o', px = some ⟨b', o', none⟩ → b' ≠ b ∨ o' = o) :
    ∃ b' o', px = some ⟨b', o', none⟩ ∧ Sl .u64 h2 (some ⟨b', o' + m, none⟩) (xs.drop m) ∧ (b' ≠ b ∨ (b' = b ∧ o' = o)) := by
  have hx0 := hx
  rcases hx with hx | ⟨b', o', cs, e1, e2, e3⟩
  · subst hx; simp at hm
  subst e1
  refine ⟨b', o', rfl, ?_, ?_⟩
  · by_cases hb : b' = b
    · subst hb
      have : o' = o := by have := ha _ _ rfl; omega
      subst this
      have h3 := (W.rest hx0 (by omega)).sl.drop m (m + 1) (fun _ => by omega)
      rw [slP_some (by omega)] at h3
      rw [hz] at h3
      rw [List.drop_append_of_le_length (by omega), List.drop_of_length_le (by omega), List.nil_append] at h3
      exact h3
    · have h3 := (hx0.afterW W (fun b2 o2 e => by cases e; exact hb)).drop m (m + 1) (fun _ => by omega)
      rw [slP_some (by omega)] at h3
      exact h3
  · have := ha _ _ rfl
    by_cases hb : b' = b
    · exact .inr ⟨hb, by omega⟩
    · exact .inl hb
/-- nat.add, into a room that may be either one's. -/
theorem K166m {pz px py : Option Addr} {zn zc n m xc yc vx vy : Nat} {S : Nat → Prop} (hz : Dst h pz zc S) (hx : NatI h px n vx) (hy : NatI h py m vy) (ax : Al S pz px n) (ay : Al S pz py m) (hxc : n ≤ xc) (hyc : m ≤ yc) (ln : n < 1099511627760) (hle : m ≤ n) (H : NatK R h S (vx + vy)) :
    Ent Tryz.prog B 105 #[.slice pz zn zc, .slice px n xc, .slice py m yc] R h := by
  obtain ⟨xs, x1, x2, x3, x4, x5⟩ := hx.ex
  obtain ⟨ys, y1, y2, y3, y4, y5⟩ := hy.ex
  have x5 : val B64 xs = vx := x5
  have y5 : val B64 ys = vy := y5
  refine F166_ok _ _ _ _ _ _ _ _ _ ⟨fun e => by simp at e; omega, fun _ => ⟨fun e => ?_, fun e => ⟨fun e2 => ?_, fun e2 => ?_⟩⟩⟩
  · have e : n = 0 := by simpa using e
    refine sl_to (m := 0) rfl (by omega) ?_
    have z1 : xs = [] := List.eq_nil_of_length_eq_zero (by omega)
    have z2 : ys = [] := List.eq_nil_of_length_eq_zero (by omega)
    have hv : vx + vy = 0 := by rw [← x5, ← y5, z1, z2]; rfl
    rw [hv] at H
    rw [slP0 hz.pt]
    exact H _ _ _ _ Fr.rfl' (Nat.zero_le _) ⟨hz.pt, by decide, [], Sl.nil, rfl, Dig.nil, by simp [Trim], rfl⟩ (Dst.more hz fun b hb => .inl hb)
  · have e2 : m = 0 := by simpa using e2
    have z2 : ys = [] := List.eq_nil_of_length_eq_zero (by omega)
    have hv : vx + vy = vx := by rw [← y5, z2]; rfl
    rw [hv] at H
    exact K182 hz hx (by omega) fun q c' h' f1 f2 f3 f4 => ⟨_, _, _, rfl, H _ _ _ _ f1 f2 f3 f4⟩
  have hn0 : 0 < n := by simp at e; omega
  have hm0 : 0 < m := by simp at e2; omega
  have xne : xs ≠ [] := fun e => by rw [e] at x2; simp at x2; omega
  have yne : ys ≠ [] := fun e => by rw [e] at y2; simp at y2; omega
  refine K194' (n := n + 1) (S := S) hz (by rw [i64_in (by omega) (by omega)]; omega) (by omega) (by omega) fun b o c cs h1 fE hO hl hc hlim hb => ⟨_, _, _, rfl, ?_⟩
  have nex := ax.at x1 xne x2 hb
  have ney := ay.at y1 yne y2 hb
  refine sl_to (m := m) rfl (by omega) (sl_to (m := m) rfl (by omega) (sl_to (m := m) rfl (by omega) ?_))
  simp only [slP0 pt_some, slP0 hx.pt, slP0 hy.pt, Nat.sub_zero]
  have x1' := x1.ext fE
  have y1' := y1.ext fE
  refine E202 (K138 (xs := xs.take m) (ys := ys) rfl hO (by omega) (x1'.take m) y1' (by rw [List.length_take]; omega) y2 (by omega) (x3.take m) y3 (fun b' o' e => by have := nex b' o' e; omega) (fun b' o' e => by have := ney b' o' e; omega) fun zs cc h2 W lz dz hcc hv => ⟨_, rfl, ?_⟩)
  have done : ∀ (zs2 : List Nat) (c2 : Nat) (h3 : Heap), Wrote .u64 h1 h3 b o zs2 → zs2.length = n → Dig B64 zs2 → c2 < B64 → val B64 zs2 + B64 ^ n * c2 = vx + vy → F166_j59 B R (some ⟨b, o, none⟩) (n + 1) c (n : Int) (c2 : Int) h3 := by
    intro zs2 c2 h3 W3 l3 d3 hc2 hv3
    refine W3.put hO c2 rfl (by omega) (by omega) (by omega) fun W4 => ?_
    exact natEnd (n := n + 1) fE.to W4 (Dst.inS hb) hO hl (by simp; omega) hc hlim (d3.snoc hc2) (by rw [val_snoc, l3]; exact hv3) H
  refine ⟨fun e => ?_, fun e => ?_⟩
  · have hlt : m < n := by simp at e; omega
    refine sl_ft (l := m) (m := n) rfl rfl (by omega) (by omega) (sl_from (l := m) rfl (by omega) ?_)
    rw [slP_some (by omega)]
    obtain ⟨cs2, w1, w2, _, _⟩ := W.own hO
    obtain ⟨b', o', hp, hs, hcase⟩ := tail_at x1' W lz (by omega) (show xs.length ≤ n by omega) nex
    subst hp
    rw [slP_some (by omega)]
    have fin : ∀ (zs2 : List Nat) (c2 : Nat) (h3 : Heap), Wrote .u64 h2 h3 b (o + m) zs2 → zs2.length = n - m → Dig B64 zs2 → c2 < B64 → val B64 zs2 + B64 ^ (n - m) * c2 = val B64 (xs.drop m) + cc → F166_j54 B R (some ⟨b, o, none⟩) (n + 1) c (n : Int) (c2 : Int) h3 := fun zs2 c2 h3 W2 l2 d2 hc2 hv2 => by
      refine done (zs ++ zs2) c2 h3 (W.append W2 (by rw [lz])) (by simp; omega) (dz.append d2) hc2 ?_
      rw [val_append, lz, ← x5, ← y5, val_split B64 xs (i := m) (by omega)]
      have e3 : B64 ^ n = B64 ^ m * B64 ^ (n - m) := by rw [← Nat.pow_add]; congr 1; omega
      have e4 : B64 ^ m * val B64 zs2 + B64 ^ n * c2 = B64 ^ m * val B64 (xs.drop m) + B64 ^ m * cc := by
        rw [e3, Nat.mul_assoc, ← Nat.mul_add, hv2, Nat.mul_add]
      omega
    rcases hcase with hne | ⟨rfl, rfl⟩
    · exact K203 (xs := xs.drop m) w1 (by omega) hs pt_some (by rw [List.length_drop]; omega) (by omega) (by omega) (by omega) (x3.drop m) (fun b2 o2 e => by cases e; exact hne) (by unfold B64; omega) fun zs2 c2 h3 W2 l2 d2 hc2 hv2 => ⟨_, rfl, fin zs2 c2 h3 W2 l2 d2 hc2 hv2⟩
    · exact K203i (xs := xs.drop m) w1 (by omega) hs (by rw [List.length_drop]; omega) (by omega) (by omega) (by omega) (x3.drop m) (by unfold B64; omega) fun zs2 c2 h3 W2 l2 d2 hc2 hv2 => ⟨_, rfl, fin zs2 c2 h3 W2 l2 d2 hc2 hv2⟩
  · have hmn : m = n := by simp at e; omega
    subst hmn
    refine done zs cc h2 W lz dz (by unfold B64; omega) ?_
    rw [← x5, ← y5, hv, List.take_of_length_le (by omega)]
theorem K166g {pz px py : Option Addr} {zn zc n m xc yc vx vy : Nat} {S : Nat → Prop} (hz : Dst h pz zc S) (hx : NatI h px n vx) (hy : NatI h py m vy) (ax : Al S pz px n) (ay : Al S pz py m) (hxc : n ≤ xc) (hyc : m ≤ yc) (ln : n < 1099511627760) (lm : m < 1099511627760) (H : NatK R h S (vx + vy)) :
    Ent Tryz.prog B 105 #[.slice pz zn zc, .slice px n xc, .slice py m yc] R h := by
  by_cases hle : m ≤ n
  · exact K166m hz hx hy ax ay hxc hyc ln hle H
  · refine F166_ok _ _ _ _ _ _ _ _ _ ⟨fun e => ?_, fun e => by simp at e; omega⟩
    refine K166m hz hy hx ay ax hyc hxc lm (by omega) ?_
    rw [Nat.add_comm] at H
    exact fun q n c h' a b c d => ⟨_, _, _, rfl, H q n _ h' a b c d⟩
/-- nat.sub, into a room that may be either one's. -/
theorem K164g {pz px py : Option Addr} {zn zc n m xc yc vx vy : Nat} {S : Nat → Prop} (hz : Dst h pz zc S) (hx : NatI h px n vx) (hy : NatI h py m vy) (ax : Al S pz px n) (ay : Al S pz py m) (hxc : n ≤ xc) (hyc : m ≤ yc) (ln : n < 1099511627760) (hle : vy ≤ vx) (H : NatK R h S (vx - vy)) :
    Ent Tryz.prog B 103 #[.slice pz zn zc, .slice px n xc, .slice py m yc] R h := by
  obtain ⟨xs, x1, x2, x3, x4, x5⟩ := hx.ex
  obtain ⟨ys, y1, y2, y3, y4, y5⟩ := hy.ex
  have x5 : val B64 xs = vx := x5
  have y5 : val B64 ys = vy := y5
  have hmn : m ≤ n := by
    have := len_le (b := B64) (by decide) x3 y4 (by rw [x5, y5]; exact hle)
    omega
  refine F164_ok _ _ _ _ _ _ _ _ _ ⟨fun e => by simp at e; omega, fun _ => ⟨fun e => ?_, fun e => ⟨fun e2 => ?_, fun e2 => ?_⟩⟩⟩
  · have e : n = 0 := by simpa using e
    refine sl_to (m := 0) rfl (by omega) ?_
    have z1 : xs = [] := List.eq_nil_of_length_eq_zero (by omega)
    have hv : vx - vy = 0 := by rw [← x5, z1]; simp [val]
    rw [hv] at H
    rw [slP0 hz.pt]
    exact H _ _ _ _ Fr.rfl' (Nat.zero_le _) ⟨hz.pt, by decide, [], Sl.nil, rfl, Dig.nil, by simp [Trim], rfl⟩ (Dst.more hz fun b hb => .inl hb)
  · have e2 : m = 0 := by simpa using e2
    have z2 : ys = [] := List.eq_nil_of_length_eq_zero (by omega)
    have hv : vx - vy = vx := by rw [← y5, z2]; rfl
    rw [hv] at H
    exact K182 hz hx (by omega) fun q c' h' f1 f2 f3 f4 => ⟨_, _, _, rfl, H _ _ _ _ f1 f2 f3 f4⟩
  have hn0 : 0 < n := by simp at e; omega
  have hm0 : 0 < m := by simp at e2; omega
  have xne : xs ≠ [] := fun e => by rw [e] at x2; simp at x2; omega
  have yne : ys ≠ [] := fun e => by rw [e] at y2; simp at y2; omega
  refine K194' (n := n) (S := S) hz rfl (by omega) (by omega) fun b o c cs h1 fE hO hl hc hlim hb => ⟨_, _, _, rfl, ?_⟩
  have nex := ax.at x1 xne x2 hb
  have ney := ay.at y1 yne y2 hb
  refine sl_to (m := m) rfl (by omega) (sl_to (m := m) rfl (by omega) (sl_to (m := m) rfl (by omega) ?_))
  simp only [slP0 pt_some, slP0 hx.pt, slP0 hy.pt, Nat.sub_zero]
  have x1' := x1.ext fE
  have y1' := y1.ext fE
  refine E195 (K139 (xs := xs.take m) (ys := ys) rfl hO (by omega) (x1'.take m) y1' (by rw [List.length_take]; omega) y2 (by omega) (x3.take m) y3 (fun b' o' e => by have := nex b' o' e; omega) (fun b' o' e => by have := ney b' o' e; omega) fun zs cc h2 W lz dz hcc hv => ⟨_, rfl, ?_⟩)
  have done : ∀ (zs2 : List Nat) (c2 : Nat) (h3 : Heap), Wrote .u64 h1 h3 b o zs2 → zs2.length = n → Dig B64 zs2 → vx + B64 ^ n * c2 = val B64 zs2 + vy → F164_j53 B R (some ⟨b, o, none⟩) n c (c2 : Int) h3 := by
    intro zs2 c2 h3 W3 l3 d3 hv3
    have hz : val B64 zs2 < B64 ^ n := by rw [← l3]; exact val_lt d3
    have hc2 : c2 = 0 := by
      rcases Nat.eq_zero_or_pos c2 with h | h
      · exact h
      · exfalso
        have : B64 ^ n * 1 ≤ B64 ^ n * c2 := Nat.mul_le_mul_left _ h
        omega
    subst hc2
    refine ⟨fun e => by simp at e, fun _ => ?_⟩
    exact natEnd fE.to W3 (Dst.inS hb) hO hl l3 hc hlim d3 (by omega) H
  refine ⟨fun e => ?_, fun e => ?_⟩
  · have hlt : m < n := by simp at e; omega
    refine sl_from (l := m) rfl (by omega) (sl_from (l := m) rfl (by omega) ?_)
    rw [slP_some (by omega)]
    obtain ⟨cs2, w1, w2, _, _⟩ := W.own hO
    obtain ⟨b', o', hp, hs, hcase⟩ := tail_at x1' W lz (by omega) (show xs.length ≤ n by omega) nex
    subst hp
    rw [slP_some (by omega)]
    have fin : ∀ (zs2 : List Nat) (c2 : Nat) (h3 : Heap), Wrote .u64 h2 h3 b (o + m) zs2 → zs2.length = n - m → Dig B64 zs2 → val B64 (xs.drop m) + B64 ^ (n - m) * c2 = val B64 zs2 + cc → F164_j53 B R (some ⟨b, o, none⟩) n c (c2 : Int) h3 := fun zs2 c2 h3 W2 l2 d2 hv2 => by
      refine done (zs ++ zs2) c2 h3 (W.append W2 (by rw [lz])) (by simp; omega) (dz.append d2) ?_
      rw [val_append, lz, ← x5, ← y5, val_split B64 xs (i := m) (by omega)]
      have e3 : B64 ^ n = B64 ^ m * B64 ^ (n - m) := by rw [← Nat.pow_add]; congr 1; omega
      have e4 : B64 ^ m * val B64 (xs.drop m) + B64 ^ n * c2 = B64 ^ m * val B64 zs2 + B64 ^ m * cc := by
        rw [e3, Nat.mul_assoc, ← Nat.mul_add, hv2, Nat.mul_add]
      omega
    rcases hcase with hne | ⟨rfl, rfl⟩
    · exact K196 (xs := xs.drop m) w1 (by omega) hs pt_some (by rw [List.length_drop]; omega) (by omega) (by omega) (by omega) (x3.drop m) (fun b2 o2 e => by cases e; exact hne) (by unfold B64; omega) fun zs2 c2 h3 W2 l2 d2 hc2 hv2 => ⟨_, rfl, fin zs2 c2 h3 W2 l2 d2 hv2⟩
    · exact K196i (xs := xs.drop m) w1 (by omega) hs (by rw [List.length_drop]; omega) (by omega) (by omega) (by omega) (x3.drop m) (by unfold B64; omega) fun zs2 c2 h3 W2 l2 d2 hc2 hv2 => ⟨_, rfl, fin zs2 c2 h3 W2 l2 d2 hv2⟩
  · have hmn : m = n := by simp at e; omega
    subst hmn
    refine done zs cc h2 W lz dz ?_
    rw [List.take_of_length_le (by omega)] at hv
    rw [← x5, ← y5]; exact hv
/-- Add into the first one. -/
theorem K127i {r q ry qy : Nat} {v w : Int} (hx : IntAt h r q v) (hy : IntAt h ry qy w) (hq : q ≠ qy) (hb : bl v.natAbs ≤ 1000000) (hb2 : bl w.natAbs ≤ 1000000) (H : IntK R h r (Rm r q) (v + w)) :
    Ent Tryz.prog B 70 #[.pointer (some ⟨r, 0, none⟩), .pointer (some ⟨r, 0, none⟩), .pointer (some ⟨ry, 0, none⟩)] R h := by
  obtain ⟨p, n, c, h1, h2, h3, h4⟩ := hx.ex
  obtain ⟨py, m, cy, y1, y2, y3, y4⟩ := hy.ex
  have hl := h2.len hb
  have hl2 := y2.len hb2
  have hal : Al (Rm r q) p py m := .inr fun b o e hm hb => by
    rcases y4.room with e0 | ⟨b', o', cs, e1, e2, e3, e4⟩
    · omega
    · rw [e1] at e; cases e; exact hq (hb.1.symm.trans e4.1)
  have hself : Al (Rm r q) p p n := .inl rfl
  have fin : ∀ (bb : Bool) {h1' h2' : Heap} {p' : Option Addr} {n' c' : Nat} {b0 : Bool}, Fr (Rm r q) h h1' → Fr (fun x => x = r) h1' h2' → Own h2' r #[.bool b0, .slice p' n' c'] → n' ≤ c' → NatI h1' p' n' (v + w).natAbs → Dst h1' p' c' (fun b => Rm r q b ∨ h.size ≤ b) →
      (v + w ≠ 0 → bb = decide (v + w < 0)) → F127_j69 B R (some ⟨r, 0, none⟩) bb h2' := by
    intro bb h1' h2' p' n' c' b0 f1 fr2 o2 hn hN hD hbb
    have z := hN.zero
    refine ldS o2 ⟨fun e => stB o2 fun h3' o3 fr3 => ?_, fun e => stB o2 fun h3' o3 fr3 => ?_⟩
    · refine intEnd f1 (Fr.trans fr2 fr3 fun _ _ e => e) h1.lt rm_ne hn hN hD o3 (hbb ?_) H
      simp at e; omega
    · have : v + w = 0 := by simp at e; omega
      exact intEnd f1 (Fr.trans fr2 fr3 fun _ _ e => e) h1.lt rm_ne hn hN hD o3 (by rw [this]; rfl) H
  refine F127_ok _ _ _ (ldB h1 (ldB h1 (ldB y1 ?_)))
  by_cases hs : decide (v < 0) = decide (w < 0)
  · have : (decide (v < 0) == decide (w < 0)) = true := by rw [hs]; simp
    rw [this]
    refine ⟨fun _ => ldS h1 (ldS h1 (ldS y1 (K166g h4 h2 y2 hself hal h3 y3 (by omega) (by omega) fun p' n' c' h' f1 f2 f3 f4 => ⟨_, _, _, rfl, stS (h1.fr f1 rm_ne) fun h2' o2 fr2 => ?_⟩))), fun e => (by cases e)⟩
    have hva : (v + w).natAbs = v.natAbs + w.natAbs := by
      by_cases a : v < 0 <;> by_cases b : w < 0 <;> simp [a, b] at hs <;> omega
    refine fin _ f1 fr2 o2 f2 (by rw [hva]; exact f3) f4 fun h0 => ?_
    by_cases a : v < 0 <;> by_cases b : w < 0 <;> simp [a, b] at hs ⊢ <;> omega
  · have : (decide (v < 0) == decide (w < 0)) = false := by simp [hs]
    rw [this]
    refine ⟨fun e => (by cases e), fun _ => ldS h1 (ldS y1 (K172 h2 y2 ⟨_, rfl, ?_⟩))⟩
    by_cases hc : w.natAbs ≤ v.natAbs
    · have e1 : decide ((0 : Int) ≤ cmpN v.natAbs w.natAbs) = true := by
        unfold cmpN; rw [if_neg (by omega)]; split <;> rfl
      rw [e1]
      refine ⟨fun _ => ldS h1 (ldS h1 (ldS y1 (K164g h4 h2 y2 hself hal h3 y3 (by omega) hc fun p' n' c' h' f1 f2 f3 f4 => ⟨_, _, _, rfl, stS (h1.fr f1 rm_ne) fun h2' o2 fr2 => ?_⟩))), fun e => (by cases e)⟩
      have hva : (v + w).natAbs = v.natAbs - w.natAbs := by
        by_cases a : v < 0 <;> by_cases b : w < 0 <;> simp [a, b] at hs <;> omega
      refine fin _ f1 fr2 o2 f2 (by rw [hva]; exact f3) f4 fun h0 => ?_
      by_cases a : v < 0 <;> by_cases b : w < 0 <;> simp [a, b] at hs ⊢ <;> omega
    · have e1 : decide ((0 : Int) ≤ cmpN v.natAbs w.natAbs) = false := by
        unfold cmpN; rw [if_pos (by omega)]; rfl
      rw [e1]
      refine ⟨fun e => (by cases e), fun _ => ldS h1 (ldS y1 (ldS h1 (K164g h4 y2 h2 hal hself y3 h3 (by omega) (by omega) fun p' n' c' h' f1 f2 f3 f4 => ⟨_, _, _, rfl, stS (h1.fr f1 rm_ne) fun h2' o2 fr2 => ?_⟩)))⟩
      have hva : (v + w).natAbs = w.natAbs - v.natAbs := by
        by_cases a : v < 0 <;> by_cases b : w < 0 <;> simp [a, b] at hs <;> omega
      refine fin _ f1 fr2 o2 f2 (by rw [hva]; exact f3) f4 fun h0 => ?_
      by_cases a : v < 0 <;> by_cases b : w < 0 <;> simp [a, b] at hs ⊢ <;> omega
end Go.Proofs
namespace Go.Proofs.Wide
open Go Go.Eng
/-- (math/big.nat).mul -/
def F208_j55 (B : World) (R : Po) (a0 : OA) (b0 c0 : Nat) (d0 e0 : OA) (f0 g0 : Nat) (i0 : OA) (j0 k0 : Nat) (l0 m0 : Int) (n0 : Heap) : Prop :=
 Ec B 144 #[.slice a0 b0 c0, .int .i64 (IntKind.i64.wrap (l0 + m0))] (retE (fun o0 p0 => ∃ q0 r0 s0, o0 = .slice q0 r0 s0 ∧
 iP 4 0 fun t0 u0 => ∃ v0, cI p0 t0 u0 .i64 v0 ∧
((decide (m0 < v0)) = true →
 Ec B 165 #[.slice q0 r0 s0, .slice e0 f0 g0, .slice i0 j0 k0] (retE (fun w0 x0 => w0 = .tuple #[] ∧
 Ec B 146 #[.slice q0 r0 s0] (retE (fun y0 z0 => ∃ a1 b1 c1, y0 = .slice a1 b1 c1 ∧
 R (.returned (.slice a1 b1 c1)) z0)
(pk R)) x0)
(pk R)) p0) ∧
((decide (m0 < v0)) = false →
 pEq p0 d0 none fun d1 =>
(d1 = true →
 Ec B 166 #[] (retE (fun e1 f1 => ∃ g1, e1 = .pointer g1 ∧
 False)
(pk R)) p0) ∧
(d1 = false →
 False)))
(pk R)) n0
def F208_j46 (B : World) (R : Po) (i1 : OA) (j1 k1 : Nat) (l1 m1 : OA) (n1 o1 : Nat) (p1 : OA) (q1 r1 : Nat) (s1 t1 : Int) (u1 : Bool) (v1 : Heap) : Prop :=
(u1 = true →
 F208_j55 B R none 0 0 l1 m1 n1 o1 p1 q1 r1 s1 t1 v1) ∧
(u1 = false →
 F208_j55 B R i1 j1 k1 l1 m1 n1 o1 p1 q1 r1 s1 t1 v1)
def F208_j19 (B : World) (R : Po) (w1 : OA) (x1 y1 : Nat) (z1 a2 : OA) (b2 c2 : Nat) (d2 : OA) (e2 f2 : Nat) (g2 i2 : Int) (j2 : Bool) (k2 : Heap) : Prop :=
(j2 = true →
 slW x1 y1 none (some (.int .i64 (0 : Int))) none fun l2 m2 n2 =>
 R (.returned (.slice (slP w1 l2 n2 1) (m2 - l2) (n2 - l2))) k2) ∧
(j2 = false →
((decide (i2 = (1 : Int))) = true →
 ixW d2 e2 (0 : Int) 1 fun o2 p2 =>
 iP o2 p2 fun q2 r2 => ∃ s2, cI k2 q2 r2 .u64 s2 ∧
 Ec B 170 #[.slice w1 x1 y1, .slice a2 b2 c2, .int .u64 s2, .int .u64 (0 : Int)] (retE (fun t2 u2 => ∃ v2 w2 x2, t2 = .slice v2 w2 x2 ∧
 R (.returned (.slice v2 w2 x2)) u2)
(pk R)) k2) ∧
((decide (i2 = (1 : Int))) = false →
 Ec B 143 #[.slice w1 x1 y1, .slice a2 b2 c2] (retE (fun y2 z2 => ∃ a3, y2 = .bool a3 ∧
(a3 = true →
 F208_j46 B R w1 x1 y1 z1 a2 b2 c2 d2 e2 f2 g2 i2 true z2) ∧
(a3 = false →
 Ec B 143 #[.slice w1 x1 y1, .slice d2 e2 f2] (retE (fun b3 c3 => ∃ d3, b3 = .bool d3 ∧
 F208_j46 B R w1 x1 y1 z1 a2 b2 c2 d2 e2 f2 g2 i2 d3 c3)
(pk R)) z2))
(pk R)) k2))
def F208_j10 (B : World) (R : Po) (e3 : OA) (f3 g3 : Nat) (i3 j3 : OA) (k3 l3 : Nat) (m3 : OA) (n3 o3 : Nat) (p3 q3 : Int) (r3 : Bool) (s3 : Heap) : Prop :=
 F208_j19 B R e3 f3 g3 i3 j3 k3 l3 m3 n3 o3 p3 q3 r3 s3
def F208 (B : World) (R : Po) (t3 : OA) (u3 v3 : Nat) (w3 x3 : OA) (y3 z3 : Nat) (a4 : OA) (b4 c4 : Nat) (h : Heap) : Prop :=
((decide ((y3 : Int) < (b4 : Int))) = true →
 Ec B 141 #[.slice t3 u3 v3, .pointer w3, .slice a4 b4 c4, .slice x3 y3 z3] (retE (fun d4 e4 => ∃ f4 g4 i4, d4 = .slice f4 g4 i4 ∧
 R (.returned (.slice f4 g4 i4)) e4)
(pk R)) h) ∧
((decide ((y3 : Int) < (b4 : Int))) = false →
((decide ((y3 : Int) = (0 : Int))) = true →
 F208_j10 B R t3 u3 v3 w3 x3 y3 z3 a4 b4 c4 (y3 : Int) (b4 : Int) true h) ∧
((decide ((y3 : Int) = (0 : Int))) = false →
 F208_j10 B R t3 u3 v3 w3 x3 y3 z3 a4 b4 c4 (y3 : Int) (b4 : Int) (decide ((b4 : Int) = (0 : Int))) h))
def F208_L : Nat → List (Nat × TypeDesc) := fun _ => []
theorem F208_ok {B : World} {R : Ending → Heap → Prop} (t3 : OA) (u3 v3 : Nat) (w3 x3 : OA) (y3 z3 : Nat) (a4 : OA) (b4 c4 : Nat) {h : Heap} (H : F208 B R t3 u3 v3 w3 x3 y3 z3 a4 b4 c4 h) : Ec B 141 #[.slice t3 u3 v3, .pointer w3, .slice x3 y3 z3, .slice a4 b4 c4] R h :=
 Ek Tryz.func141 (by kernel_rfl) (by kernel_rfl) (by kernel_rfl) F208_L [17, 18, 19, 20, 21, 22, 23, 24, 25, 26, 27, 28] (by kernel_rfl) H
end Go.Proofs.Wide
set_option linter.unusedVariables false
namespace Go.Proofs
open Go Go.Eng
variable {B : World} {R : Ending → Heap → Prop} {h : Heap}
/-- The variable karatsubaThreshold. -/
def TabK (h : Heap) : Prop := 4 < h.size ∧ cell? h ⟨4, 0, none⟩ = some (.int .i64 40)
theorem TabK.ext {h h' : Heap} (H : TabK h) (f : Ext h h') : TabK h' :=
  ⟨Nat.lt_of_lt_of_le H.1 f.size, by have e := H.2; unfold cell? at e ⊢; rw [f.same _ H.1 id]; exact e⟩
end Go.Proofs
set_option linter.unusedVariables false
namespace Go.Proofs
open Go Go.Eng
variable {B : World} {R : Ending → Heap → Prop} {h : Heap}
theorem bl_sc {m : Int} {L k : Nat} (hb : bl m.natAbs ≤ L) : bl (m * 2 ^ k).natAbs ≤ L + k := by
  have e : (m * 2 ^ k).natAbs = m.natAbs * 2 ^ k := by rw [Int.natAbs_mul, Int.natAbs_pow, show (2 : Int).natAbs = 2 from rfl]
  rw [e]
  by_cases h0 : m.natAbs = 0
  · rw [h0, Nat.zero_mul]; have : bl 0 = 0 := rfl; omega
  · rw [bl_scale _ h0]; omega
end Go.Proofs
set_option linter.unusedVariables false
namespace Go.Eng
open Go
theorem order_0 {a : Int} (ha : I64 a) (na : isNaN a = false) : FloatKind.f64.format.order (wd a) 0 = some (compareOfLessAndEq (rk a) 0) := by
  have := order_rk ha (b := 0) (by unfold I64; omega) na (by decide)
  rw [show wd 0 = 0 from rfl, show rk 0 = 0 from rfl] at this
  exact this
end Go.Eng
namespace Go.Proofs
open Go Go.Eng
variable {B : World} {R : Ending → Heap → Prop} {h : Heap}
end Go.Proofs
set_option linter.unusedVariables false
namespace Go.Eng
open Go
/-- A whole number of at most 53 bits, with noughts behind. -/
def Fl (v : Int) : Prop := ∃ m t : Nat, v.natAbs = m * 2 ^ t ∧ m ≤ 9007199254740992
/-- 2^k divides. -/
def Dv (k : Nat) (x : Int) : Prop := ∃ z : Int, x = z * ((2 ^ k : Nat) : Int)
theorem Dv.zero {k : Nat} : Dv k 0 := ⟨0, by rw [Int.zero_mul]⟩
theorem Dv.add {k : Nat} {x y : Int} (a : Dv k x) (b : Dv k y) : Dv k (x + y) := by
  obtain ⟨z, rfl⟩ := a; obtain ⟨w, rfl⟩ := b; exact ⟨z + w, by rw [Int.add_mul]⟩
theorem Dv.neg {k : Nat} {x : Int} (a : Dv k x) : Dv k (-x) := by
  obtain ⟨z, rfl⟩ := a; exact ⟨-z, by rw [Int.neg_mul]⟩
theorem Dv.sub {k : Nat} {x y : Int} (a : Dv k x) (b : Dv k y) : Dv k (x - y) := by
  rw [Int.sub_eq_add_neg]; exact a.add b.neg
theorem Dv.mono {j k : Nat} {x : Int} (a : Dv k x) (h : j ≤ k) : Dv j x := by
  obtain ⟨z, rfl⟩ := a
  obtain ⟨d, rfl⟩ : ∃ d, k = j + d := ⟨k - j, by omega⟩
  exact ⟨z * ((2 ^ d : Nat) : Int), by rw [Nat.pow_add, Int.natCast_mul, Int.mul_assoc, Int.mul_comm ((2 ^ j : Nat) : Int)]⟩
theorem Dv.abs {k : Nat} {x : Int} (a : Dv k x) : ∃ m : Nat, x.natAbs = m * 2 ^ k := by
  obtain ⟨z, rfl⟩ := a
  exact ⟨z.natAbs, by rw [Int.natAbs_mul, Int.natAbs_natCast]⟩
theorem Dv.of_abs {k m : Nat} {x : Int} (h : x.natAbs = m * 2 ^ k) : Dv k x := by
  by_cases hx : x < 0
  · exact ⟨-(m : Int), by rw [Int.neg_mul, ← Int.natCast_mul, ← h]; omega⟩
  · exact ⟨(m : Int), by rw [← Int.natCast_mul, ← h]; omega⟩
theorem Dv.ge {k : Nat} {x : Int} (a : Dv k x) (h : x ≠ 0) : 2 ^ k ≤ x.natAbs := by
  obtain ⟨m, e⟩ := a.abs
  have : m ≠ 0 := by intro k; rw [k, Nat.zero_mul] at e; omega
  rw [e]
  exact Nat.le_mul_of_pos_left _ (by omega)
theorem Fl.zero : Fl 0 := ⟨0, 0, rfl, by decide⟩
theorem Fl.neg {v : Int} (h : Fl v) : Fl (-v) := by
  obtain ⟨m, t, a, b⟩ := h; exact ⟨m, t, by rw [Int.natAbs_neg]; exact a, b⟩
theorem Fl.of {k : Nat} {x : Int} (a : Dv k x) (h : x.natAbs ≤ 9007199254740992 * 2 ^ k) : Fl x := by
  obtain ⟨m, e⟩ := a.abs
  refine ⟨m, k, e, ?_⟩
  rw [e] at h
  exact Nat.le_of_mul_le_mul_right h (Nat.pow_pos (by decide))
/-- A great float is a multiple of its last place. -/
theorem Fl.big {v : Int} (h : Fl v) {k : Nat} (hk : 4503599627370496 * 2 ^ k ≤ v.natAbs) : Dv k v := by
  obtain ⟨m, t, a, b⟩ := h
  rcases Nat.lt_or_ge t k with hlt | hge
  · obtain ⟨d, rfl⟩ : ∃ d, k = t + (d + 1) := ⟨k - t - 1, by omega⟩
    have hp : 0 < 2 ^ t := Nat.pow_pos (by decide)
    rw [a, Nat.pow_add, Nat.mul_comm (2 ^ t), ← Nat.mul_assoc] at hk
    have h1 := Nat.le_of_mul_le_mul_right hk hp
    have hd : 0 < 2 ^ d := Nat.pow_pos (by decide)
    rw [Nat.pow_succ] at h1
    have h2 : 2 ^ d = 1 := by omega
    have hd0 : d = 0 := by
      rcases Nat.eq_zero_or_pos d with e | e
      · exact e
      · have : 2 ^ 1 ≤ 2 ^ d := Nat.pow_le_pow_right (by decide) e
        omega
    subst hd0
    have hm : m = 4503599627370496 * 2 := by omega
    refine Dv.of_abs (m := 4503599627370496) ?_
    rw [a, hm, Nat.zero_add, Nat.pow_succ, Nat.mul_assoc, Nat.mul_comm 2]
  · exact (Dv.of_abs a).mono hge
theorem rnd_cases (v : Int) : rndI v = v ∨ ∃ j : Nat, 9007199254740992 * 2 ^ j ≤ v.natAbs ∧ v.natAbs < 18014398509481984 * 2 ^ j ∧ Dv (j + 1) (rndI v) ∧ (rndI v - v).natAbs ≤ 2 ^ j := by
  obtain ⟨s, hs⟩ := sgv_of v
  generalize hn : v.natAbs = n at *
  have e52 : (2 : Nat) ^ 52 = 4503599627370496 := by decide
  have e53 : (2 : Nat) ^ 53 = 9007199254740992 := by decide
  rcases Nat.lt_or_ge n (2 ^ 53) with h | h
  · left; rw [hs, rndI_sgv, R53_small h]
  right
  have h0 : n ≠ 0 := by omega
  have hl := (Nat.log2_eq_iff h0).1 rfl
  have h53 : 53 ≤ n.log2 := by
    apply Nat.le_of_not_lt
    intro k
    have := (Nat.log2_lt h0).1 k
    omega
  obtain ⟨j, hj⟩ : ∃ j, n.log2 = 53 + j := ⟨n.log2 - 53, by omega⟩
  rw [hj] at hl
  have hn1 := rn_near n (j + 1)
  have hR := R53_at (n := n) (j := j + 1) (by rw [show 52 + (j + 1) = 53 + j by omega]; exact hl.1) (by rw [show 53 + (j + 1) = 53 + j + 1 by omega]; exact hl.2)
  rw [Nat.pow_succ, Nat.pow_add, e53] at hl
  have hD : rndI v = sgv s (R53 n) := by rw [hs, rndI_sgv]
  refine ⟨j, hl.1, by omega, ?_, ?_⟩
  · rw [hD]
    refine Dv.of_abs (m := rn n (j + 1)) ?_
    rw [sgv_abs, hR]
  · have ha : (sgv s (R53 n) - sgv s n).natAbs = ((R53 n : Int) - (n : Int)).natAbs := by
      unfold sgv; cases s
      · rfl
      · simp only [if_true]; omega
    rw [hD, hs, ha]
    rw [← hR, Nat.pow_succ] at hn1
    omega
theorem rnd_exact {v : Int} (h : Fl v) : rndI v = v := by
  obtain ⟨m, t, a, b⟩ := h
  obtain ⟨s, hs⟩ := sgv_of v
  rw [hs, rndI_sgv, a]
  have e53 : (2 : Nat) ^ 53 = 9007199254740992 := by decide
  rw [R53_exact (by omega)]
end Go.Eng
set_option linter.unusedVariables false
namespace Go.Eng
open Go
/-- An expansion of whole numbers, behind what is below it. -/
def vZ (below : Nat) : List Int → Prop
  | [] => True
  | v :: r => v ≠ 0 ∧ (∃ k, below < 2 ^ k ∧ Dv k v) ∧ vZ v.natAbs r
theorem vZ.mono {a b : Nat} {xs : List Int} (h : vZ b xs) (hab : a ≤ b) : vZ a xs := by
  cases xs with
  | nil => trivial
  | cons v r => exact ⟨h.1, let ⟨k, h1, h2⟩ := h.2.1; ⟨k, by omega, h2⟩, h.2.2⟩
theorem vZ.lt {b : Nat} {v : Int} {r : List Int} (h : vZ b (v :: r)) : b < v.natAbs := by
  obtain ⟨h0, ⟨k, h1, h2⟩, _⟩ := h
  have := h2.ge h0
  omega
theorem vZ.tail {b : Nat} {v : Int} {r : List Int} (h : vZ b (v :: r)) : vZ b r := h.2.2.mono (by have := h.lt; omega)
end Go.Eng
namespace Go.Proofs
open Go Go.Eng
variable {B : World} {R : Ending → Heap → Prop} {h : Heap}
abbrev pw2 (k : Nat) : Nat := (k + 1023) * 4503599627370496
theorem t1 : ∀ k, k < 53 → (FloatKind.f64.format.order (pw2 k) 0 == some .eq) = false := by decide +kernel
theorem t2 : ∀ k, k < 53 → (FloatKind.f64.format.order (pw2 k) (pw2 k) != some .eq) = false := by decide +kernel
theorem t3 : ∀ k, k < 53 → (FloatKind.f64.format.order (pw2 k) 4503599627370496 == some .lt) = false := by decide +kernel
theorem t4 : ∀ k, k < 53 → isInf (sg (pw2 k)) = false := by decide +kernel
theorem t5 : ∀ k, k < 53 → bitsI .andNot .u64 ((pw2 k : Nat) : Int) (9223372036854775808 : Int) = ((pw2 k : Nat) : Int) := by decide +kernel
theorem t6 : ∀ k, k < 53 → IntKind.i64.wrap ((bitsI .and .i64 (IntKind.i64.wrap (Int.fdiv ((pw2 k : Nat) : Int) (2 ^ min (Int.toNat (52 : Int)) IntKind.u64.bits))) (2047 : Int)) - (1023 : Int)) = (k : Int) := by decide +kernel
theorem t7 {y : Int} (h1 : 0 ≤ y) (h2 : y < 2047) : bitsI .or .u64 (0 : Int) (IntKind.u64.wrap ((IntKind.u64.wrap y) * 2 ^ min (Int.toNat (52 : Int)) IntKind.u64.bits)) = ((y.toNat * 4503599627370496 : Nat) : Int) := by
  obtain ⟨n, rfl⟩ : ∃ n : Nat, y = (n : Int) := ⟨y.toNat, by omega⟩
  have e1 : IntKind.u64.wrap (n : Int) = (n : Int) := by rw [wrap_u64_nat]; omega
  have e2 := shl_pow (x := n) (s := 52) (by decide)
  rw [show ((52 : Nat) : Int) = 52 from rfl, show (2 : Nat) ^ 52 = 4503599627370496 by decide] at e2
  rw [e1, e2, Int.toNat_natCast]
  have := bitsI_or (a := 0) (b := n * 4503599627370496 % 18446744073709551616) (by decide) (by omega)
  rw [show ((0 : Nat) : Int) = 0 from rfl, Nat.zero_or] at this
  rw [this]
  omega
end Go.Proofs
namespace Go.Proofs
open Go Go.Eng
variable {B : World} {R : Ending → Heap → Prop} {h : Heap}
/-- A slice of whole numbers that only is read. -/
def IntsH (h : Heap) (p : Option Addr) (xs : List Int) : Prop :=
  (∀ x ∈ xs, I64 x) ∧ (xs = [] ∨ ∃ r q, p = some ⟨r, q, none⟩ ∧ r < h.size ∧ ∀ i (hi : i < xs.length), cell? h ⟨r, q + i, none⟩ = some (.int .i64 xs[i]))
theorem IntsH.ext {h h' : Heap} {p : Option Addr} {xs : List Int} (H : IntsH h p xs) (f : Ext h h') : IntsH h' p xs := by
  refine ⟨H.1, ?_⟩
  rcases H.2 with e | ⟨r, q, e, hr, g⟩
  · exact .inl e
  · exact .inr ⟨r, q, e, Nat.lt_of_lt_of_le hr f.size, fun i hi => (cell_ext f hr).trans (g i hi)⟩
theorem IntsH.get {p : Option Addr} {xs : List Int} {n : Nat} (H : IntsH h p xs) (hn : xs.length = n) {j : Nat} (hj : j < xs.length) {K : Int → Prop} (k : K xs[j]) :
    ixW p n (j : Int) 1 fun b o => isP (some ⟨b, o, none⟩) fun b o => ∃ x, cell? h ⟨b, o, none⟩ = some (.int .i64 x) ∧ K x := by
  rcases H.2 with e | ⟨r, q, e, hr, g⟩
  · subst e; cases hj
  · refine ⟨r, q, e, by omega, by omega, r, _, rfl, xs[j], ?_, k⟩
    rw [Int.toNat_natCast, Nat.mul_one]; exact g j hj
end Go.Proofs
