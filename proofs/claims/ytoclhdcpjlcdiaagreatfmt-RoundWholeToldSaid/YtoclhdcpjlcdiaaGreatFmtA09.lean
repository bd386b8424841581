import Derived.Test.YtoclhdcpjlcdiaaGreatFmtA08
import Derived.Lib.BitFns
import Derived.Lib.TrailingZeros
/- Here stand lemmas: math/big: contracts, second part. -/
set_option linter.unusedVariables false
namespace Go.Proofs
open Go Go.Eng
variable {B : World} {R : Ending → Heap → Prop} {h : Heap}
/-- What an operation on nats hands on: a nat of value v. -/
def NatK (R : Ending → Heap → Prop) (h0 : Heap) (S : Nat → Prop) (v : Nat) : Prop :=
  ∀ (q : Option Addr) (n c : Nat) (h' : Heap), Fr S h0 h' → n ≤ c → NatI h' q n v → Dst h' q c (fun b => S b ∨ h0.size ≤ b) → R (.returned (.slice q n c)) h'
theorem natEnd {h0 h1 h2 : Heap} {S : Nat → Prop} {b o c n v : Nat} {ws : List Nat} {cs : Array Value} {X : List PanicEntry → Heap → Prop} (f : Fr S h0 h1) (W : Wrote .u64 h1 h2 b o ws) (hb : S b ∨ h0.size ≤ b) (O : Own h1 b cs) (hl : o + c ≤ cs.size)
    (hn : ws.length = n) (hnc : n ≤ c) (lim : c < 1099511627776) (d : Dig B64 ws) (hv : val B64 ws = v) (H : NatK R h0 S v) :
    Ent Tryz.prog B 124 #[.slice (some ⟨b, o, none⟩) n c] (retE (fun u h' => ∃ x xn xc, u = .slice x xn xc ∧ R (.returned (.slice x xn xc)) h') X) h2 := by
  refine K197 pt_some W.sl hn hnc (by omega) fun k hk t e => ⟨_, _, _, rfl, ?_⟩
  obtain ⟨cs', w1, w2, _, _⟩ := W.own O
  refine H _ _ _ _ (Fr.trans f W.fr fun x hx e => by subst e; rcases hb with h | h; exact h; omega) (by omega) ⟨pt_some, by omega, ws.take k, W.sl.take k, by rw [List.length_take]; omega, d.take k, t, e.trans hv⟩
    ⟨pt_some, lim, .inr ⟨b, o, cs', rfl, w1, by omega, hb⟩⟩
/-- nat.make, of more than nothing: a buffer. -/
theorem K194' {pz : Option Addr} {zn zc n : Nat} {i : Int} {S : Nat → Prop} (hz : Dst h pz zc S) (hi : i = (n : Int)) (hn : n < 1099511627770) (h0 : 0 < n)
    (H : ∀ b o c cs h1, Ext h h1 → Own h1 b cs → o + c ≤ cs.size → n ≤ c → c < 1099511627776 → ((pz = some ⟨b, o, none⟩ ∧ S b) ∨ b = h.size) → R (.returned (.slice (some ⟨b, o, none⟩) n c)) h1) :
    Ent Tryz.prog B 109 #[.slice pz zn zc, .int .i64 i] R h := by
  refine K194 hz hi hn (fun hle => ?_) (fun hlt c' cs h1 h2 h3 => ?_)
  · rcases hz.room with e | ⟨b, o, cs, e1, e2, e3, e4⟩
    · omega
    · subst e1
      exact H b o zc cs h Fr.rfl' e2 e3 hle hz.lim (.inl ⟨rfl, e4⟩)
  · exact H _ 0 c' cs _ Ext.push own_new (by omega) h1 h2 (.inr rfl)
theorem Dst.inS {pz : Option Addr} {b o : Nat} {S : Nat → Prop} (hb : (pz = some ⟨b, o, none⟩ ∧ S b) ∨ b = h.size) : S b ∨ h.size ≤ b := by
  rcases hb with ⟨_, h⟩ | h
  · exact .inl h
  · exact .inr (by omega)
/-- A nat (of n words) that is not of the room, or is where the room is. -/
def Al (S : Nat → Prop) (pz px : Option Addr) (n : Nat) : Prop := px = pz ∨ ∀ b o, px = some ⟨b, o, none⟩ → 0 < n → ¬ S b
theorem Al.at {pz px : Option Addr} {ws : List Nat} {b o n : Nat} {S : Nat → Prop} (ha : Al S pz px n) (hx : Sl .u64 h px ws) (hw : ws ≠ []) (hn : ws.length = n) (hb : (pz = some ⟨b, o, none⟩ ∧ S b) ∨ b = h.size) :
    ∀ b' o', px = some ⟨b', o', none⟩ → b' ≠ b ∨ o' = o := by
  intro b' o' e
  have hpos : 0 < n := by rw [← hn]; exact List.length_pos_iff.2 hw
  rcases hb with ⟨e2, hS⟩ | e2
  · rcases ha with ha | ha
    · rw [e, e2] at ha; cases ha; exact .inr rfl
    · exact .inl fun e3 => ha _ _ e hpos (e3 ▸ hS)
  · have := hx.block hw e; exact .inl (by omega)
theorem al_none {pz px : Option Addr} {n : Nat} : Al (fun _ => False) pz px n := .inr fun _ _ _ _ e => e
theorem fresh_ne {px : Option Addr} {ws : List Nat} {b o : Nat} {S : Nat → Prop} (hx : Sl .u64 h px ws) (hw : ws ≠ []) (hb : (none = some (⟨b, o, none⟩ : Addr) ∧ S b) ∨ b = h.size) : ∀ b' o', px = some ⟨b', o', none⟩ → b' ≠ b := by
  intro b' o' e
  rcases hb with ⟨e2, _⟩ | e2
  · cases e2
  · have := hx.block hw e; omega

end Go.Proofs
namespace Go.Proofs
open Go Go.Eng
variable {B : World} {R : Ending → Heap → Prop} {h : Heap}
theorem len_le {b : Nat} {xs ys : List Nat} (hb : 1 < b) (dy : Dig b ys) (tx : Trim xs) (hv : val b xs ≤ val b ys) : xs.length ≤ ys.length := by
  by_cases he : xs = []
  · subst he; simp
  have h1 := val_pos he tx (by omega : 0 < b)
  have h2 := val_lt dy
  have h3 : b ^ (xs.length - 1) < b ^ ys.length := by omega
  have := (Nat.pow_lt_pow_iff_right hb).1 h3
  omega
theorem zerosW {k : IntKind} {h h0 : Heap} {b o n : Nat} {cs : Array Value} {zs : List Nat} {K : Heap → Prop} (W : Wrote k h0 h b (o + n) zs) (hO : Own h0 b cs) (hl : o + n ≤ cs.size)
    (H : ∀ h', Wrote k h0 h' b o (List.replicate n 0 ++ zs) → K h') : clW h (some ⟨b, o, none⟩) n 1 #[.int k 0] K := by
  obtain ⟨cs', w1, w2, w3, w4⟩ := W.own hO
  have e : zerosL #[Value.int k 0] n = (List.replicate n 0).map fun w : Nat => Value.int k (w : Int) := by
    apply List.ext_getElem
    · simp [zerosL]
    · intro i h1 h2
      simp [zerosL]
      simp [Nat.mod_one]
  unfold clW
  rw [e]
  refine ⟨b, o, rfl, ?_⟩
  refine ⟨fun x hx => ?_, fun i hi => ?_, ?_⟩
  · obtain ⟨w, _, rfl⟩ := List.mem_map.1 hx; rfl
  · rw [List.length_map, List.length_replicate] at hi
    exact ⟨⟨_, by rw [w1.cell, Array.getElem?_eq_getElem (by omega)]⟩, w1.frozen _⟩
  · have W2 := setRow_wrote (k := k) (o := o) w1 (List.replicate n 0) [] h (Wrote.nil w1) (by rw [List.length_replicate, List.length_nil]; omega)
    simp only [List.nil_append, List.length_nil, Nat.add_zero] at W2 ⊢
    refine H _ ⟨W2.size.trans W.size, fun x hx => (W2.same x hx).trans (W.same x hx), ?_⟩
    obtain ⟨c0, c1, e, a1, a2, a3, a4, a5⟩ := W.blk
    obtain ⟨d1, d2, e', b1, b2, b3, b4, b5⟩ := W2.blk
    have : d1 = c1 ∧ e' = e := by rw [a2] at b1; cases b1; exact ⟨rfl, rfl⟩
    obtain ⟨rfl, rfl⟩ := this
    rw [List.length_replicate] at b4
    refine ⟨c0, d2, e', a1, b2, by omega, fun j hj => ?_, fun j hj => ?_⟩
    · rw [List.length_append, List.length_replicate] at hj
      rw [b4 j (by omega), a4 j (by omega)]
    · rw [List.length_append, List.length_replicate] at hj
      by_cases h : j < n
      · rw [b5 j (by rw [List.length_replicate]; exact h), List.getElem_append_left (by rw [List.length_replicate]; exact h)]
      · have := a5 (j - n) (by omega)
        rw [show o + n + (j - n) = o + j by omega] at this
        rw [b4 _ (by omega), this, List.getElem_append_right (by rw [List.length_replicate]; omega)]
        simp
end Go.Proofs
namespace Go.Proofs
open Go Go.Eng
variable {B : World} {R : Ending → Heap → Prop} {h : Heap}
theorem td64 (s : Nat) : Int.tdiv (s : Int) (64 : Int) = ((s / 64 : Nat) : Int) := by
  rw [Int.tdiv_eq_ediv_of_nonneg (by omega)]; rfl
theorem tm64 (s : Nat) : Int.tmod (s : Int) (64 : Int) = ((s % 64 : Nat) : Int) := by
  rw [Int.tmod_eq_emod_of_nonneg (by omega)]; rfl
theorem pow64 (k : Nat) : B64 ^ k = 2 ^ (64 * k) := by rw [show B64 = 2 ^ 64 from rfl, ← Nat.pow_mul]
theorem pow_s (s : Nat) : 2 ^ s = B64 ^ (s / 64) * 2 ^ (s % 64) := by
  rw [pow64, ← Nat.pow_add]; congr 1; omega
theorem nat0 {pz : Option Addr} {zn zc : Nat} {S : Nat → Prop} (hz : Dst h pz zc S) (H : NatK R h S 0) : slW zn zc none (some (.int .i64 (0 : Int))) none fun l4 l5 l6 => R (.returned (.slice (slP pz l4 l6 1) (l5 - l4) (l6 - l4))) h := by
  refine sl_to (m := 0) rfl (by omega) ?_
  rw [slP0 hz.pt]
  exact H _ _ _ _ Fr.rfl' (Nat.zero_le _) ⟨hz.pt, by decide, [], Sl.nil, rfl, Dig.nil, by simp [Trim], rfl⟩ (hz.mono fun b h => .inl h)
theorem K173j {pz px : Option Addr} {zn zc n xc vx s : Nat} {S : Nat → Prop} (hz : Dst h pz zc S) (hx : NatI h px n vx) (ha : Al S pz px n) (ln : n < 549755813888) (ls : s < 4294967296) (H : NatK R h S (vx * 2 ^ s)) :
    F173_j19 B R pz zn zc px n xc (s : Int) h := by
  obtain ⟨xs, x1, x2, x3, x4, x5⟩ := hx.ex
  have x5 : val B64 xs = vx := x5
  refine ⟨fun e => ?_, fun e => ?_⟩
  · have e : n = 0 := by simpa using e
    have z1 : xs = [] := List.eq_nil_of_length_eq_zero (by omega)
    have hv : vx = 0 := by rw [← x5, z1]; rfl
    rw [hv, Nat.zero_mul] at H
    exact nat0 hz H
  have hn0 : 0 < n := by simp at e; omega
  have xne : xs ≠ [] := fun e => by rw [e] at x2; simp at x2; omega
  have hk : s / 64 < 67108864 := by omega
  have ek : IntKind.i64.wrap (IntKind.u64.wrap (Int.tdiv (s : Int) (64 : Int))) = ((s / 64 : Nat) : Int) := by
    rw [td64, wrap_u64_nat, Nat.mod_eq_of_lt (by omega), i64_in (by omega) (by omega)]
  have en : IntKind.i64.wrap ((n : Int) + IntKind.i64.wrap (IntKind.u64.wrap (Int.tdiv (s : Int) (64 : Int)))) = ((n + s / 64 : Nat) : Int) := by
    rw [ek, i64_in (by omega) (by omega)]; rfl
  have hr : s % 64 < 64 := Nat.mod_lt _ (by decide)
  simp only [en, tm64]
  have ek2 : IntKind.i64.wrap (((n + s / 64 : Nat) : Int) - (n : Int)) = ((s / 64 : Nat) : Int) := by rw [i64_in (by omega) (by omega)]; omega
  simp only [ek2]
  refine ⟨by decide, K194' (n := n + s / 64 + 1) hz (by rw [i64_in (by omega) (by omega)]; omega) (by omega) (by omega) fun b o c cs h1 fE hO hl hc hlim hb => ⟨_, _, _, rfl, by decide, ?_⟩⟩
  have nex := ha.at x1 xne x2 hb
  have x1' := x1.ext fE
  have done : ∀ (zs : List Nat) (c2 : Nat) (h2 : Heap), Wrote .u64 h1 h2 b (o + s / 64) zs → zs.length = n → Dig B64 zs → c2 < B64 → val B64 zs + B64 ^ n * c2 = vx * 2 ^ (s % 64) →
      ixW (some ⟨b, o, none⟩) (n + s / 64 + 1) ((n + s / 64 : Nat) : Int) 1 fun b37 o38 => isP (some ⟨b37, o38, none⟩) fun b39 o40 => stC h2 b39 o40 (.int .u64 (c2 : Int)) fun h41 => F173_j42 B R (some ⟨b, o, none⟩) (n + s / 64 + 1) c (n : Int) ((n + s / 64 : Nat) : Int) h41 := by
    intro zs c2 h2 W lz dz hc2 hv
    obtain ⟨cs2, w1, w2, _, _⟩ := W.own hO
    refine ⟨b, o, rfl, by omega, by omega, b, _, rfl, ?_⟩
    rw [Int.toNat_natCast, Nat.mul_one]
    refine w1.stC (by omega) rfl fun _ _ => ?_
    have W' := W.snoc c2 hO (by omega)
    rw [show o + s / 64 + zs.length = o + (n + s / 64) by omega] at W'
    unfold F173_j42
    rw [ek2]
    refine sl_ft (l := 0) (m := s / 64) rfl rfl (by omega) (by omega) ?_
    rw [slP0 pt_some, Nat.sub_zero]
    refine zerosW W' hO (by omega) fun h3 W3 => ?_
    refine natEnd fE.to W3 (Dst.inS hb) hO hl (by simp; omega) hc hlim (Dig.append (fun w hw => by rw [List.eq_of_mem_replicate hw]; decide) (dz.snoc hc2)) ?_ H
    rw [val_append, val_zeros, val_snoc, List.length_replicate, lz, hv, Nat.zero_add, pow_s s, Nat.mul_left_comm]
  refine ⟨fun e => ?_, fun e => ?_⟩
  · have e0 : s % 64 = 0 := Int.natCast_eq_zero.1 (of_decide_eq_true e)
    refine sl_ft (l := s / 64) (m := n + s / 64) rfl rfl (by omega) (by omega) ?_
    rw [slP_some (by omega), show n + s / 64 - s / 64 = n by omega]
    refine copyK (xs := xs) x1' x2 hx.pt hO (by omega) fun h2 W => ?_
    rw [show Nat.min n n = n from Nat.min_self n, List.take_of_length_le (by omega)] at W
    exact done xs 0 h2 W x2 x3 (by decide) (by rw [x5, e0]; simp)
  · refine sl_ft (l := s / 64) (m := n + s / 64) rfl rfl (by omega) (by omega) ?_
    rw [slP_some (by omega), show n + s / 64 - s / 64 = n by omega]
    refine E206 (K140 rfl hO (by omega) x1' hx.pt x2 (by omega) x3 (fun b' o' e => by have := nex b' o' e; omega) hr fun zs c2 h2 W lz dz hc2 hv => ⟨_, rfl, ?_⟩)
    exact done zs c2 h2 W lz dz hc2 (by rw [hv, x5])
theorem K199n {px : Option Addr} {n xc : Nat} (H : R (.returned (.bool false)) h) : Ent Tryz.prog B 122 #[.slice none 0 0, .slice px n xc] R h :=
  F199_ok _ _ _ _ _ _ ⟨fun _ => ⟨fun e => by simp at e, fun _ => H⟩, fun _ => ⟨fun e => Bool.noConfusion e, fun _ => H⟩⟩
theorem K200n {px : Option Addr} {n xc : Nat} (H : R (.returned (.bool false)) h) : Ent Tryz.prog B 123 #[.slice none 0 0, .slice px n xc] R h :=
  F200_ok _ _ _ _ _ _ ⟨fun e => by simp at e, fun _ => ⟨fun e => Bool.noConfusion e, fun _ => H⟩⟩
/-- nat.lsh, into new memory. -/
theorem K173f {px : Option Addr} {n xc vx s : Nat} (hx : NatI h px n vx) (ln : n < 549755813888) (ls : s < 4294967296) (H : NatK R h (fun _ => False) (vx * 2 ^ s)) :
    Ent Tryz.prog B 94 #[.slice none 0 0, .slice px n xc, .int .u64 (s : Int)] R h := by
  refine F173_ok _ _ _ _ _ _ _ ⟨fun e => ?_, fun _ => K173j Dst.none hx al_none ln ls H⟩
  have e0 : s = 0 := Int.natCast_eq_zero.1 (of_decide_eq_true e)
  subst e0
  refine K199n ⟨_, rfl, fun e => (by cases e), fun _ => K200n ⟨_, rfl, fun _ => ?_, fun e => (by cases e)⟩⟩
  rw [Nat.pow_zero, Nat.mul_one] at H
  exact K182 Dst.none hx (by omega) fun q c' h' f1 f2 f3 f4 => ⟨_, _, _, rfl, H _ _ _ _ f1 f2 f3 f4⟩
/-- nat.lsh, where it is. -/
theorem K173i {px : Option Addr} {n xc vx s : Nat} {S : Nat → Prop} (hz : Dst h px xc S) (hx : NatI h px n vx) (ln : n < 549755813888) (l0 : 0 < s) (ls : s < 4294967296) (H : NatK R h S (vx * 2 ^ s)) :
    Ent Tryz.prog B 94 #[.slice px n xc, .slice px n xc, .int .u64 (s : Int)] R h :=
  F173_ok _ _ _ _ _ _ _ ⟨fun e => by have := Int.natCast_eq_zero.1 (of_decide_eq_true e); omega, fun _ => K173j hz hx (.inl rfl) ln ls H⟩
theorem K165j {pz px : Option Addr} {zn zc n xc vx s : Nat} {S : Nat → Prop} (hz : Dst h pz zc S) (hx : NatI h px n vx) (ha : Al S pz px n) (hxc : n ≤ xc) (ls : s < 4294967296) (ln : n < 549755813888) (H : NatK R h S (vx / 2 ^ s)) :
    F165_j19 B R pz zn zc px n xc (s : Int) h := by
  obtain ⟨xs, x1, x2, x3, x4, x5⟩ := hx.ex
  have x5 : val B64 xs = vx := x5
  have ek : IntKind.i64.wrap (IntKind.u64.wrap (Int.tdiv (s : Int) (64 : Int))) = ((s / 64 : Nat) : Int) := by
    rw [td64, wrap_u64_nat, Nat.mod_eq_of_lt (by omega), i64_in (by omega) (by omega)]
  have hv : vx / 2 ^ s = val B64 (xs.drop (s / 64)) / 2 ^ (s % 64) := by
    rw [pow_s s, ← Nat.div_div_eq_div_mul, ← x5]
    congr 1
    by_cases hk : s / 64 ≤ xs.length
    · rw [val_split B64 xs hk, Nat.add_mul_div_left _ _ (Nat.pow_pos (by decide)), Nat.div_eq_of_lt, Nat.zero_add]
      have := val_lt (x3.take (s / 64))
      rw [List.length_take, Nat.min_eq_left hk] at this
      exact this
    · rw [List.drop_of_length_le (by omega)]
      refine Nat.div_eq_of_lt (Nat.lt_of_lt_of_le (val_lt x3) (Nat.pow_le_pow_right (by decide) (by omega)))
  simp only [F165_j19, ek]
  refine ⟨by decide, fun e => ?_, fun e => ?_⟩
  · have e : n ≤ s / 64 := by rw [i64_in (by omega) (by omega)] at e; simp at e; omega
    have : vx / 2 ^ s = 0 := by rw [hv, List.drop_of_length_le (by omega)]; simp [val]
    rw [this] at H
    exact nat0 hz H
  have hlt : s / 64 < n := by rw [i64_in (by omega) (by omega)] at e; simp at e; omega
  have en : IntKind.i64.wrap ((n : Int) - ((s / 64 : Nat) : Int)) = ((n - s / 64 : Nat) : Int) := by rw [i64_in (by omega) (by omega)]; omega
  have ek2 : IntKind.i64.wrap ((n : Int) - ((n - s / 64 : Nat) : Int)) = ((s / 64 : Nat) : Int) := by rw [i64_in (by omega) (by omega)]; omega
  simp only [en, ek2, tm64]
  have xne : xs ≠ [] := fun e => by rw [e] at x2; simp at x2; omega
  refine K194' (n := n - s / 64) hz rfl (by omega) (by omega) fun b o c cs h1 fE hO hl hc hlim hb => ⟨_, _, _, rfl, by decide, ?_⟩
  have nex := ha.at x1 xne x2 hb
  have x1' : Sl .u64 h1 (slP px (s / 64) xc 1) (xs.drop (s / 64)) := (x1.ext fE).drop _ _ (fun _ => by omega)
  have nex' : ∀ b' o', slP px (s / 64) xc 1 = some ⟨b', o', none⟩ → b' ≠ b ∨ o ≤ o' := by
    intro b' o' e
    rcases x1 with h | ⟨b'', o'', cs'', e1, _⟩
    · exact absurd h xne
    · subst e1
      rw [slP_some (by omega)] at e
      cases e
      have := nex b' o'' rfl; omega
  refine ⟨fun e => ?_, fun e => ?_⟩
  · have e0 : s % 64 = 0 := Int.natCast_eq_zero.1 (of_decide_eq_true e)
    refine sl_from (l := s / 64) rfl (by omega) ?_
    refine copyK x1' (by rw [List.length_drop]; omega) (hx.pt.slP _ _) hO (by omega) fun h2 W => ?_
    rw [show Nat.min (n - s / 64) (n - s / 64) = n - s / 64 from Nat.min_self _, List.take_of_length_le (by rw [List.length_drop]; omega)] at W
    refine natEnd fE.to W (Dst.inS hb) hO hl (by rw [List.length_drop]; omega) hc hlim (x3.drop _) ?_ H
    rw [hv, e0]; simp
  · refine sl_from (l := s / 64) rfl (by omega) ?_
    refine E201 (K141 rfl hO (by omega) x1' (hx.pt.slP _ _) (by rw [List.length_drop]; omega) (by omega) (x3.drop _) nex' (Nat.mod_lt _ (by decide)) fun zs c2 h2 W lz dz hc2 hv2 => ⟨_, rfl, ?_⟩)
    exact natEnd fE.to W (Dst.inS hb) hO hl lz hc hlim dz (by rw [hv2, hv]) H
/-- nat.rsh, into new memory. -/
theorem K165f {px : Option Addr} {n xc vx s : Nat} (hx : NatI h px n vx) (hxc : n ≤ xc) (ln : n < 549755813888) (ls : s < 4294967296) (H : NatK R h (fun _ => False) (vx / 2 ^ s)) :
    Ent Tryz.prog B 172 #[.slice none 0 0, .slice px n xc, .int .u64 (s : Int)] R h := by
  refine F165_ok _ _ _ _ _ _ _ ⟨fun e => ?_, fun _ => K165j Dst.none hx al_none hxc ls ln H⟩
  have e0 : s = 0 := Int.natCast_eq_zero.1 (of_decide_eq_true e)
  subst e0
  refine K199n ⟨_, rfl, fun e => (by cases e), fun _ => K200n ⟨_, rfl, fun _ => ?_, fun e => (by cases e)⟩⟩
  rw [Nat.pow_zero, Nat.div_one] at H
  exact K182 Dst.none hx (by omega) fun q c' h' f1 f2 f3 f4 => ⟨_, _, _, rfl, H _ _ _ _ f1 f2 f3 f4⟩
/-- nat.rsh, where it is. -/
theorem K165i {px : Option Addr} {n xc vx s : Nat} {S : Nat → Prop} (hz : Dst h px xc S) (hx : NatI h px n vx) (hxc : n ≤ xc) (ln : n < 549755813888) (l0 : 0 < s) (ls : s < 4294967296) (H : NatK R h S (vx / 2 ^ s)) :
    Ent Tryz.prog B 172 #[.slice px n xc, .slice px n xc, .int .u64 (s : Int)] R h :=
  F165_ok _ _ _ _ _ _ _ ⟨fun e => by have := Int.natCast_eq_zero.1 (of_decide_eq_true e); omega, fun _ => K165j hz hx (.inl rfl) hxc ls ln H⟩
end Go.Proofs
namespace Go.Eng
theorem or_split {A C a c k : Nat} (hA : A < 2 ^ k) (hC : C < 2 ^ k) : (A + 2 ^ k * a) ||| (C + 2 ^ k * c) = (A ||| C) + 2 ^ k * (a ||| c) := by
  have e1 : ∀ {x y : Nat}, x < 2 ^ k → x + 2 ^ k * y = 2 ^ k * y ||| x := fun hx => by rw [Nat.add_comm]; exact Nat.two_pow_add_eq_or_of_lt hx _
  rw [e1 hA, e1 hC, e1 (Nat.or_lt_two_pow hA hC)]
  have e2 : 2 ^ k * (a ||| c) = 2 ^ k * a ||| 2 ^ k * c := by
    simp only [Nat.mul_comm (2 ^ k), ← Nat.shiftLeft_eq]; exact Nat.shiftLeft_or_distrib
  rw [e2]
  apply Nat.eq_of_testBit_eq
  intro i
  simp only [Nat.testBit_or]
  cases Nat.testBit (2 ^ k * a) i <;> cases Nat.testBit A i <;> cases Nat.testBit (2 ^ k * c) i <;> cases Nat.testBit C i <;> rfl
theorem and_split {A C a c k : Nat} (hA : A < 2 ^ k) (hC : C < 2 ^ k) : (A + 2 ^ k * a) &&& (C + 2 ^ k * c) = (A &&& C) + 2 ^ k * (a &&& c) := by
  apply Nat.eq_of_testBit_eq
  intro i
  have t : ∀ {x y : Nat}, x < 2 ^ k → (x + 2 ^ k * y).testBit i = if i < k then x.testBit i else y.testBit (i - k) := fun hx => by
    rw [Nat.add_comm]; exact Nat.testBit_two_pow_mul_add _ hx i
  rw [Nat.testBit_and, t hA, t hC, t (Nat.lt_of_le_of_lt Nat.and_le_left hA)]
  split <;> simp
end Go.Eng
namespace Go.Proofs
open Go Go.Eng
variable {B : World} {R : Ending → Heap → Prop} {h : Heap}
theorem val_lt64 {ws : List Nat} (d : Dig B64 ws) {n : Nat} (hn : ws.length = n) : val B64 ws < 2 ^ (64 * n) := by rw [← pow64, ← hn]; exact val_lt d
/-- The loop of nat.or, and the rest. -/
theorem K168m {pz px py ps : Option Addr} {zn zc n n' xc m yc sn sc : Nat} {S : Nat → Prop} {xs ys ss : List Nat} {vs : Nat} (hz : Dst h pz zc S) (hx : Sl .u64 h px xs) (hy : Sl .u64 h py ys) (hs : Sl .u64 h ps ss)
    (dx : Dig B64 xs) (dy : Dig B64 ys) (ds : Dig B64 ss) (hmx : m ≤ xs.length) (hmy : m ≤ ys.length) (hxn : xs.length = n) (hyn : ys.length = n') (hss : ss.length = sn) (hm : m ≤ sn) (hsc : sn ≤ sc) (h0 : 0 < sn)
    (ax : Al S pz px n) (ay : Al S pz py n') (al : Al S pz ps sn) (pps : Pt ps) (ln : sn < 549755813888)
    (hv : ∀ zs : List Nat, zs.length = m → Dig B64 zs → val B64 zs = (val B64 (xs.take m) ||| val B64 (ys.take m)) → val B64 (zs ++ ss.drop m) = vs) (H : NatK R h S vs) :
    F168_j4 B R pz zn zc px n xc py n' yc (sn : Int) (m : Int) ps sn sc h := by
  have sne : ss ≠ [] := fun e => by rw [e] at hss; simp at hss; omega
  refine K194' (n := sn) hz rfl (by omega) (by omega) fun b o c cs h1 fE hO hl hc hlim hb => ⟨_, _, _, rfl, ?_⟩
  have x1 := hx.ext fE
  have y1 := hy.ext fE
  have s1 := hs.ext fE
  refine ⟨fun mm vs h' => match vs with
    | [.slice p1 n1 c1, .slice p2 n2 c2, .slice p3 n3 c3, .int _ sn', .int _ m', .slice p4 n4 c4, .int _ i] => some ⟨b, o, none⟩ = p1 ∧ sn = n1 ∧ c = c1 ∧ px = p2 ∧ n = n2 ∧ py = p3 ∧ n' = n3 ∧ (sn : Int) = sn' ∧ (m : Int) = m' ∧ ps = p4 ∧ sn = n4 ∧ sc = c4 ∧
        ∃ zs : List Nat, Wrote .u64 h1 h' b o zs ∧ i = (zs.length : Int) ∧ mm = m - zs.length ∧ zs.length ≤ m ∧ Dig B64 zs ∧ val B64 zs = (val B64 (xs.take zs.length) ||| val B64 (ys.take zs.length))
    | _ => False, m, ⟨rfl, rfl, rfl, rfl, rfl, rfl, rfl, rfl, rfl, rfl, rfl, rfl, [], Wrote.nil hO, rfl, by simp, by simp, Dig.nil, by simp [val]⟩, ?_⟩
  rintro mm h' _ _ _ _ _ _ _ _ _ _ _ _ _ _ _ ⟨rfl, rfl, rfl, rfl, rfl, rfl, rfl, rfl, rfl, rfl, rfl, rfl, zs, W, rfl, rfl, hzm, dz, hvz⟩ _
  refine ⟨fun e => ?_, fun e => ?_⟩
  · have hlt : zs.length < m := by simp at e; omega
    have xne : xs ≠ [] := fun e => by rw [e] at hmx; simp at hmx; omega
    have yne : ys ≠ [] := fun e => by rw [e] at hmy; simp at hmy; omega
    refine x1.getW W zs.length rfl (by omega) (by omega) (fun b' o' e => by have := ax.at hx xne hxn hb b' o' e; omega) ?_
    refine y1.getW W zs.length rfl (by omega) (by omega) (fun b' o' e => by have := ay.at hy yne hyn hb b' o' e; omega) ?_
    have d1 : xs[zs.length]'(by omega) < B64 := dx.get (by omega)
    have d2 : ys[zs.length]'(by omega) < B64 := dy.get (by omega)
    rw [bitsI_or d1 d2]
    refine W.put hO _ rfl rfl (by omega) (by omega : o + sn ≤ cs.size) fun W' => ?_
    refine ⟨m - (zs.length + 1), by omega, rfl, rfl, rfl, rfl, rfl, rfl, rfl, rfl, rfl, rfl, rfl, rfl, _, W', by rw [i64_in (by omega) (by omega)]; simp, by simp, by simp; omega, dz.snoc (Nat.or_lt_two_pow (n := 64) d1 d2), ?_⟩
    rw [List.length_append, List.length_singleton, val_snoc, hvz, val_take_succ _ _ (by omega), val_take_succ _ _ (by omega : zs.length < ys.length), pow64]
    exact (or_split (val_lt64 (dx.take _) (by rw [List.length_take]; omega)) (val_lt64 (dy.take _) (by rw [List.length_take]; omega))).symm
  · have hlm : zs.length = m := by simp at e; omega
    refine sl_ft (l := m) (m := sn) rfl rfl (by omega) (by omega) (sl_ft (l := m) (m := sn) rfl rfl (by omega) (by omega) ?_)
    have fin : ∀ {h2 : Heap} {us : List Nat}, us = zs ++ ss.drop m → Wrote .u64 h1 h2 b o us → F168_j61 B R (fun mm vs h' => match vs with
        | [.slice p1 n1 c1, .slice p2 n2 c2, .slice p3 n3 c3, .int _ sn', .int _ m', .slice p4 n4 c4, .int _ i] => some ⟨b, o, none⟩ = p1 ∧ sn = n1 ∧ c = c1 ∧ px = p2 ∧ n = n2 ∧ py = p3 ∧ n' = n3 ∧ (sn : Int) = sn' ∧ (m : Int) = m' ∧ ps = p4 ∧ sn = n4 ∧ sc = c4 ∧
            ∃ zs : List Nat, Wrote .u64 h1 h' b o zs ∧ i = (zs.length : Int) ∧ mm = m - zs.length ∧ zs.length ≤ m ∧ Dig B64 zs ∧ val B64 zs = (val B64 (xs.take zs.length) ||| val B64 (ys.take zs.length))
        | _ => False) (m - zs.length) (some ⟨b, o, none⟩) sn c h2 := by
      intro h2 us hu W2
      subst hu
      exact natEnd fE.to W2 (Dst.inS hb) hO hl (by rw [List.length_append, List.length_drop]; omega) hc hlim (dz.append (ds.drop m)) (hv zs hlm dz (by rw [hvz, hlm])) H
    by_cases hme : m = sn
    · have hd : ss.drop m = [] := List.drop_eq_nil_of_le (by omega)
      have h00 : sn - m = 0 := by omega
      rw [h00]
      refine ⟨[], ?_, ?_⟩
      · exact Sl.row (k := .u64) (ws := []) Sl.nil (pps.slP _ _) rfl
      · have hpz : ∃ b' o', slP (some ⟨b, o, none⟩) m c 1 = some ⟨b', o', none⟩ := by
          unfold slP; split
          · exact ⟨_, _, rfl⟩
          · exact ⟨b, o + m * 1, by simp [add_addr]⟩
        obtain ⟨b', o', hb'⟩ := hpz
        rw [hb']
        refine ⟨b', o', rfl, fun x hx => absurd hx (by simp), fun i hi => absurd hi (by simp), fin (by rw [hd, List.append_nil]) W⟩
    · rw [slP_some (by omega)]
      obtain ⟨cs2, w1, w2, w3, w4⟩ := W.own hO
      have as' := al.at hs sne hss hb
      have s2 : Sl .u64 h' (slP ps m sc 1) (ss.drop m) := by
        rcases s1 with e | ⟨b', o', cs', e1, e2, e3⟩
        · exact absurd e sne
        subst e1
        rw [slP_some (by omega)]
        have hcase := as' b' o' rfl
        by_cases hbb : b' = b
        · subst hbb
          have ho' : o' = o := by omega
          subst ho'
          have := e2.inj hO
          subst this
          refine .inr ⟨_, _, cs2, rfl, w1, fun i hi => ?_⟩
          rw [List.length_drop] at hi
          rw [w3 _ (by omega), List.getElem_drop, Nat.add_assoc, e3 (m + i) (by omega)]
        · refine .inr ⟨_, _, cs', rfl, e2.fr W.fr hbb, fun i hi => ?_⟩
          rw [List.length_drop] at hi
          rw [List.getElem_drop, Nat.add_assoc, e3 (m + i) (by omega)]
      refine copyK s2 (by rw [List.length_drop]; omega) (pps.slP _ _) w1 (by omega) fun h2 W2 => ?_
      rw [show Nat.min (sn - m) (sn - m) = sn - m from Nat.min_self _, List.take_of_length_le (by rw [List.length_drop]; omega)] at W2
      exact fin rfl (W.append W2 (by rw [hlm]))
/-- nat.or, where x is. -/
theorem K168i {px py : Option Addr} {n xc m yc vx vy : Nat} {S : Nat → Prop} (hz : Dst h px xc S) (hx : NatI h px n vx) (hy : NatI h py m vy) (hay : Al S px py m) (hxc : n ≤ xc) (hyc : m ≤ yc) (ln : n < 549755813888) (lm : m < 549755813888) (h0 : 0 < vx ||| vy) (H : NatK R h S (vx ||| vy)) :
    Ent Tryz.prog B 106 #[.slice px n xc, .slice px n xc, .slice py m yc] R h := by
  obtain ⟨xs, x1, x2, x3, x4, x5⟩ := hx.ex
  obtain ⟨ys, y1, y2, y3, y4, y5⟩ := hy.ex
  have x5 : val B64 xs = vx := x5
  have y5 : val B64 ys = vy := y5
  have hne : 0 < n ∨ 0 < m := by
    by_cases hn : n = 0
    · by_cases hm : m = 0
      · exfalso
        rw [← x5, ← y5, List.eq_nil_of_length_eq_zero (x2.trans hn), List.eq_nil_of_length_eq_zero (y2.trans hm)] at h0
        exact absurd h0 (by decide)
      · omega
    · omega
  refine F168_ok _ _ _ _ _ _ _ _ _ ⟨fun e => ?_, fun e => ?_⟩
  · have hlt : n < m := by simp at e; omega
    refine K168m hz x1 y1 y1 x3 y3 y3 (by omega) (by omega) x2 y2 y2 (by omega) hyc (by omega) (.inl rfl) hay hay hy.pt (by omega) (fun zs lz dz hv => ?_) H
    rw [val_append, lz, hv, List.take_of_length_le (by omega : xs.length ≤ n), ← x5, ← y5, val_split B64 ys (i := n) (by omega), pow64]
    have := or_split (a := 0) (c := val B64 (ys.drop n)) (val_lt64 x3 x2) (val_lt64 (y3.take n) (n := n) (by rw [List.length_take]; omega))
    rw [Nat.mul_zero, Nat.add_zero, Nat.zero_or] at this
    exact this.symm
  · have hle : m ≤ n := by simp at e; omega
    refine K168m hz x1 y1 x1 x3 y3 x3 (by omega) (by omega) x2 y2 x2 (by omega) hxc (by omega) (.inl rfl) hay (.inl rfl) hx.pt (by omega) (fun zs lz dz hv => ?_) H
    rw [val_append, lz, hv, List.take_of_length_le (by omega : ys.length ≤ m), ← x5, ← y5, val_split B64 xs (i := m) (by omega), pow64]
    have := or_split (c := 0) (a := val B64 (xs.drop m)) (val_lt64 (x3.take m) (n := m) (by rw [List.length_take]; omega)) (val_lt64 y3 y2)
    rw [Nat.mul_zero, Nat.add_zero, Nat.or_zero] at this
    exact this.symm
end Go.Proofs
namespace Go.Proofs
open Go Go.Eng
variable {B : World} {R : Ending → Heap → Prop} {h : Heap}
/-- nat.and, into new memory. -/
theorem K169m {px py : Option Addr} {n n' xc m yc vx vy : Nat} {xs ys : List Nat} (hx : Sl .u64 h px xs) (hy : Sl .u64 h py ys)
    (dx : Dig B64 xs) (dy : Dig B64 ys) (hmx : m ≤ xs.length) (hmy : m ≤ ys.length) (hxn : xs.length = n) (hyn : ys.length = n') (h0 : 0 < m) (ln : m < 549755813888) {vs : Nat}
    (hv : (val B64 (xs.take m) &&& val B64 (ys.take m)) = vs) (H : NatK R h (fun _ => False) vs) :
    F169_j4 B R none 0 0 px n xc py n' yc (m : Int) h := by
  have xne : xs ≠ [] := fun e => by rw [e] at hmx; simp at hmx; omega
  have yne : ys ≠ [] := fun e => by rw [e] at hmy; simp at hmy; omega
  refine K194' (n := m) (S := fun _ => False) Dst.none rfl (by omega) (by omega) fun b o c cs h1 fE hO hl hc hlim hb => ⟨_, _, _, rfl, ?_⟩
  have x1 := hx.ext fE
  have y1 := hy.ext fE
  have nex := fresh_ne (S := fun _ => False) hx xne hb
  have ney := fresh_ne (S := fun _ => False) hy yne hb
  refine ⟨fun mm vs h' => match vs with
    | [.slice p1 n1 c1, .slice p2 n2 c2, .slice p3 n3 c3, .int _ m', .int _ i] => some ⟨b, o, none⟩ = p1 ∧ m = n1 ∧ c = c1 ∧ px = p2 ∧ n = n2 ∧ py = p3 ∧ n' = n3 ∧ (m : Int) = m' ∧
        ∃ zs : List Nat, Wrote .u64 h1 h' b o zs ∧ i = (zs.length : Int) ∧ mm = m - zs.length ∧ zs.length ≤ m ∧ Dig B64 zs ∧ val B64 zs = (val B64 (xs.take zs.length) &&& val B64 (ys.take zs.length))
    | _ => False, m, ⟨rfl, rfl, rfl, rfl, rfl, rfl, rfl, rfl, [], Wrote.nil hO, rfl, by simp, by simp, Dig.nil, by simp [val]⟩, ?_⟩
  rintro mm h' _ _ _ _ _ _ _ _ _ _ _ ⟨rfl, rfl, rfl, rfl, rfl, rfl, rfl, rfl, zs, W, rfl, rfl, hzm, dz, hvz⟩ _
  refine ⟨fun e => ?_, fun e => ?_⟩
  · have hlt : zs.length < m := by simp at e; omega
    refine x1.getW W zs.length rfl (by omega) (by omega) (fun b' o' e => .inl (nex b' o' e)) ?_
    refine y1.getW W zs.length rfl (by omega) (by omega) (fun b' o' e => .inl (ney b' o' e)) ?_
    have d1 : xs[zs.length]'(by omega) < B64 := dx.get (by omega)
    have d2 : ys[zs.length]'(by omega) < B64 := dy.get (by omega)
    rw [bitsI_and d1, Nat.mod_eq_of_lt d2]
    refine W.put hO _ rfl rfl (by omega) (by omega : o + m ≤ cs.size) fun W' => ?_
    refine ⟨m - (zs.length + 1), by omega, rfl, rfl, rfl, rfl, rfl, rfl, rfl, rfl, _, W', by rw [i64_in (by omega) (by omega)]; simp, by simp, by simp; omega, dz.snoc (Nat.lt_of_le_of_lt Nat.and_le_left d1), ?_⟩
    rw [List.length_append, List.length_singleton, val_snoc, hvz, val_take_succ _ _ (by omega), val_take_succ _ _ (by omega : zs.length < ys.length), pow64]
    exact (and_split (val_lt64 (dx.take _) (by rw [List.length_take]; omega)) (val_lt64 (dy.take _) (by rw [List.length_take]; omega))).symm
  · have hlm : zs.length = m := by simp at e; omega
    exact natEnd fE.to W (Dst.inS hb) hO hl hlm hc hlim dz (by rw [hvz, hlm]; exact hv) H
theorem K169f {px py : Option Addr} {n xc m yc vx vy : Nat} (hx : NatI h px n vx) (hy : NatI h py m vy) (ln : n < 549755813888) (lm : m < 549755813888) (hn0 : 0 < n) (hm0 : 0 < m) (H : NatK R h (fun _ => False) (vx &&& vy)) :
    Ent Tryz.prog B 105 #[.slice none 0 0, .slice px n xc, .slice py m yc] R h := by
  obtain ⟨xs, x1, x2, x3, x4, x5⟩ := hx.ex
  obtain ⟨ys, y1, y2, y3, y4, y5⟩ := hy.ex
  have x5 : val B64 xs = vx := x5
  have y5 : val B64 ys = vy := y5
  refine F169_ok _ _ _ _ _ _ _ _ _ ⟨fun e => ?_, fun e => ?_⟩
  · have hlt : m < n := by simp at e; omega
    refine K169m x1 y1 x3 y3 (by omega) (by omega) x2 y2 hm0 (by omega) (vx := 0) (vy := 0) ?_ H
    rw [List.take_of_length_le (by omega : ys.length ≤ m), ← x5, ← y5, val_split B64 xs (i := m) (by omega), pow64]
    have := and_split (c := 0) (a := val B64 (xs.drop m)) (val_lt64 (x3.take m) (n := m) (by rw [List.length_take]; omega)) (val_lt64 y3 y2)
    rw [Nat.mul_zero, Nat.add_zero, Nat.and_zero, Nat.mul_zero, Nat.add_zero] at this
    exact this.symm
  · have hle : n ≤ m := by simp at e; omega
    refine K169m x1 y1 x3 y3 (by omega) (by omega) x2 y2 hn0 (by omega) (vx := 0) (vy := 0) ?_ H
    rw [List.take_of_length_le (by omega : xs.length ≤ n), ← x5, ← y5, val_split B64 ys (i := n) (by omega), pow64]
    have := and_split (a := 0) (c := val B64 (ys.drop n)) (val_lt64 x3 x2) (val_lt64 (y3.take n) (n := n) (by rw [List.length_take]; omega))
    rw [Nat.mul_zero, Nat.add_zero, Nat.zero_and, Nat.mul_zero, Nat.add_zero] at this
    exact this.symm
end Go.Proofs
namespace Go.Proofs
open Go Go.Eng
variable {B : World} {R : Ending → Heap → Prop} {h : Heap}
theorem len8tab_at : ∀ k : Fin 256, (⟨#[0, 1, 2, 2, 3, 3, 3, 3, 4, 4, 4, 4, 4, 4, 4, 4, 5, 5, 5, 5, 5, 5, 5, 5, 5, 5, 5, 5, 5, 5, 5, 5, 6, 6, 6, 6, 6, 6, 6, 6, 6, 6, 6, 6, 6, 6, 6, 6, 6, 6, 6, 6, 6, 6, 6, 6, 6, 6, 6, 6, 6, 6, 6, 6, 7, 7, 7, 7, 7, 7, 7, 7, 7, 7, 7, 7, 7, 7, 7, 7, 7, 7, 7, 7, 7, 7, 7, 7, 7, 7, 7, 7, 7, 7, 7, 7, 7, 7, 7, 7, 7, 7, 7, 7, 7, 7, 7, 7, 7, 7, 7, 7, 7, 7, 7, 7, 7, 7, 7, 7, 7, 7, 7, 7, 7, 7, 7, 7, 8, 8, 8, 8, 8, 8, 8, 8, 8, 8, 8, 8, 8, 8, 8, 8, 8, 8, 8, 8, 8, 8, 8, 8, 8, 8, 8, 8, 8, 8, 8, 8, 8, 8, 8, 8, 8, 8, 8, 8, 8, 8, 8, 8, 8, 8, 8, 8, 8, 8, 8, 8, 8, 8, 8, 8, 8, 8, 8, 8, 8, 8, 8, 8, 8, 8, 8, 8, 8, 8, 8, 8, 8, 8, 8, 8, 8, 8, 8, 8, 8, 8, 8, 8, 8, 8, 8, 8, 8, 8, 8, 8, 8, 8, 8, 8, 8, 8, 8, 8, 8, 8, 8, 8, 8, 8, 8, 8, 8, 8, 8, 8, 8, 8, 8, 8, 8, 8, 8, 8, 8, 8, 8, 8, 8, 8, 8, 8]⟩ : ByteArray)[k.val]? = some (UInt8.ofNat (Lib.bitLen k.val)) := by decide +kernel
theorem bitLen_u8 : ∀ k : Fin 256, (UInt8.ofNat (Lib.bitLen k.val)).toNat = Lib.bitLen k.val := by decide +kernel
theorem wrap_u8_nat {x : Nat} (hx : x < 256) : IntKind.u8.wrap (x : Int) = (x : Int) := by
  have h : IntKind.u8.wrap (x : Int) = (x : Int) % 256 := rfl
  rw [h]; omega
theorem K221e {x a : Nat} (hx : x < 256) (ha : a ≤ 56) (H : R (.returned (.int .i64 ((a + Lib.bitLen x : Nat) : Int))) h) : F221_j10 B R (x : Int) (a : Int) h := by
  unfold F221_j10
  rw [wrap_u8_nat hx]
  refine ⟨by omega, _, len8tab_at ⟨x, hx⟩, ?_⟩
  have l := Lib.bitLen_le8 ⟨x, hx⟩
  simp only at l
  have eb : (UInt8.ofNat (Lib.bitLen x)).toNat = Lib.bitLen x := bitLen_u8 ⟨x, hx⟩
  show R (.returned (.int .i64 (IntKind.i64.wrap ((a : Int) + (IntKind.i64.wrap (((UInt8.ofNat (Lib.bitLen x)).toNat : Nat) : Int)))))) h
  rw [eb, i64_in (x := (Lib.bitLen x : Int)) (by omega) (by omega), i64_in (by omega) (by omega)]
  exact H
theorem sh8 (x : Nat) : Int.fdiv (x : Int) (2 ^ min (Int.toNat (8 : Int)) IntKind.u64.bits) = ((x / 256 : Nat) : Int) := fdiv_pow (x := x) (s := 8) (by decide)
theorem sh16 (x : Nat) : Int.fdiv (x : Int) (2 ^ min (Int.toNat (16 : Int)) IntKind.u64.bits) = ((x / 65536 : Nat) : Int) := fdiv_pow (x := x) (s := 16) (by decide)
theorem K221d {x a : Nat} (hx : x < 65536) (ha : a ≤ 48) (H : R (.returned (.int .i64 ((a + Lib.bitLen x : Nat) : Int))) h) : F221_j6 B R (x : Int) (a : Int) h := by
  refine ⟨fun e => ⟨by decide, ?_⟩, fun e => ?_⟩
  · have e : 256 ≤ x := by simp at e; omega
    rw [sh8, i64_in (by omega) (by omega)]
    refine K221e (a := a + 8) (by omega) (by omega) ?_
    rw [Lib.bitLen_shift8 x e (by omega)] at H
    rw [show a + 8 + Lib.bitLen (x / 256) = a + (8 + Lib.bitLen (x / 256)) by omega]; exact H
  · exact K221e (by simp at e; omega) (by omega) H
theorem K221c {x a : Nat} (hx : x < 4294967296) (ha : a ≤ 32) (H : R (.returned (.int .i64 ((a + Lib.bitLen x : Nat) : Int))) h) : F221_j2 B R (x : Int) (a : Int) h := by
  refine ⟨fun e => ⟨by decide, ?_⟩, fun e => ?_⟩
  · have e : 65536 ≤ x := by simp at e; omega
    rw [sh16, i64_in (by omega) (by omega)]
    refine K221d (a := a + 16) (by omega) (by omega) ?_
    rw [Lib.bitLen_shift16 x e (by omega)] at H
    rw [show a + 16 + Lib.bitLen (x / 65536) = a + (16 + Lib.bitLen (x / 65536)) by omega]; exact H
  · exact K221d (by simp at e; omega) (by omega) H
/-- Len64. -/
theorem K221 {x : Nat} (hx : x < B64) (H : R (.returned (.int .i64 (Lib.bitLen x : Int))) h) : Ent Tryz.prog B 140 #[.int .u64 (x : Int)] R h := by
  unfold B64 at hx
  refine F221_ok _ ⟨fun e => ⟨by decide, ?_⟩, fun e => ?_⟩
  · have e : 4294967296 ≤ x := by simp at e; omega
    rw [sh32]
    refine K221c (a := 32) (by omega) (by omega) ?_
    rw [Lib.bitLen_shift32 x e (by omega)] at H
    exact H
  · refine K221c (a := 0) (by simp at e; omega) (by omega) ?_
    rw [Nat.zero_add]; exact H
theorem K205 {x : Nat} (hx : x < B64) (H : R (.returned (.int .i64 (Lib.bitLen x : Int))) h) : Ent Tryz.prog B 116 #[.int .u64 (x : Int)] R h :=
  F205_ok _ ⟨fun e => Bool.noConfusion e, fun _ => K221 hx ⟨_, rfl, H⟩⟩
/-- The table deBruijn64tab lies where it was laid. -/
def TabH (h : Heap) : Prop := 10 < h.size ∧ ∀ i, i < 64 → cell? h ⟨10, i, none⟩ = some (.int .u8 ((Lib.deBruijn64tab.getD i 0 : Nat) : Int))
theorem TabH.fr {h h' : Heap} {S : Nat → Prop} (H : TabH h) (f : Fr S h h') (hs : ¬ S 10) : TabH h' :=
  ⟨Nat.lt_of_lt_of_le H.1 f.size, fun i hi => by have e := H.2 i hi; unfold cell? at e ⊢; rw [f.same _ H.1 hs]; exact e⟩
theorem K215 {x : Nat} (hx : x < B64) (h0 : x ≠ 0) (ht : TabH h) (H : R (.returned (.int .i64 (Lib.ctz 64 x : Int))) h) : Ent Tryz.prog B 230 #[.int .u64 (x : Int)] R h := by
  obtain ⟨_, c2⟩ := ht
  have hB : B64 = 2 ^ 64 := rfl
  obtain ⟨l1, l2⟩ := Lib.lowest_bit 64 x h0 (by rw [← hB]; exact hx)
  refine F215_ok _ ⟨fun e => by have := Int.natCast_eq_zero.1 (of_decide_eq_true e); omega, fun _ => ⟨by decide, ?_⟩⟩
  have e1 : IntKind.u64.wrap (0 - (x : Int)) = ((2 ^ 64 - x : Nat) : Int) := by
    have h : IntKind.u64.wrap (0 - (x : Int)) = (0 - (x : Int)) % 18446744073709551616 := rfl
    unfold B64 at hx
    rw [h]; omega
  have hlt : 2 ^ 64 - x < B64 := by unfold B64; omega
  rw [e1, bitsI_and hx, Nat.mod_eq_of_lt hlt, l1]
  obtain ⟨t1, t2⟩ := Lib.deBruijn64_at _ l2
  have e2 : IntKind.u64.wrap (((2 ^ Lib.ctz 64 x : Nat) : Int) * (285870213051353865 : Int)) = ((2 ^ Lib.ctz 64 x * 285870213051353865 % 18446744073709551616 : Nat) : Int) := by
    rw [← wrap_u64_nat]; rfl
  rw [e2]
  have e3 : ∀ y : Nat, Int.fdiv (y : Int) (2 ^ min (Int.toNat (58 : Int)) IntKind.u64.bits) = ((y / 288230376151711744 : Nat) : Int) := fun y => fdiv_pow (x := y) (s := 58) (by decide)
  rw [e3]
  refine ⟨_, 0, rfl, by omega, by omega, _, _, rfl, (Lib.ctz 64 x : Int), ?_, ?_⟩
  · rw [Int.toNat_natCast, Nat.mul_one, Nat.zero_add]; exact (c2 _ t1).trans (by rw [t2])
  · rw [i64_in (by omega) (by omega)]; exact H
theorem K193 {x : Nat} (hx : x < B64) (h0 : x ≠ 0) (ht : TabH h) (H : R (.returned (.int .i64 (Lib.ctz 64 x : Int))) h) : Ent Tryz.prog B 200 #[.int .u64 (x : Int)] R h :=
  F193_ok _ ⟨fun e => Bool.noConfusion e, fun _ => K215 hx h0 ht ⟨_, rfl, H⟩⟩
/-- nat.trailingZeroBits. -/
theorem K163 {px : Option Addr} {n xc vx : Nat} (hx : NatI h px n vx) (ln : n < 549755813888) (h0 : 0 < vx) (ht : TabH h) (H : ∀ t m : Nat, vx = 2 ^ t * (2 * m + 1) → R (.returned (.int .u64 (t : Int))) h) :
    Ent Tryz.prog B 171 #[.slice px n xc] R h := by
  obtain ⟨xs, x1, x2, x3, x4, x5⟩ := hx.ex
  have x5 : val B64 xs = vx := x5
  have hn0 : n ≠ 0 := fun e => by rw [List.eq_nil_of_length_eq_zero (x2.trans e)] at x5; simp [val] at x5; omega
  refine F163_ok _ _ _ ⟨fun e => by simp at e; omega, fun _ => ?_⟩
  have hfirst : ∀ i, i ≤ n → val B64 (xs.take i) = 0 → i < n := by
    intro i hi hv
    rcases Nat.lt_or_ge i n with h | h
    · exact h
    · rw [List.take_of_length_le (by omega)] at hv; omega
  refine ⟨fun m vs h' => match vs with
    | [.slice p1 n1 _, .int _ i] => px = p1 ∧ n = n1 ∧ h = h' ∧ ∃ j : Nat, i = (j : Int) ∧ j ≤ n ∧ m = n - j ∧ val B64 (xs.take j) = 0
    | _ => False, n, ⟨rfl, rfl, rfl, 0, rfl, by omega, by omega, by simp [val]⟩, ?_⟩
  rintro m h' _ _ _ _ ⟨rfl, rfl, rfl, j, rfl, hj, rfl, hv⟩ _
  have hjn := hfirst j hj hv
  have dj : xs[j]'(by omega) < B64 := x3.get (by omega)
  refine x1.get j rfl (by omega) (by omega) ⟨fun e => ?_, fun e => ?_⟩
  · have e0 : xs[j]'(by omega) = 0 := Int.natCast_eq_zero.1 (of_decide_eq_true e)
    refine ⟨n - (j + 1), by omega, rfl, rfl, rfl, j + 1, ?_, by omega, rfl, ?_⟩
    · exact wadd (a := j) (b := 1) (by unfold B64; omega)
    · rw [val_take_succ _ _ (by omega), hv, e0]; simp
  · have e0 : xs[j]'(by omega) ≠ 0 := fun hh => of_decide_eq_false e (Int.natCast_eq_zero.2 hh)
    refine x1.get j rfl (by omega) (by omega) (K193 dj e0 ht ⟨_, rfl, ?_⟩)
    obtain ⟨q, q1, q2⟩ := Lib.ctzFrom_spec 64 (xs[j]'(by omega)) (by omega) dj
    have ec : Lib.ctz 64 (xs[j]'(by omega)) = Lib.ctzFrom 64 (xs[j]'(by omega)) := by simp [Lib.ctz, e0]
    rw [ec]
    have w1 : IntKind.u64.wrap ((j : Int) * (64 : Int)) = ((j * 64 : Nat) : Int) := wmul (a := j) (b := 64) (by unfold B64; omega)
    have w2 : IntKind.u64.wrap ((Lib.ctzFrom 64 (xs[j]'(by omega)) : Nat) : Int) = ((Lib.ctzFrom 64 (xs[j]'(by omega)) : Nat) : Int) := by rw [wrap_u64_nat, Nat.mod_eq_of_lt (by omega)]
    rw [w1, w2, wadd (by unfold B64; omega)]
    refine H _ (q + 2 ^ (63 - Lib.ctzFrom 64 (xs[j]'(by omega))) * val B64 (xs.drop (j + 1))) ?_
    rw [← x5, val_split B64 xs (i := j) (by omega), hv, Nat.zero_add, val_drop _ _ (by omega), pow64]
    generalize val B64 (xs.drop (j + 1)) = V
    generalize xs[j]'(by omega) = w at *
    generalize Lib.ctzFrom 64 w = t at *
    subst q1
    have e6 : B64 = 2 ^ t * (2 * 2 ^ (63 - t)) := by
      rw [← Nat.pow_succ', ← Nat.pow_add, show t + (63 - t + 1) = 64 by omega]
    have e7 : B64 * V = 2 ^ t * (2 * 2 ^ (63 - t)) * V := by rw [← e6]
    rw [e7, Nat.mul_assoc (2 ^ t), ← Nat.mul_add, ← Nat.mul_assoc, ← Nat.pow_add, Nat.mul_comm 64 j]
    congr 1
    rw [Nat.mul_add, Nat.mul_assoc]
    omega
end Go.Proofs
