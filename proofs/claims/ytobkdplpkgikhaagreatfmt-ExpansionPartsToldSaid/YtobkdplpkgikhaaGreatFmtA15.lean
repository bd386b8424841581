import Derived.Test.YtobkdplpkgikhaaGreatFmtA14
/- Here stand lemmas and contracts, in the order in which they are used. -/
set_option linter.unusedVariables false
namespace Go.Proofs
open Go Go.Eng
variable {B : World} {R : Ending → Heap → Prop} {h : Heap}
/-- What an operation on nats hands on: a nat of value v. -/
def NatK (R : Ending → Heap → Prop) (h0 : Heap) (S : Nat → Prop) (v : Nat) : Prop :=
  ∀ (q : Option Addr) (n c : Nat) (h' : Heap), Fr S h0 h' → n ≤ c → NatI h' q n v → Dst h' q c (fun b => S b ∨ h0.size ≤ b) → R (.returned (.slice q n c)) h'
theorem natEnd {h0 h1 h2 : Heap} {S : Nat → Prop} {b o c n v : Nat} {ws : List Nat} {cs : Array Value} {X : List PanicEntry → Heap → Prop} (f : Fr S h0 h1) (W : Wrote .u64 h1 h2 b o ws) (hb : S b ∨ h0.size ≤ b) (O : Own h1 b cs) (hl : o + c ≤ cs.size)
    (hn : ws.length = n) (hnc : n ≤ c) (lim : c < 1099511627776) (d : Dig B64 ws) (hv : val B64 ws = v) (H : NatK R h0 S v) :
    Ent Tryz.prog B 162 #[.slice (some ⟨b, o, none⟩) n c] (retE (fun u h' => ∃ x xn xc, u = .slice x xn xc ∧ R (.returned (.slice x xn xc)) h') X) h2 := by
  refine K197 pt_some W.sl hn hnc (by omega) fun k hk t e => ⟨_, _, _, rfl, ?_⟩
  obtain ⟨cs', w1, w2, _, _⟩ := W.own O
  refine H _ _ _ _ (Fr.trans f W.fr fun x hx e => by subst e; rcases hb with h | h; exact h; omega) (by omega) ⟨pt_some, by omega, ws.take k, W.sl.take k, by rw [List.length_take]; omega, d.take k, t, e.trans hv⟩
    ⟨pt_some, lim, .inr ⟨b, o, cs', rfl, w1, by omega, hb⟩⟩
/-- nat.make, of more than nothing: a buffer. -/
theorem K194' {pz : Option Addr} {zn zc n : Nat} {i : Int} {S : Nat → Prop} (hz : Dst h pz zc S) (hi : i = (n : Int)) (hn : n < 1099511627770) (h0 : 0 < n)
    (H : ∀ b o c cs h1, Ext h h1 → Own h1 b cs → o + c ≤ cs.size → n ≤ c → c < 1099511627776 → ((pz = some ⟨b, o, none⟩ ∧ S b) ∨ b = h.size) → R (.returned (.slice (some ⟨b, o, none⟩) n c)) h1) :
    Ent Tryz.prog B 152 #[.slice pz zn zc, .int .i64 i] R h := by
  refine K194 hz hi hn (fun hle => ?_) (fun hlt c' cs h1 h2 h3 => ?_)
  · rcases hz.room with e | ⟨b, o, cs, e1, e2, e3, e4⟩
    · omega
    · subst e1
      exact H b o zc cs h Fr.rfl' e2 e3 hle hz.lim (.inl ⟨rfl, e4⟩)
  · exact H _ 0 c' cs _ Ext.push own_new (by omega) h1 h2 (.inr rfl)
theorem Dst.inS {pz : Option Addr} {b o : Nat} {S : Nat → Prop} (hb : (pz = some ⟨b, o, none⟩ ∧ S b) ∨ b = h.size) : S b ∨ h.size ≤ b := by
  rcases hb with ⟨_, h⟩ | h
  · exact .inl h
  · exact .inr (by omega)
/-- A nat (of n words) that is not of the room, or is where the room is. -/
def Al (S : Nat → Prop) (pz px : Option Addr) (n : Nat) : Prop := px = pz ∨ ∀ b o, px = some ⟨b, o, none⟩ → 0 < n → ¬ S b
theorem Al.at {pz px : Option Addr} {ws : List Nat} {b o n : Nat} {S : Nat → Prop} (ha : Al S pz px n) (hx : Sl .u64 h px ws) (hw : ws ≠ []) (hn : ws.length = n) (hb : (pz = some ⟨b, o, none⟩ ∧ S b) ∨ b = h.size) :
    ∀ b' o', px = some ⟨b', o', none⟩ → b' ≠ b ∨ o' = o := by
  intro b' o' e
  have hpos : 0 < n := by rw [← hn]; exact List.length_pos_iff.2 hw
  rcases hb with ⟨e2, hS⟩ | e2
  · rcases ha with ha | ha
    · rw [e, e2] at ha; cases ha; exact .inr rfl
    · exact .inl fun e3 => ha _ _ e hpos (e3 ▸ hS)
  · have := hx.block hw e; exact .inl (by omega)
theorem al_none {pz px : Option Addr} {n : Nat} : Al (fun _ => False) pz px n := .inr fun _ _ _ _ e => e
theorem fresh_ne {px : Option Addr} {ws : List Nat} {b o : Nat} {S : Nat → Prop} (hx : Sl .u64 h px ws) (hw : ws ≠ []) (hb : (none = some (⟨b, o, none⟩ : Addr) ∧ S b) ∨ b = h.size) : ∀ b' o', px = some ⟨b', o', none⟩ → b' ≠ b := by
  intro b' o' e
  rcases hb with ⟨e2, _⟩ | e2
  · cases e2
  · have := hx.block hw e; omega

/-- nat.add, into new memory. -/
theorem K166 {px py : Option Addr} {n m xc yc vx vy : Nat} (hx : NatI h px n vx) (hy : NatI h py m vy) (hxc : n ≤ xc) (hyc : m ≤ yc) (ln : n < 1099511627760) (lm : m < 1099511627760) (H : NatK R h (fun _ => False) (vx + vy)) :
    Ent Tryz.prog B 134 #[.slice none 0 0, .slice px n xc, .slice py m yc] R h := by
  have main : ∀ {R : Ending → Heap → Prop} {px py : Option Addr} {n m xc yc vx vy : Nat}, NatI h px n vx → NatI h py m vy → n ≤ xc → m ≤ yc → n < 1099511627760 → m ≤ n → NatK R h (fun _ => False) (vx + vy) →
      Ent Tryz.prog B 134 #[.slice none 0 0, .slice px n xc, .slice py m yc] R h := by
    intro R px py n m xc yc vx vy hx hy hxc hyc ln hle H
    obtain ⟨xs, x1, x2, x3, x4, x5⟩ := hx.ex
    obtain ⟨ys, y1, y2, y3, y4, y5⟩ := hy.ex
    have x5 : val B64 xs = vx := x5
    have y5 : val B64 ys = vy := y5
    refine F166_ok _ _ _ _ _ _ _ _ _ ⟨fun e => by simp at e; omega, fun _ => ⟨fun e => ?_, fun e => ⟨fun e2 => ?_, fun e2 => ?_⟩⟩⟩
    · have e : n = 0 := by simpa using e
      refine sl_to (m := 0) rfl (by omega) ?_
      have z1 : xs = [] := List.eq_nil_of_length_eq_zero (by omega)
      have z2 : ys = [] := List.eq_nil_of_length_eq_zero (by omega)
      have hv : vx + vy = 0 := by rw [← x5, ← y5, z1, z2]; rfl
      rw [hv] at H
      exact H _ _ _ _ Fr.rfl' (Nat.le_refl _) ⟨.inl rfl, by decide, [], Sl.nil, rfl, Dig.nil, by simp [Trim], rfl⟩ Dst.none
    · have e2 : m = 0 := by simpa using e2
      have z2 : ys = [] := List.eq_nil_of_length_eq_zero (by omega)
      have hv : vx + vy = vx := by rw [← y5, z2]; rfl
      rw [hv] at H
      exact K182 Dst.none hx (by omega) fun q c' h' f1 f2 f3 f4 => ⟨_, _, _, rfl, H _ _ _ _ f1 f2 f3 f4⟩
    have hn0 : 0 < n := by simp at e; omega
    have hm0 : 0 < m := by simp at e2; omega
    have xne : xs ≠ [] := fun e => by rw [e] at x2; simp at x2; omega
    have yne : ys ≠ [] := fun e => by rw [e] at y2; simp at y2; omega
    refine K194' (n := n + 1) (S := fun _ => False) Dst.none (by rw [i64_in (by omega) (by omega)]; omega) (by omega) (by omega) fun b o c cs h1 fE hO hl hc hlim hb => ⟨_, _, _, rfl, ?_⟩
    have nex := fresh_ne (S := fun _ => False) x1 xne hb
    have ney := fresh_ne (S := fun _ => False) y1 yne hb
    refine sl_to (m := m) rfl (by omega) (sl_to (m := m) rfl (by omega) (sl_to (m := m) rfl (by omega) ?_))
    simp only [slP0 pt_some, slP0 hx.pt, slP0 hy.pt, Nat.sub_zero]
    have x1' := x1.ext fE
    have y1' := y1.ext fE
    refine E202 (K138 (xs := xs.take m) (ys := ys) rfl hO (by omega) (x1'.take m) y1' (by rw [List.length_take]; omega) y2 (by omega) (x3.take m) y3 (fun b' o' e => .inl (nex b' o' e)) (fun b' o' e => .inl (ney b' o' e)) fun zs cc h2 W lz dz hcc hv => ⟨_, rfl, ?_⟩)
    have done : ∀ (zs2 : List Nat) (c2 : Nat) (h3 : Heap), Wrote .u64 h1 h3 b o zs2 → zs2.length = n → Dig B64 zs2 → c2 < B64 → val B64 zs2 + B64 ^ n * c2 = vx + vy → F166_j59 B R (some ⟨b, o, none⟩) (n + 1) c (n : Int) (c2 : Int) h3 := by
      intro zs2 c2 h3 W3 l3 d3 hc2 hv3
      refine W3.put hO c2 rfl (by omega) (by omega) (by omega) fun W4 => ?_
      exact natEnd (n := n + 1) fE.to W4 (Dst.inS hb) hO hl (by simp; omega) hc hlim (d3.snoc hc2) (by rw [val_snoc, l3]; exact hv3) H
    refine ⟨fun e => ?_, fun e => ?_⟩
    · have hlt : m < n := by simp at e; omega
      refine sl_ft (l := m) (m := n) rfl rfl (by omega) (by omega) (sl_from (l := m) rfl (by omega) ?_)
      rw [slP_some (by omega)]
      obtain ⟨cs2, w1, w2, _, _⟩ := W.own hO
      refine K203 (xs := xs.drop m) w1 (by omega) ((x1'.afterW W nex).drop m _ (fun _ => by omega)) (hx.pt.slP _ _) (by rw [List.length_drop]; omega) (by omega) (by omega) (by omega) (x3.drop m) ?_ (by unfold B64; omega) fun zs2 c2 h3 W2 l2 d2 hc2 hv2 => ⟨_, rfl, ?_⟩
      · intro b' o' e
        rcases x1' with h | ⟨b'', o'', cs'', e1, _⟩
        · exact absurd h xne
        · subst e1
          rw [slP_some (by omega)] at e
          cases e
          exact nex _ _ rfl
      · refine done (zs ++ zs2) c2 h3 (W.append W2 (by rw [lz])) (by simp; omega) (dz.append d2) hc2 ?_
        rw [val_append, lz, ← x5, ← y5, val_split B64 xs (i := m) (by omega)]
        have e3 : B64 ^ n = B64 ^ m * B64 ^ (n - m) := by rw [← Nat.pow_add]; congr 1; omega
        have e4 : B64 ^ m * val B64 zs2 + B64 ^ n * c2 = B64 ^ m * val B64 (xs.drop m) + B64 ^ m * cc := by
          rw [e3, Nat.mul_assoc, ← Nat.mul_add, hv2, Nat.mul_add]
        omega
    · have hmn : m = n := by simp at e; omega
      subst hmn
      refine done zs cc h2 W lz dz (by unfold B64; omega) ?_
      rw [← x5, ← y5, hv, List.take_of_length_le (by omega)]
  by_cases hle : m ≤ n
  · exact main hx hy hxc hyc ln hle H
  · refine F166_ok _ _ _ _ _ _ _ _ _ ⟨fun e => ?_, fun e => by simp at e; omega⟩
    refine main hy hx hyc hxc lm (by omega) ?_
    rw [Nat.add_comm] at H
    exact fun q n c h' a b c d => ⟨_, _, _, rfl, H q n _ h' a b c d⟩
end Go.Proofs
namespace Go.Proofs
open Go Go.Eng
variable {B : World} {R : Ending → Heap → Prop} {h : Heap}
theorem len_le {b : Nat} {xs ys : List Nat} (hb : 1 < b) (dy : Dig b ys) (tx : Trim xs) (hv : val b xs ≤ val b ys) : xs.length ≤ ys.length := by
  by_cases he : xs = []
  · subst he; simp
  have h1 := val_pos he tx (by omega : 0 < b)
  have h2 := val_lt dy
  have h3 : b ^ (xs.length - 1) < b ^ ys.length := by omega
  have := (Nat.pow_lt_pow_iff_right hb).1 h3
  omega
/-- nat.sub, into new memory. -/
theorem K164 {px py : Option Addr} {n m xc yc vx vy : Nat} (hx : NatI h px n vx) (hy : NatI h py m vy) (hxc : n ≤ xc) (hyc : m ≤ yc) (ln : n < 1099511627760) (hle : vy ≤ vx) (H : NatK R h (fun _ => False) (vx - vy)) :
    Ent Tryz.prog B 132 #[.slice none 0 0, .slice px n xc, .slice py m yc] R h := by
  obtain ⟨xs, x1, x2, x3, x4, x5⟩ := hx.ex
  obtain ⟨ys, y1, y2, y3, y4, y5⟩ := hy.ex
  have x5 : val B64 xs = vx := x5
  have y5 : val B64 ys = vy := y5
  have hmn : m ≤ n := by
    have := len_le (b := B64) (by decide) x3 y4 (by rw [x5, y5]; exact hle)
    omega
  refine F164_ok _ _ _ _ _ _ _ _ _ ⟨fun e => by simp at e; omega, fun _ => ⟨fun e => ?_, fun e => ⟨fun e2 => ?_, fun e2 => ?_⟩⟩⟩
  · have e : n = 0 := by simpa using e
    refine sl_to (m := 0) rfl (by omega) ?_
    have z1 : xs = [] := List.eq_nil_of_length_eq_zero (by omega)
    have hv : vx - vy = 0 := by rw [← x5, z1]; simp [val]
    rw [hv] at H
    exact H _ _ _ _ Fr.rfl' (Nat.le_refl _) ⟨.inl rfl, by decide, [], Sl.nil, rfl, Dig.nil, by simp [Trim], rfl⟩ Dst.none
  · have e2 : m = 0 := by simpa using e2
    have z2 : ys = [] := List.eq_nil_of_length_eq_zero (by omega)
    have hv : vx - vy = vx := by rw [← y5, z2]; rfl
    rw [hv] at H
    exact K182 Dst.none hx (by omega) fun q c' h' f1 f2 f3 f4 => ⟨_, _, _, rfl, H _ _ _ _ f1 f2 f3 f4⟩
  have hn0 : 0 < n := by simp at e; omega
  have hm0 : 0 < m := by simp at e2; omega
  have xne : xs ≠ [] := fun e => by rw [e] at x2; simp at x2; omega
  have yne : ys ≠ [] := fun e => by rw [e] at y2; simp at y2; omega
  refine K194' (n := n) (S := fun _ => False) Dst.none rfl (by omega) (by omega) fun b o c cs h1 fE hO hl hc hlim hb => ⟨_, _, _, rfl, ?_⟩
  have nex := fresh_ne (S := fun _ => False) x1 xne hb
  have ney := fresh_ne (S := fun _ => False) y1 yne hb
  refine sl_to (m := m) rfl (by omega) (sl_to (m := m) rfl (by omega) (sl_to (m := m) rfl (by omega) ?_))
  simp only [slP0 pt_some, slP0 hx.pt, slP0 hy.pt, Nat.sub_zero]
  have x1' := x1.ext fE
  have y1' := y1.ext fE
  refine E195 (K139 (xs := xs.take m) (ys := ys) rfl hO (by omega) (x1'.take m) y1' (by rw [List.length_take]; omega) y2 (by omega) (x3.take m) y3 (fun b' o' e => .inl (nex b' o' e)) (fun b' o' e => .inl (ney b' o' e)) fun zs cc h2 W lz dz hcc hv => ⟨_, rfl, ?_⟩)
  have done : ∀ (zs2 : List Nat) (c2 : Nat) (h3 : Heap), Wrote .u64 h1 h3 b o zs2 → zs2.length = n → Dig B64 zs2 → vx + B64 ^ n * c2 = val B64 zs2 + vy → F164_j53 B R (some ⟨b, o, none⟩) n c (c2 : Int) h3 := by
    intro zs2 c2 h3 W3 l3 d3 hv3
    have hz : val B64 zs2 < B64 ^ n := by rw [← l3]; exact val_lt d3
    have hc2 : c2 = 0 := by
      rcases Nat.eq_zero_or_pos c2 with h | h
      · exact h
      · exfalso
        have : B64 ^ n * 1 ≤ B64 ^ n * c2 := Nat.mul_le_mul_left _ h
        omega
    subst hc2
    refine ⟨fun e => by simp at e, fun _ => ?_⟩
    exact natEnd fE.to W3 (Dst.inS hb) hO hl l3 hc hlim d3 (by omega) H
  refine ⟨fun e => ?_, fun e => ?_⟩
  · have hlt : m < n := by simp at e; omega
    refine sl_from (l := m) rfl (by omega) (sl_from (l := m) rfl (by omega) ?_)
    rw [slP_some (by omega)]
    obtain ⟨cs2, w1, w2, _, _⟩ := W.own hO
    refine K196 (xs := xs.drop m) w1 (by omega) ((x1'.afterW W nex).drop m _ (fun _ => by omega)) (hx.pt.slP _ _) (by rw [List.length_drop]; omega) (by omega) (by omega) (by omega) (x3.drop m) ?_ (by unfold B64; omega) fun zs2 c2 h3 W2 l2 d2 hc2 hv2 => ⟨_, rfl, ?_⟩
    · intro b' o' e
      rcases x1' with h | ⟨b'', o'', cs'', e1, _⟩
      · exact absurd h xne
      · subst e1
        rw [slP_some (by omega)] at e
        cases e
        exact nex _ _ rfl
    · refine done (zs ++ zs2) c2 h3 (W.append W2 (by rw [lz])) (by simp; omega) (dz.append d2) ?_
      rw [val_append, lz, ← x5, ← y5, val_split B64 xs (i := m) (by omega)]
      have e3 : B64 ^ n = B64 ^ m * B64 ^ (n - m) := by rw [← Nat.pow_add]; congr 1; omega
      have e4 : B64 ^ m * val B64 (xs.drop m) + B64 ^ n * c2 = B64 ^ m * val B64 zs2 + B64 ^ m * cc := by
        rw [e3, Nat.mul_assoc, ← Nat.mul_add, hv2, Nat.mul_add]
      omega
  · have hmn : m = n := by simp at e; omega
    subst hmn
    refine done zs cc h2 W lz dz ?_
    rw [List.take_of_length_le (by omega)] at hv
    rw [← x5, ← y5]; exact hv

theorem zerosW {k : IntKind} {h h0 : Heap} {b o n : Nat} {cs : Array Value} {zs : List Nat} {K : Heap → Prop} (W : Wrote k h0 h b (o + n) zs) (hO : Own h0 b cs) (hl : o + n ≤ cs.size)
    (H : ∀ h', Wrote k h0 h' b o (List.replicate n 0 ++ zs) → K h') : clW h (some ⟨b, o, none⟩) n 1 #[.int k 0] K := by
  obtain ⟨cs', w1, w2, w3, w4⟩ := W.own hO
  have e : zerosL #[Value.int k 0] n = (List.replicate n 0).map fun w : Nat => Value.int k (w : Int) := by
    apply List.ext_getElem
    · simp [zerosL]
    · intro i h1 h2
      simp [zerosL]
      simp [Nat.mod_one]
  unfold clW
  rw [e]
  refine ⟨b, o, rfl, ?_⟩
  refine ⟨fun x hx => ?_, fun i hi => ?_, ?_⟩
  · obtain ⟨w, _, rfl⟩ := List.mem_map.1 hx; rfl
  · rw [List.length_map, List.length_replicate] at hi
    exact ⟨⟨_, by rw [w1.cell, Array.getElem?_eq_getElem (by omega)]⟩, w1.frozen _⟩
  · have W2 := setRow_wrote (k := k) (o := o) w1 (List.replicate n 0) [] h (Wrote.nil w1) (by rw [List.length_replicate, List.length_nil]; omega)
    simp only [List.nil_append, List.length_nil, Nat.add_zero] at W2 ⊢
    refine H _ ⟨W2.size.trans W.size, fun x hx => (W2.same x hx).trans (W.same x hx), ?_⟩
    obtain ⟨c0, c1, e, a1, a2, a3, a4, a5⟩ := W.blk
    obtain ⟨d1, d2, e', b1, b2, b3, b4, b5⟩ := W2.blk
    have : d1 = c1 ∧ e' = e := by rw [a2] at b1; cases b1; exact ⟨rfl, rfl⟩
    obtain ⟨rfl, rfl⟩ := this
    rw [List.length_replicate] at b4
    refine ⟨c0, d2, e', a1, b2, by omega, fun j hj => ?_, fun j hj => ?_⟩
    · rw [List.length_append, List.length_replicate] at hj
      rw [b4 j (by omega), a4 j (by omega)]
    · rw [List.length_append, List.length_replicate] at hj
      by_cases h : j < n
      · rw [b5 j (by rw [List.length_replicate]; exact h), List.getElem_append_left (by rw [List.length_replicate]; exact h)]
      · have := a5 (j - n) (by omega)
        rw [show o + n + (j - n) = o + j by omega] at this
        rw [b4 _ (by omega), this, List.getElem_append_right (by rw [List.length_replicate]; omega)]
        simp
end Go.Proofs
namespace Go.Proofs
open Go Go.Eng
variable {B : World} {R : Ending → Heap → Prop} {h : Heap}
theorem td64 (s : Nat) : Int.tdiv (s : Int) (64 : Int) = ((s / 64 : Nat) : Int) := by
  rw [Int.tdiv_eq_ediv_of_nonneg (by omega)]; rfl
theorem tm64 (s : Nat) : Int.tmod (s : Int) (64 : Int) = ((s % 64 : Nat) : Int) := by
  rw [Int.tmod_eq_emod_of_nonneg (by omega)]; rfl
theorem pow64 (k : Nat) : B64 ^ k = 2 ^ (64 * k) := by rw [show B64 = 2 ^ 64 from rfl, ← Nat.pow_mul]
theorem pow_s (s : Nat) : 2 ^ s = B64 ^ (s / 64) * 2 ^ (s % 64) := by
  rw [pow64, ← Nat.pow_add]; congr 1; omega
theorem nat0 {pz : Option Addr} {zn zc : Nat} {S : Nat → Prop} (hz : Dst h pz zc S) (H : NatK R h S 0) : slW zn zc none (some (.int .i64 (0 : Int))) none fun l4 l5 l6 => R (.returned (.slice (slP pz l4 l6 1) (l5 - l4) (l6 - l4))) h := by
  refine sl_to (m := 0) rfl (by omega) ?_
  rw [slP0 hz.pt]
  exact H _ _ _ _ Fr.rfl' (Nat.zero_le _) ⟨hz.pt, by decide, [], Sl.nil, rfl, Dig.nil, by simp [Trim], rfl⟩ (hz.mono fun b h => .inl h)
theorem K173j {pz px : Option Addr} {zn zc n xc vx s : Nat} {S : Nat → Prop} (hz : Dst h pz zc S) (hx : NatI h px n vx) (ha : Al S pz px n) (ln : n < 549755813888) (ls : s < 4294967296) (H : NatK R h S (vx * 2 ^ s)) :
    F173_j19 B R pz zn zc px n xc (s : Int) h := by
  obtain ⟨xs, x1, x2, x3, x4, x5⟩ := hx.ex
  have x5 : val B64 xs = vx := x5
  refine ⟨fun e => ?_, fun e => ?_⟩
  · have e : n = 0 := by simpa using e
    have z1 : xs = [] := List.eq_nil_of_length_eq_zero (by omega)
    have hv : vx = 0 := by rw [← x5, z1]; rfl
    rw [hv, Nat.zero_mul] at H
    exact nat0 hz H
  have hn0 : 0 < n := by simp at e; omega
  have xne : xs ≠ [] := fun e => by rw [e] at x2; simp at x2; omega
  have hk : s / 64 < 67108864 := by omega
  have ek : IntKind.i64.wrap (IntKind.u64.wrap (Int.tdiv (s : Int) (64 : Int))) = ((s / 64 : Nat) : Int) := by
    rw [td64, wrap_u64_nat, Nat.mod_eq_of_lt (by omega), i64_in (by omega) (by omega)]
  have en : IntKind.i64.wrap ((n : Int) + IntKind.i64.wrap (IntKind.u64.wrap (Int.tdiv (s : Int) (64 : Int)))) = ((n + s / 64 : Nat) : Int) := by
    rw [ek, i64_in (by omega) (by omega)]; rfl
  have hr : s % 64 < 64 := Nat.mod_lt _ (by decide)
  simp only [en, tm64]
  have ek2 : IntKind.i64.wrap (((n + s / 64 : Nat) : Int) - (n : Int)) = ((s / 64 : Nat) : Int) := by rw [i64_in (by omega) (by omega)]; omega
  simp only [ek2]
  refine ⟨by decide, K194' (n := n + s / 64 + 1) hz (by rw [i64_in (by omega) (by omega)]; omega) (by omega) (by omega) fun b o c cs h1 fE hO hl hc hlim hb => ⟨_, _, _, rfl, by decide, ?_⟩⟩
  have nex := ha.at x1 xne x2 hb
  have x1' := x1.ext fE
  have done : ∀ (zs : List Nat) (c2 : Nat) (h2 : Heap), Wrote .u64 h1 h2 b (o + s / 64) zs → zs.length = n → Dig B64 zs → c2 < B64 → val B64 zs + B64 ^ n * c2 = vx * 2 ^ (s % 64) →
      ixW (some ⟨b, o, none⟩) (n + s / 64 + 1) ((n + s / 64 : Nat) : Int) 1 fun b37 o38 => isP (some ⟨b37, o38, none⟩) fun b39 o40 => stC h2 b39 o40 (.int .u64 (c2 : Int)) fun h41 => F173_j42 B R (some ⟨b, o, none⟩) (n + s / 64 + 1) c (n : Int) ((n + s / 64 : Nat) : Int) h41 := by
    intro zs c2 h2 W lz dz hc2 hv
    obtain ⟨cs2, w1, w2, _, _⟩ := W.own hO
    refine ⟨b, o, rfl, by omega, by omega, b, _, rfl, ?_⟩
    rw [Int.toNat_natCast, Nat.mul_one]
    refine w1.stC (by omega) rfl fun _ _ => ?_
    have W' := W.snoc c2 hO (by omega)
    rw [show o + s / 64 + zs.length = o + (n + s / 64) by omega] at W'
    unfold F173_j42
    rw [ek2]
    refine sl_ft (l := 0) (m := s / 64) rfl rfl (by omega) (by omega) ?_
    rw [slP0 pt_some, Nat.sub_zero]
    refine zerosW W' hO (by omega) fun h3 W3 => ?_
    refine natEnd fE.to W3 (Dst.inS hb) hO hl (by simp; omega) hc hlim (Dig.append (fun w hw => by rw [List.eq_of_mem_replicate hw]; decide) (dz.snoc hc2)) ?_ H
    rw [val_append, val_zeros, val_snoc, List.length_replicate, lz, hv, Nat.zero_add, pow_s s, Nat.mul_left_comm]
  refine ⟨fun e => ?_, fun e => ?_⟩
  · have e0 : s % 64 = 0 := Int.natCast_eq_zero.1 (of_decide_eq_true e)
    refine sl_ft (l := s / 64) (m := n + s / 64) rfl rfl (by omega) (by omega) ?_
    rw [slP_some (by omega), show n + s / 64 - s / 64 = n by omega]
    refine copyK (xs := xs) x1' x2 hx.pt hO (by omega) fun h2 W => ?_
    rw [show Nat.min n n = n from Nat.min_self n, List.take_of_length_le (by omega)] at W
    exact done xs 0 h2 W x2 x3 (by decide) (by rw [x5, e0]; simp)
  · refine sl_ft (l := s / 64) (m := n + s / 64) rfl rfl (by omega) (by omega) ?_
    rw [slP_some (by omega), show n + s / 64 - s / 64 = n by omega]
    refine E206 (K140 rfl hO (by omega) x1' hx.pt x2 (by omega) x3 (fun b' o' e => by have := nex b' o' e; omega) hr fun zs c2 h2 W lz dz hc2 hv => ⟨_, rfl, ?_⟩)
    exact done zs c2 h2 W lz dz hc2 (by rw [hv, x5])
theorem K199n {px : Option Addr} {n xc : Nat} (H : R (.returned (.bool false)) h) : Ent Tryz.prog B 164 #[.slice none 0 0, .slice px n xc] R h :=
  F199_ok _ _ _ _ _ _ ⟨fun _ => ⟨fun e => by simp at e, fun _ => H⟩, fun _ => ⟨fun e => Bool.noConfusion e, fun _ => H⟩⟩
theorem K200n {px : Option Addr} {n xc : Nat} (H : R (.returned (.bool false)) h) : Ent Tryz.prog B 165 #[.slice none 0 0, .slice px n xc] R h :=
  F200_ok _ _ _ _ _ _ ⟨fun e => by simp at e, fun _ => ⟨fun e => Bool.noConfusion e, fun _ => H⟩⟩
/-- nat.lsh, into new memory. -/
theorem K173f {px : Option Addr} {n xc vx s : Nat} (hx : NatI h px n vx) (ln : n < 549755813888) (ls : s < 4294967296) (H : NatK R h (fun _ => False) (vx * 2 ^ s)) :
    Ent Tryz.prog B 141 #[.slice none 0 0, .slice px n xc, .int .u64 (s : Int)] R h := by
  refine F173_ok _ _ _ _ _ _ _ ⟨fun e => ?_, fun _ => K173j Dst.none hx al_none ln ls H⟩
  have e0 : s = 0 := Int.natCast_eq_zero.1 (of_decide_eq_true e)
  subst e0
  refine K199n ⟨_, rfl, fun e => (by cases e), fun _ => K200n ⟨_, rfl, fun _ => ?_, fun e => (by cases e)⟩⟩
  rw [Nat.pow_zero, Nat.mul_one] at H
  exact K182 Dst.none hx (by omega) fun q c' h' f1 f2 f3 f4 => ⟨_, _, _, rfl, H _ _ _ _ f1 f2 f3 f4⟩
/-- nat.lsh, where it is. -/
theorem K173i {px : Option Addr} {n xc vx s : Nat} {S : Nat → Prop} (hz : Dst h px xc S) (hx : NatI h px n vx) (ln : n < 549755813888) (l0 : 0 < s) (ls : s < 4294967296) (H : NatK R h S (vx * 2 ^ s)) :
    Ent Tryz.prog B 141 #[.slice px n xc, .slice px n xc, .int .u64 (s : Int)] R h :=
  F173_ok _ _ _ _ _ _ _ ⟨fun e => by have := Int.natCast_eq_zero.1 (of_decide_eq_true e); omega, fun _ => K173j hz hx (.inl rfl) ln ls H⟩
theorem K165j {pz px : Option Addr} {zn zc n xc vx s : Nat} {S : Nat → Prop} (hz : Dst h pz zc S) (hx : NatI h px n vx) (ha : Al S pz px n) (hxc : n ≤ xc) (ls : s < 4294967296) (ln : n < 549755813888) (H : NatK R h S (vx / 2 ^ s)) :
    F165_j19 B R pz zn zc px n xc (s : Int) h := by
  obtain ⟨xs, x1, x2, x3, x4, x5⟩ := hx.ex
  have x5 : val B64 xs = vx := x5
  have ek : IntKind.i64.wrap (IntKind.u64.wrap (Int.tdiv (s : Int) (64 : Int))) = ((s / 64 : Nat) : Int) := by
    rw [td64, wrap_u64_nat, Nat.mod_eq_of_lt (by omega), i64_in (by omega) (by omega)]
  have hv : vx / 2 ^ s = val B64 (xs.drop (s / 64)) / 2 ^ (s % 64) := by
    rw [pow_s s, ← Nat.div_div_eq_div_mul, ← x5]
    congr 1
    by_cases hk : s / 64 ≤ xs.length
    · rw [val_split B64 xs hk, Nat.add_mul_div_left _ _ (Nat.pow_pos (by decide)), Nat.div_eq_of_lt, Nat.zero_add]
      have := val_lt (x3.take (s / 64))
      rw [List.length_take, Nat.min_eq_left hk] at this
      exact this
    · rw [List.drop_of_length_le (by omega)]
      refine Nat.div_eq_of_lt (Nat.lt_of_lt_of_le (val_lt x3) (Nat.pow_le_pow_right (by decide) (by omega)))
  simp only [F165_j19, ek]
  refine ⟨by decide, fun e => ?_, fun e => ?_⟩
  · have e : n ≤ s / 64 := by rw [i64_in (by omega) (by omega)] at e; simp at e; omega
    have : vx / 2 ^ s = 0 := by rw [hv, List.drop_of_length_le (by omega)]; simp [val]
    rw [this] at H
    exact nat0 hz H
  have hlt : s / 64 < n := by rw [i64_in (by omega) (by omega)] at e; simp at e; omega
  have en : IntKind.i64.wrap ((n : Int) - ((s / 64 : Nat) : Int)) = ((n - s / 64 : Nat) : Int) := by rw [i64_in (by omega) (by omega)]; omega
  have ek2 : IntKind.i64.wrap ((n : Int) - ((n - s / 64 : Nat) : Int)) = ((s / 64 : Nat) : Int) := by rw [i64_in (by omega) (by omega)]; omega
  simp only [en, ek2, tm64]
  have xne : xs ≠ [] := fun e => by rw [e] at x2; simp at x2; omega
  refine K194' (n := n - s / 64) hz rfl (by omega) (by omega) fun b o c cs h1 fE hO hl hc hlim hb => ⟨_, _, _, rfl, by decide, ?_⟩
  have nex := ha.at x1 xne x2 hb
  have x1' : Sl .u64 h1 (slP px (s / 64) xc 1) (xs.drop (s / 64)) := (x1.ext fE).drop _ _ (fun _ => by omega)
  have nex' : ∀ b' o', slP px (s / 64) xc 1 = some ⟨b', o', none⟩ → b' ≠ b ∨ o ≤ o' := by
    intro b' o' e
    rcases x1 with h | ⟨b'', o'', cs'', e1, _⟩
    · exact absurd h xne
    · subst e1
      rw [slP_some (by omega)] at e
      cases e
      have := nex b' o'' rfl; omega
  refine ⟨fun e => ?_, fun e => ?_⟩
  · have e0 : s % 64 = 0 := Int.natCast_eq_zero.1 (of_decide_eq_true e)
    refine sl_from (l := s / 64) rfl (by omega) ?_
    refine copyK x1' (by rw [List.length_drop]; omega) (hx.pt.slP _ _) hO (by omega) fun h2 W => ?_
    rw [show Nat.min (n - s / 64) (n - s / 64) = n - s / 64 from Nat.min_self _, List.take_of_length_le (by rw [List.length_drop]; omega)] at W
    refine natEnd fE.to W (Dst.inS hb) hO hl (by rw [List.length_drop]; omega) hc hlim (x3.drop _) ?_ H
    rw [hv, e0]; simp
  · refine sl_from (l := s / 64) rfl (by omega) ?_
    refine E201 (K141 rfl hO (by omega) x1' (hx.pt.slP _ _) (by rw [List.length_drop]; omega) (by omega) (x3.drop _) nex' (Nat.mod_lt _ (by decide)) fun zs c2 h2 W lz dz hc2 hv2 => ⟨_, rfl, ?_⟩)
    exact natEnd fE.to W (Dst.inS hb) hO hl lz hc hlim dz (by rw [hv2, hv]) H
/-- nat.rsh, into new memory. -/
theorem K165f {px : Option Addr} {n xc vx s : Nat} (hx : NatI h px n vx) (hxc : n ≤ xc) (ln : n < 549755813888) (ls : s < 4294967296) (H : NatK R h (fun _ => False) (vx / 2 ^ s)) :
    Ent Tryz.prog B 133 #[.slice none 0 0, .slice px n xc, .int .u64 (s : Int)] R h := by
  refine F165_ok _ _ _ _ _ _ _ ⟨fun e => ?_, fun _ => K165j Dst.none hx al_none hxc ls ln H⟩
  have e0 : s = 0 := Int.natCast_eq_zero.1 (of_decide_eq_true e)
  subst e0
  refine K199n ⟨_, rfl, fun e => (by cases e), fun _ => K200n ⟨_, rfl, fun _ => ?_, fun e => (by cases e)⟩⟩
  rw [Nat.pow_zero, Nat.div_one] at H
  exact K182 Dst.none hx (by omega) fun q c' h' f1 f2 f3 f4 => ⟨_, _, _, rfl, H _ _ _ _ f1 f2 f3 f4⟩
/-- nat.rsh, where it is. -/
theorem K165i {px : Option Addr} {n xc vx s : Nat} {S : Nat → Prop} (hz : Dst h px xc S) (hx : NatI h px n vx) (hxc : n ≤ xc) (ln : n < 549755813888) (l0 : 0 < s) (ls : s < 4294967296) (H : NatK R h S (vx / 2 ^ s)) :
    Ent Tryz.prog B 133 #[.slice px n xc, .slice px n xc, .int .u64 (s : Int)] R h :=
  F165_ok _ _ _ _ _ _ _ ⟨fun e => by have := Int.natCast_eq_zero.1 (of_decide_eq_true e); omega, fun _ => K165j hz hx (.inl rfl) hxc ls ln H⟩
end Go.Proofs
