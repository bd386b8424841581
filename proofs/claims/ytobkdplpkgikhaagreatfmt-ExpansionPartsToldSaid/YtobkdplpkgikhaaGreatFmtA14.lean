import Derived.Test.YtobkdplpkgikhaaGreatFmtA13
/- Here stand lemmas and contracts, in the order in which they are used. -/
set_option linter.unusedVariables false
namespace Go.Eng
open Go
theorem sl_to {n c m : Nat} {i : Int} {k : IntKind} {K : Nat → Nat → Nat → Prop} (hi : i = (m : Int)) (hm : m ≤ c) (H : K 0 m c) : slW n c none (some (.int k i)) none K := by
  subst hi; exact ⟨by omega, by omega, H⟩
theorem sl_from {n c l : Nat} {i : Int} {k : IntKind} {K : Nat → Nat → Nat → Prop} (hi : i = (l : Int)) (hl : l ≤ n) (H : K l n c) : slW n c (some (.int k i)) none none K := by
  subst hi; exact ⟨by omega, by omega, H⟩
theorem sl_ft {n c l m : Nat} {i j : Int} {k k' : IntKind} {K : Nat → Nat → Nat → Prop} (hi : i = (l : Int)) (hj : j = (m : Int)) (hl : l ≤ m) (hm : m ≤ c) (H : K l m c) : slW n c (some (.int k i)) (some (.int k' j)) none K := by
  subst hi hj; exact ⟨by omega, by omega, by omega, by omega, H⟩
theorem slP0 {p : Option Addr} (hp : Pt p) (m : Nat) : slP p 0 m 1 = p := by
  unfold slP; split
  · rfl
  · rcases hp with h | ⟨b, o, h⟩
    · subst h; rfl
    · subst h; rfl
theorem slP_some {b o l m : Nat} (h : l < m) : slP (some ⟨b, o, none⟩) l m 1 = some ⟨b, o + l, none⟩ := by
  unfold slP; rw [if_neg (by omega)]; simp [add_addr]
theorem take_trim {b : Nat} {ws : List Nat} {k : Nat} (hk : k ≤ ws.length) (hz : ∀ j (hj : j < ws.length), k ≤ j → ws[j] = 0) : val b (ws.take k) = val b ws := by
  rw [val_split b ws hk]
  have : val b (ws.drop k) = 0 := by
    have : ws.drop k = List.replicate (ws.length - k) 0 := by
      apply List.ext_getElem
      · simp
      · intro i h1 h2
        rw [List.length_drop] at h1
        rw [List.getElem_drop, List.getElem_replicate, hz (k + i) (by omega) (by omega)]
    rw [this, val_zeros]
  rw [this]; simp

/-- A nat: read only. -/
structure NatI (h : Heap) (p : Option Addr) (n : Nat) (v : Nat) : Prop where
  pt : Pt p
  lim : n < 1099511627776
  ex : ∃ ws, Sl .u64 h p ws ∧ ws.length = n ∧ Dig 18446744073709551616 ws ∧ Trim ws ∧ val 18446744073709551616 ws = v
/-- Room for a nat in blocks of S. -/
structure Dst (h : Heap) (p : Option Addr) (c : Nat) (S : Nat → Prop) : Prop where
  pt : Pt p
  lim : c < 1099511627776
  room : Room h p c S
theorem NatI.ext {h h' : Heap} {p : Option Addr} {n v : Nat} (H : NatI h p n v) (f : Ext h h') : NatI h' p n v :=
  ⟨H.pt, H.lim, let ⟨ws, a, b⟩ := H.ex; ⟨ws, a.ext f, b⟩⟩
theorem NatI.fr {h h' : Heap} {p : Option Addr} {n v : Nat} {S : Nat → Prop} (H : NatI h p n v) (f : Fr S h h') (hp : ∀ b o, p = some ⟨b, o, none⟩ → b < h.size → ¬ S b) : NatI h' p n v :=
  ⟨H.pt, H.lim, let ⟨ws, a, b⟩ := H.ex; ⟨ws, a.fr f hp, b⟩⟩
theorem Dst.none {h : Heap} {S : Nat → Prop} : Dst h none 0 S := ⟨.inl rfl, by decide, .inl rfl⟩
theorem Dst.ext {h h' : Heap} {p : Option Addr} {c : Nat} {S : Nat → Prop} (H : Dst h p c S) (f : Ext h h') : Dst h' p c S := ⟨H.pt, H.lim, H.room.ext f⟩
theorem Dst.mono {h : Heap} {p : Option Addr} {c : Nat} {S T : Nat → Prop} (H : Dst h p c S) (f : ∀ b, S b → T b) : Dst h p c T := ⟨H.pt, H.lim, H.room.mono f⟩
end Go.Eng
namespace Go.Proofs
open Go Go.Eng
variable {B : World} {R : Ending → Heap → Prop} {h : Heap}
/-- nat.make: the old room, or a new block. -/
theorem K194 {pz : Option Addr} {zn zc n : Nat} {i : Int} {S : Nat → Prop} (hz : Dst h pz zc S) (hi : i = (n : Int)) (hn : n < 1099511627770)
    (H1 : n ≤ zc → R (.returned (.slice pz n zc)) h)
    (H2 : zc < n → ∀ c' cs, n ≤ c' → c' < 1099511627776 → cs.size = c' → R (.returned (.slice (some ⟨h.size, 0, none⟩) n c')) (h.push (.cells cs 171))) :
    Ent Tryz.prog B 152 #[.slice pz zn zc, .int .i64 i] R h := by
  subst hi
  have hl := hz.lim
  refine F194_ok _ _ _ _ ⟨fun e => ?_, fun e => ⟨fun e2 => ?_, fun e2 => ?_⟩⟩
  · refine sl_to rfl (by simp at e; omega) ?_
    rw [slP0 hz.pt]
    exact H1 (by simp at e; omega)
  · have : n = 1 := by simp at e2; omega
    subst this
    exact ⟨by decide, by decide, by decide, by decide, H2 (by simp at e; omega) 1 _ (by omega) (by omega) (by simp [mkCells])⟩
  · rw [i64_in (by omega) (by omega)]
    refine ⟨by omega, by omega, by omega, by omega, ?_⟩
    have := H2 (by simp at e; omega) (n + 4) (mkCells #[.int .u64 0] (Int.toNat ((n : Int) + 4) * 1)) (by omega) (by omega) (by simp [mkCells]; omega)
    have e3 : Int.toNat ((n : Int) + 4) = n + 4 := by omega
    rw [e3] at this ⊢
    exact this
/-- nat.norm. -/
theorem K197 {p : Option Addr} {n c : Nat} {ws : List Nat} (hp : Pt p) (hs : Sl .u64 h p ws) (hn : ws.length = n) (hc : n ≤ c) (hl : n < 1099511627776)
    (H : ∀ k, k ≤ n → Trim (ws.take k) → val B64 (ws.take k) = val B64 ws → R (.returned (.slice p k c)) h) : Ent Tryz.prog B 162 #[.slice p n c] R h := by
  refine F197_ok _ _ _ ⟨fun m vs h' => match vs with
    | [.slice p1 n1 c1, .int _ i] => p = p1 ∧ n = n1 ∧ c = c1 ∧ h = h' ∧ i = (m : Int) ∧ m ≤ n ∧ ∀ j (hj : j < ws.length), m ≤ j → ws[j] = 0
    | _ => False, n, ⟨rfl, rfl, rfl, rfl, rfl, Nat.le_refl _, fun j hj h => by omega⟩, ?_⟩
  rintro m h' _ _ _ _ ⟨rfl, rfl, rfl, rfl, rfl, hm, hz⟩ _
  have fin : m = 0 ∨ (∃ hm : 0 < m, ws[m - 1]'(by omega) ≠ 0) → F197_j13 B R (fun m vs h' => match vs with
    | [.slice p1 n1 c1, .int _ i] => p = p1 ∧ n = n1 ∧ c = c1 ∧ h = h' ∧ i = (m : Int) ∧ m ≤ n ∧ ∀ j (hj : j < ws.length), m ≤ j → ws[j] = 0
    | _ => False) m p n c (m : Int) false h := by
    intro hd
    refine ⟨fun e => Bool.noConfusion e, fun _ => sl_ft (l := 0) rfl rfl (by omega) (by omega) ?_⟩
    rw [slP0 hp]
    refine H m hm ?_ (take_trim (by omega) hz)
    unfold Trim
    rcases hd with h | ⟨h1, h2⟩
    · subst h; simp
    · rw [List.getLast?_eq_getElem?, List.length_take, Nat.min_eq_left (by omega), List.getElem?_take_of_lt (by omega), List.getElem?_eq_getElem (by omega)]
      intro e; exact h2 (Option.some.inj e)
  refine ⟨fun e => ?_, fun e => ?_⟩
  · have hm0 : 0 < m := by simp at e; omega
    refine hs.get (m - 1) (by rw [i64_in (by omega) (by omega)]; omega) (by omega) (by omega) ?_
    by_cases hw : ws[m - 1]'(by omega) = 0
    · rw [hw]
      refine ⟨fun _ => ⟨m - 1, by omega, rfl, rfl, rfl, rfl, ?_, by omega, fun j hj hk => ?_⟩, fun e => by simp at e⟩
      · rw [i64_in (by omega) (by omega)]; omega
      · by_cases hjm : j = m - 1
        · subst hjm; exact hw
        · exact hz j hj (by omega)
    · have : decide (((ws[m - 1]'(by omega) : Nat) : Int) = 0) = false := by simp; omega
      rw [this]
      exact fin (.inr ⟨hm0, hw⟩)
  · exact fin (.inl (by simp at e; omega))
/-- nat.set. -/
theorem K182 {pz px : Option Addr} {zn zc n xc v : Nat} {S : Nat → Prop} (hz : Dst h pz zc S) (hx : NatI h px n v) (hn : n < 1099511627770)
    (H : ∀ q c' h', Fr S h h' → n ≤ c' → NatI h' q n v → Dst h' q c' (fun b => S b ∨ h.size ≤ b) → R (.returned (.slice q n c')) h') : Ent Tryz.prog B 121 #[.slice pz zn zc, .slice px n xc] R h := by
  obtain ⟨ws, s1, s2, s3, s4, s5⟩ := hx.ex
  refine F182_ok _ _ _ _ _ _ (K194 hz rfl hn (fun hle => ⟨_, _, _, rfl, ?_⟩) (fun hlt c' cs h1 h2 h3 => ⟨_, _, _, rfl, ?_⟩))
  · rcases hz.room with h0 | ⟨b, o, cs, e1, e2, e3, e4⟩
    · subst h0
      have : n = 0 := by omega
      subst this
      have : ws = [] := List.eq_nil_of_length_eq_zero s2
      subst this
      rcases hz.pt with e | ⟨b, o, e⟩
      · subst e
        exact copy0 hx.pt (H _ _ _ Fr.rfl' (Nat.le_refl _) ⟨.inl rfl, by decide, [], Sl.nil, rfl, Dig.nil, s4, s5⟩ (hz.mono fun b h => .inl h))
      · subst e
        refine ⟨[], ?_, b, o, rfl, ?_⟩
        · rw [show Nat.min 0 0 * 1 = 0 from rfl]; exact Sl.row (k := .u64) (ws := []) Sl.nil hx.pt rfl
        refine ⟨fun x hx => absurd hx (by simp), fun i hi => absurd hi (by simp), ?_⟩
        · exact H _ _ _ Fr.rfl' (Nat.le_refl _) ⟨pt_some, by decide, [], Sl.nil, rfl, Dig.nil, s4, s5⟩ (hz.mono fun b h => .inl h)
    · subst e1
      refine copyK s1 s2 hx.pt e2 (by omega) fun h' W => ?_
      rw [show Nat.min n n = n from Nat.min_self n, List.take_of_length_le (by omega)] at W
      refine H _ _ _ (W.fr.mono fun x _ hx => hx ▸ e4) hle ⟨pt_some, hx.lim, ws, W.sl, s2, s3, s4, s5⟩ ⟨pt_some, hz.lim, .inr ?_⟩
      obtain ⟨cs', w1, w2, _, _⟩ := W.own e2
      exact ⟨b, o, cs', rfl, w1, by omega, .inl e4⟩
  · refine copyK (s1.ext Ext.push) s2 hx.pt own_new (by omega) fun h' W => ?_
    rw [show Nat.min n n = n from Nat.min_self n, List.take_of_length_le (by omega)] at W
    refine H _ _ _ (Fr.new (Nat.le_refl _) (Ext.push.to) W.fr) h1 ⟨pt_some, hx.lim, ws, W.sl, s2, s3, s4, s5⟩ ⟨pt_some, h2, .inr ?_⟩
    obtain ⟨cs', w1, w2, _, _⟩ := W.own own_new
    exact ⟨h.size, 0, cs', rfl, w1, by omega, .inr (Nat.le_refl _)⟩
end Go.Proofs
namespace Go.Proofs
open Go Go.Eng
variable {B : World} {R : Ending → Heap → Prop} {h : Heap}
/-- subVV: z (n words from bz, oz on) becomes x - y. -/
theorem K139 {pz px py : Option Addr} {bz oz n zc xc yc : Nat} {xs ys : List Nat} {cs : Array Value}
    (hz : pz = some ⟨bz, oz, none⟩) (hO : Own h bz cs) (hn : oz + n ≤ cs.size) (hx : Sl .u64 h px xs) (hy : Sl .u64 h py ys) (lx : xs.length = n) (ly : ys.length = n) (hlim : n < 9223372036854775807)
    (dx : Dig B64 xs) (dy : Dig B64 ys) (nx : ∀ b o, px = some ⟨b, o, none⟩ → b ≠ bz ∨ oz ≤ o) (ny : ∀ b o, py = some ⟨b, o, none⟩ → b ≠ bz ∨ oz ≤ o)
    (H : ∀ (zs : List Nat) (c : Nat) (h' : Heap), Wrote .u64 h h' bz oz zs → zs.length = n → Dig B64 zs → c ≤ 1 → val B64 xs + B64 ^ n * c = val B64 zs + val B64 ys → R (.returned (.int .u64 (c : Int))) h') :
    Ent Tryz.prog B 93 #[.slice pz n zc, .slice px n xc, .slice py n yc] R h := by
  refine F139_ok _ _ _ _ _ _ _ _ _ ⟨fun e => by simp at e, fun _ => ⟨fun e => by simp at e, fun _ => ?_⟩⟩
  refine ⟨fun m vs h' => match vs with
    | [.slice p1 n1 _, .slice p2 n2 _, .slice p3 n3 _, .int _ c, .int _ nn, .int _ i] => p1 = pz ∧ n1 = n ∧ p2 = px ∧ n2 = n ∧ p3 = py ∧ n3 = n ∧ nn = (n : Int) ∧ ∃ (zs : List Nat) (cc : Nat),
        Wrote .u64 h h' bz oz zs ∧ i = (zs.length : Int) ∧ c = (cc : Int) ∧ zs.length ≤ n ∧ m = n - zs.length ∧ Dig B64 zs ∧ cc ≤ 1 ∧ val B64 (xs.take zs.length) + B64 ^ zs.length * cc = val B64 zs + val B64 (ys.take zs.length)
    | _ => False, n, ⟨rfl, rfl, rfl, rfl, rfl, rfl, rfl, [], 0, Wrote.nil hO, rfl, rfl, by simp, by simp, Dig.nil, by omega, by simp [val]⟩, ?_⟩
  rintro m h' _ n2 _ _ _ _ _ _ _ _ _ _ ⟨rfl, rfl, rfl, e2, rfl, e3, rfl, zs, c, W, rfl, rfl, hle, rfl, dz, hc, hv⟩ _
  subst e2 e3 hz
  refine ⟨fun e => ?_, fun e => ?_⟩
  · have hlt : zs.length < xs.length := by simp at e; omega
    refine hx.getW W zs.length rfl hlt (by omega) (fun b o hb => by have := nx b o hb; omega) ?_
    refine hy.getW W zs.length rfl (by omega) (by omega) (fun b o hb => by have := ny b o hb; omega) ?_
    have bx := dx.get hlt
    have by' := dy.get (i := zs.length) (by omega)
    refine K198 hc ⟨_, _, rfl, ?_⟩
    refine W.put hO _ rfl rfl (by omega) hn fun W' => ?_
    refine ⟨_, ?_, rfl, rfl, rfl, by omega, rfl, by omega, rfl, _, _, W', ?_, rfl, by simp; omega, rfl, dz.snoc (Nat.mod_lt _ (by decide)), ?_, ?_⟩
    · simp; omega
    · rw [i64_in (by omega) (by omega)]; simp
    · split <;> omega
    · simp only [List.length_append, List.length_singleton]
      rw [val_snoc, val_take_succ _ _ hlt, val_take_succ _ _ (by omega : zs.length < ys.length), Nat.pow_succ]
      generalize hcc : (if xs[zs.length] < ys[zs.length] + c then 1 else 0) = cc
      generalize hz : (xs[zs.length] + B64 - ys[zs.length] - c) % B64 = z
      have key : xs[zs.length] + B64 * cc = z + ys[zs.length] + c := by
        unfold B64 at *
        split at hcc <;> omega
      have e2 : B64 ^ zs.length * xs[zs.length] + B64 ^ zs.length * (B64 * cc) = B64 ^ zs.length * z + B64 ^ zs.length * ys[zs.length] + B64 ^ zs.length * c := by
        rw [← Nat.mul_add, key, Nat.mul_add, Nat.mul_add]
      rw [Nat.mul_assoc]
      omega
  · have hl : zs.length = xs.length := by simp at e; omega
    exact H zs c h' W (by omega) dz hc (by rw [List.take_of_length_le (by omega), List.take_of_length_le (by omega), hl, lx] at hv; exact hv)

/-- What is left is copied: the end of addVW, subVW. -/
theorem copyTail {bz oz n zc xc i : Nat} {px : Option Addr} {xs zs : List Nat} {cs : Array Value} {h' : Heap} {K : Heap → Prop} (hO : Own h bz cs) (hn : oz + n ≤ cs.size) (hx : Sl .u64 h px xs) (ppx : Pt px) (lx : xs.length = n)
    (nx : ∀ b o, px = some ⟨b, o, none⟩ → b ≠ bz) (W : Wrote .u64 h h' bz oz zs) (hi : zs.length = i) (hin : i ≤ n) (hxc : n ≤ xc) (hzc : n ≤ zc) (K1 : ∀ h2, Wrote .u64 h h2 bz oz (zs ++ xs.drop i) → K h2) :
    cpW h' (slP (some ⟨bz, oz, none⟩) i zc 1) (n - i) (slP px i xc 1) (n - i) 1 fun _ h2 => K h2 := by
  subst hi
  obtain ⟨cs', w1, w2, w3, w4⟩ := W.own hO
  by_cases he : zs.length = n
  · have hd : xs.drop zs.length = [] := List.drop_eq_nil_of_le (by omega)
    rw [hd, List.append_nil] at K1
    have : n - zs.length = 0 := by omega
    rw [this]
    refine ⟨[], ?_, ?_⟩
    · exact Sl.row (k := .u64) (ws := []) Sl.nil (ppx.slP _ _) rfl
    · have hpz : ∃ b o, slP (some ⟨bz, oz, none⟩) zs.length zc 1 = some ⟨b, o, none⟩ := by
        unfold slP; split
        · exact ⟨_, _, rfl⟩
        · exact ⟨bz, oz + zs.length * 1, by simp [add_addr]⟩
      obtain ⟨b, o, hb⟩ := hpz
      rw [hb]
      refine ⟨b, o, rfl, fun x hx => absurd hx (by simp), fun i hi => absurd hi (by simp), K1 _ W⟩
  · rw [slP_some (by omega)]
    have sx : Sl .u64 h' (slP px zs.length xc 1) (xs.drop zs.length) := (hx.afterW W nx).drop _ _ (by omega)
    refine copyK sx (by rw [List.length_drop]; omega) (ppx.slP _ _) w1 (by omega) fun h2 W2 => ?_
    rw [show Nat.min (n - zs.length) (n - zs.length) = n - zs.length from Nat.min_self _, List.take_of_length_le (by rw [List.length_drop]; omega)] at W2
    exact K1 h2 (W.append W2 rfl)
/-- addVW, into another block. -/
theorem K203 {px : Option Addr} {bz oz n zc xc y : Nat} {xs : List Nat} {cs : Array Value} (hO : Own h bz cs) (hn : oz + n ≤ cs.size) (hx : Sl .u64 h px xs) (ppx : Pt px) (lx : xs.length = n) (hlim : n < 9223372036854775807)
    (hxc : n ≤ xc) (hzc : n ≤ zc) (dx : Dig B64 xs) (nx : ∀ b o, px = some ⟨b, o, none⟩ → b ≠ bz) (hy : y < B64)
    (H : ∀ (zs : List Nat) (c : Nat) (h' : Heap), Wrote .u64 h h' bz oz zs → zs.length = n → Dig B64 zs → c < B64 → val B64 zs + B64 ^ n * c = val B64 xs + y → R (.returned (.int .u64 (c : Int))) h') :
    Ent Tryz.prog B 168 #[.slice (some ⟨bz, oz, none⟩) n zc, .slice px n xc, .int .u64 (y : Int)] R h := by
  have hB : B64 = 18446744073709551616 := rfl
  refine F203_ok _ _ _ _ _ _ _ ⟨fun e => by simp at e, fun _ => ⟨fun e => ?_, fun e => ?_⟩⟩
  · have e : n = 0 := by simpa using e
    subst e
    have : xs = [] := List.eq_nil_of_length_eq_zero lx
    subst this
    exact H [] y h (Wrote.nil hO) rfl Dig.nil hy (by simp [val])
  have hn0 : 0 < n := by simp at e; omega
  have hne : xs ≠ [] := fun e => by rw [e] at lx; simp at lx; omega
  have cmp : ∀ {h' : Heap} {zs : List Nat} {K : Bool → Prop}, Wrote .u64 h h' bz oz zs → K false → ixW (some ⟨bz, oz, none⟩) n (0 : Int) 1 fun b20 o21 => ixW px n (0 : Int) 1 fun b22 o23 => pEq h' (some ⟨b20, o21, none⟩) (some ⟨b22, o23, none⟩) K := by
    intro h' zs K W hK
    refine ⟨bz, oz, rfl, by omega, by omega, ?_⟩
    rcases hx with hx | ⟨b, o, cs2, h1, h2, h3⟩
    · exact absurd hx hne
    subst h1
    refine ⟨b, o, rfl, by omega, by omega, .inr (.inr ⟨_, _, _, _, rfl, rfl, .inr ⟨(nx b o rfl).symm, ?_, ?_, hK⟩⟩)⟩
    · obtain ⟨cs', ⟨e, w1⟩, _⟩ := W.own hO; exact ⟨_, e, w1⟩
    · obtain ⟨e, he⟩ := h2.fr W.fr (nx b o rfl); exact ⟨_, e, he⟩
  refine hx.get 0 rfl (by omega) (by omega) (K204 (c := 0) (by decide) ⟨_, _, rfl, ?_⟩)
  have d0 : xs[0]'(by omega) < B64 := dx.get (by omega)
  have hxv : val B64 xs = xs[0]'(by omega) + B64 * val B64 (xs.drop 1) := by
    have := val_drop B64 xs (i := 0) (by omega); simpa using this
  refine (Wrote.nil (k := .u64) hO).put hO _ rfl rfl hn0 hn fun W => ?_
  simp only [List.length_nil, Nat.add_zero, List.nil_append] at W
  refine ⟨fun e => ?_, fun e => ?_⟩
  · have hc0 : (xs[0]'(by omega) + y + 0) / B64 = 0 := Int.natCast_eq_zero.1 (of_decide_eq_true e)
    refine cmp W ⟨fun _ => sl_from (l := 1) rfl (by omega) (sl_from (l := 1) rfl (by omega) ?_), fun e => by simp at e⟩
    refine copyTail hO hn hx ppx lx nx W rfl (by show 1 ≤ n; omega) hxc hzc fun h2 W2 => ?_
    refine H _ 0 h2 W2 (by simp; omega) (Dig.cons (dx.drop 1) (Nat.mod_lt _ (by decide))) (by decide) ?_
    show _ + B64 * val B64 (xs.drop 1) + _ = _
    rw [hxv]
    rw [Nat.mul_zero]
    unfold B64 at *; omega
  · have hc1 : (xs[0]'(by omega) + y) / B64 = 1 := by
      have h1 : (xs[0]'(by omega) + y + 0) / B64 ≠ 0 := fun hh => of_decide_eq_false e (Int.natCast_eq_zero.2 hh)
      unfold B64 at *; omega
    refine ⟨fun m vs h' => match vs with
      | [.slice p1 n1 c1, .slice p2 n2 c2, .int _ i] => some ⟨bz, oz, none⟩ = p1 ∧ n = n1 ∧ zc = c1 ∧ px = p2 ∧ n = n2 ∧ xc = c2 ∧ ∃ zs : List Nat, Wrote .u64 h h' bz oz zs ∧ i = (zs.length : Int) ∧ m = n - zs.length ∧ 0 < zs.length ∧ zs.length ≤ n ∧ Dig B64 zs ∧ val B64 zs + B64 ^ zs.length = val B64 (xs.take zs.length) + y
      | _ => False, n - 1, ⟨rfl, rfl, rfl, rfl, rfl, rfl, _, W, rfl, rfl, by simp, by simp; omega, Dig.cons Dig.nil (Nat.mod_lt _ (by decide)), ?_⟩, ?_⟩
    · have : xs.take 1 = [xs[0]'(by omega)] := by
        cases xs with
        | nil => exact absurd rfl hne
        | cons x xs => rfl
      simp only [List.length_singleton, this, val, Nat.pow_one, Nat.mul_zero, Nat.add_zero]
      unfold B64 at *; omega
    rintro m h' _ _ _ _ _ _ _ ⟨rfl, rfl, rfl, rfl, rfl, rfl, zs, W, rfl, rfl, hz0, hzn, dz, hv⟩ _
    refine ⟨fun e => ?_, fun e => ?_⟩
    · have hlt : zs.length < n := by simp at e; omega
      have dl : xs[zs.length]'(by omega) < B64 := dx.get (by omega)
      refine hx.getW W zs.length rfl (by omega) (by omega) (fun b o hb => .inl (nx b o hb)) ⟨fun e => ?_, fun e => ?_⟩
      · have hw : xs[zs.length]'(by omega) ≠ 18446744073709551615 := by simp at e; omega
        refine W.put hO (xs[zs.length]'(by omega) + 1) (by have := wadd (a := xs[zs.length]'(by omega)) (b := 1) (by omega); exact this) rfl hlt hn fun W' => ?_
        have ei : IntKind.i64.wrap ((zs.length : Int) + 1) = ((zs.length + 1 : Nat) : Int) := by rw [i64_in (by omega) (by omega)]; simp
        refine cmp W' ⟨fun _ => ?_, fun e => by simp at e⟩
        rw [ei]
        refine sl_from rfl (by omega) (sl_from rfl (by omega) ?_)
        refine copyTail hO hn hx ppx lx nx W' (by simp) (by omega) hxc hzc fun h2 W2 => ?_
        refine H _ 0 h2 W2 (by simp; omega) ((dz.snoc (by omega)).append (dx.drop _)) (by decide) ?_
        rw [val_append, val_snoc, List.length_append, List.length_singleton, val_split B64 xs (i := zs.length + 1) (by omega), val_take_succ _ _ (by omega), Nat.mul_add]
        omega
      · have hw : xs[zs.length]'(by omega) = 18446744073709551615 := by simp at e; omega
        refine W.put hO 0 rfl rfl hlt hn fun W' => ?_
        refine ⟨n - (zs.length + 1), by omega, rfl, rfl, rfl, rfl, rfl, rfl, _, W', by rw [i64_in (by omega) (by omega)]; simp, by simp, by simp, by simp; omega, dz.snoc (by decide), ?_⟩
        rw [List.length_append, List.length_singleton, val_snoc, val_take_succ _ _ (by omega), hw, Nat.pow_succ]
        have : B64 ^ zs.length * 18446744073709551615 + B64 ^ zs.length = B64 ^ zs.length * B64 := by
          unfold B64; omega
        omega
    · have : zs.length = n := by simp at e; omega
      exact H zs 1 h' W this dz (by decide) (by rw [this] at hv; rw [Nat.mul_one, hv, List.take_of_length_le (by omega)])
end Go.Proofs
namespace Go.Proofs
open Go Go.Eng
variable {B : World} {R : Ending → Heap → Prop} {h : Heap}
/-- Sub64, told by numbers. -/
theorem K198' {x y c : Nat} (hx : x < B64) (hy : y < B64) (hc : c ≤ 1) (H : ∀ z b : Nat, z < B64 → b ≤ 1 → x + B64 * b = z + y + c → R (.returned (.tuple #[.int .u64 (z : Int), .int .u64 (b : Int)])) h) :
    Ent Tryz.prog B 163 #[.int .u64 (x : Int), .int .u64 (y : Int), .int .u64 (c : Int)] R h := by
  refine K198 hc (H _ _ (Nat.mod_lt _ (by decide)) (by split <;> omega) ?_)
  generalize hb : (if x < y + c then 1 else 0) = b
  generalize hz : (x + B64 - y - c) % B64 = z
  unfold B64 at *
  split at hb <;> omega
/-- subVW, into another block. -/
theorem K196 {px : Option Addr} {bz oz n zc xc y : Nat} {xs : List Nat} {cs : Array Value} (hO : Own h bz cs) (hn : oz + n ≤ cs.size) (hx : Sl .u64 h px xs) (ppx : Pt px) (lx : xs.length = n) (hlim : n < 9223372036854775807)
    (hxc : n ≤ xc) (hzc : n ≤ zc) (dx : Dig B64 xs) (nx : ∀ b o, px = some ⟨b, o, none⟩ → b ≠ bz) (hy : y < B64)
    (H : ∀ (zs : List Nat) (c : Nat) (h' : Heap), Wrote .u64 h h' bz oz zs → zs.length = n → Dig B64 zs → c < B64 → val B64 xs + B64 ^ n * c = val B64 zs + y → R (.returned (.int .u64 (c : Int))) h') :
    Ent Tryz.prog B 161 #[.slice (some ⟨bz, oz, none⟩) n zc, .slice px n xc, .int .u64 (y : Int)] R h := by
  have hB : B64 = 18446744073709551616 := rfl
  refine F196_ok _ _ _ _ _ _ _ ⟨fun e => by simp at e, fun _ => ⟨fun e => ?_, fun e => ?_⟩⟩
  · have e : n = 0 := by simpa using e
    subst e
    have : xs = [] := List.eq_nil_of_length_eq_zero lx
    subst this
    exact H [] y h (Wrote.nil hO) rfl Dig.nil hy (by simp [val])
  have hn0 : 0 < n := by simp at e; omega
  have hne : xs ≠ [] := fun e => by rw [e] at lx; simp at lx; omega
  have cmp : ∀ {h' : Heap} {zs : List Nat} {K : Bool → Prop}, Wrote .u64 h h' bz oz zs → K false → ixW (some ⟨bz, oz, none⟩) n (0 : Int) 1 fun b20 o21 => ixW px n (0 : Int) 1 fun b22 o23 => pEq h' (some ⟨b20, o21, none⟩) (some ⟨b22, o23, none⟩) K := by
    intro h' zs K W hK
    refine ⟨bz, oz, rfl, by omega, by omega, ?_⟩
    rcases hx with hx | ⟨b, o, cs2, h1, h2, h3⟩
    · exact absurd hx hne
    subst h1
    refine ⟨b, o, rfl, by omega, by omega, .inr (.inr ⟨_, _, _, _, rfl, rfl, .inr ⟨(nx b o rfl).symm, ?_, ?_, hK⟩⟩)⟩
    · obtain ⟨cs', ⟨e, w1⟩, _⟩ := W.own hO; exact ⟨_, e, w1⟩
    · obtain ⟨e, he⟩ := h2.fr W.fr (nx b o rfl); exact ⟨_, e, he⟩
  have d0 : xs[0]'(by omega) < B64 := dx.get (by omega)
  refine hx.get 0 rfl (by omega) (by omega) (K198' (c := 0) d0 hy (by decide) fun z0 b0 hz0 hb0 hzb => ⟨_, _, rfl, ?_⟩)
  have hxv : val B64 xs = xs[0]'(by omega) + B64 * val B64 (xs.drop 1) := by
    have := val_drop B64 xs (i := 0) (by omega); simpa using this
  refine (Wrote.nil (k := .u64) hO).put hO _ rfl rfl hn0 hn fun W => ?_
  simp only [List.length_nil, Nat.add_zero, List.nil_append] at W
  refine ⟨fun e => ?_, fun e => ?_⟩
  · have hc0 : b0 = 0 := Int.natCast_eq_zero.1 (of_decide_eq_true e)
    refine cmp W ⟨fun _ => sl_from (l := 1) rfl (by omega) (sl_from (l := 1) rfl (by omega) ?_), fun e => by simp at e⟩
    refine copyTail hO hn hx ppx lx nx W rfl (by show 1 ≤ n; omega) hxc hzc fun h2 W2 => ?_
    refine H _ 0 h2 W2 (by simp; omega) (Dig.cons (dx.drop 1) hz0) (by decide) ?_
    have hv : val B64 (z0 :: xs.drop 1) = z0 + B64 * val B64 (xs.drop 1) := rfl
    show val B64 xs + _ = val B64 (z0 :: xs.drop 1) + y
    rw [hv, hxv, Nat.mul_zero]
    rw [hc0] at hzb
    omega
  · have hc1 : b0 ≠ 0 := fun hh => of_decide_eq_false e (Int.natCast_eq_zero.2 hh)
    refine ⟨fun m vs h' => match vs with
      | [.slice p1 n1 c1, .slice p2 n2 c2, .int _ i] => some ⟨bz, oz, none⟩ = p1 ∧ n = n1 ∧ zc = c1 ∧ px = p2 ∧ n = n2 ∧ xc = c2 ∧ ∃ zs : List Nat, Wrote .u64 h h' bz oz zs ∧ i = (zs.length : Int) ∧ m = n - zs.length ∧ 0 < zs.length ∧ zs.length ≤ n ∧ Dig B64 zs ∧ val B64 (xs.take zs.length) + B64 ^ zs.length = val B64 zs + y
      | _ => False, n - 1, ⟨rfl, rfl, rfl, rfl, rfl, rfl, _, W, rfl, rfl, by simp, by simp; omega, Dig.cons Dig.nil hz0, ?_⟩, ?_⟩
    · have : xs.take 1 = [xs[0]'(by omega)] := by
        cases xs with
        | nil => exact absurd rfl hne
        | cons x xs => rfl
      simp only [List.length_singleton, this, val, Nat.pow_one, Nat.mul_zero, Nat.add_zero]
      have : b0 = 1 := by omega
      rw [this] at hzb
      omega
    rintro m h' _ _ _ _ _ _ _ ⟨rfl, rfl, rfl, rfl, rfl, rfl, zs, W, rfl, rfl, hz0, hzn, dz, hv⟩ _
    refine ⟨fun e => ?_, fun e => ?_⟩
    · have hlt : zs.length < n := by simp at e; omega
      have dl : xs[zs.length]'(by omega) < B64 := dx.get (by omega)
      refine hx.getW W zs.length rfl (by omega) (by omega) (fun b o hb => .inl (nx b o hb)) ⟨fun e => ?_, fun e => ?_⟩
      · have hw : xs[zs.length]'(by omega) ≠ 0 := by simp at e; omega
        refine W.put hO (xs[zs.length]'(by omega) - 1) (by rw [show ((xs[zs.length]'(by omega) : Nat) : Int) - 1 = ((xs[zs.length]'(by omega) - 1 : Nat) : Int) by omega, wrap_u64_nat, Nat.mod_eq_of_lt (by omega)]) rfl hlt hn fun W' => ?_
        have ei : IntKind.i64.wrap ((zs.length : Int) + 1) = ((zs.length + 1 : Nat) : Int) := by rw [i64_in (by omega) (by omega)]; simp
        refine cmp W' ⟨fun _ => ?_, fun e => by simp at e⟩
        rw [ei]
        refine sl_from rfl (by omega) (sl_from rfl (by omega) ?_)
        refine copyTail hO hn hx ppx lx nx W' (by simp) (by omega) hxc hzc fun h2 W2 => ?_
        refine H _ 0 h2 W2 (by simp; omega) ((dz.snoc (by omega)).append (dx.drop _)) (by decide) ?_
        rw [val_append, val_snoc, List.length_append, List.length_singleton, val_split B64 xs (i := zs.length + 1) (by omega), val_take_succ _ _ (by omega)]
        have : B64 ^ zs.length * (xs[zs.length]'(by omega) - 1) + B64 ^ zs.length = B64 ^ zs.length * xs[zs.length]'(by omega) := by
          rw [← Nat.mul_succ]; congr 1; omega
        omega
      · have hw : xs[zs.length]'(by omega) = 0 := by simp at e; omega
        refine W.put hO 18446744073709551615 rfl rfl hlt hn fun W' => ?_
        refine ⟨n - (zs.length + 1), by omega, rfl, rfl, rfl, rfl, rfl, rfl, _, W', by rw [i64_in (by omega) (by omega)]; simp, by simp, by simp, by simp; omega, dz.snoc (by omega), ?_⟩
        rw [List.length_append, List.length_singleton, val_snoc, val_take_succ _ _ (by omega), hw, Nat.pow_succ]
        have : B64 ^ zs.length * 18446744073709551615 + B64 ^ zs.length = B64 ^ zs.length * B64 := by
          unfold B64; omega
        omega
    · have : zs.length = n := by simp at e; omega
      exact H zs 1 h' W this dz (by decide) (by rw [this] at hv; rw [List.take_of_length_le (by omega)] at hv; rw [Nat.mul_one, hv])
end Go.Proofs
