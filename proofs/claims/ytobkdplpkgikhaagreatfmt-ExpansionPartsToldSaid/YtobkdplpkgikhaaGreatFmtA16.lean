import Derived.Test.YtobkdplpkgikhaaGreatFmtA15
/- Here stand lemmas and contracts, in the order in which they are used. -/
set_option linter.unusedVariables false
namespace Go.Eng
theorem or_split {A C a c k : Nat} (hA : A < 2 ^ k) (hC : C < 2 ^ k) : (A + 2 ^ k * a) ||| (C + 2 ^ k * c) = (A ||| C) + 2 ^ k * (a ||| c) := by
  have e1 : ∀ {x y : Nat}, x < 2 ^ k → x + 2 ^ k * y = 2 ^ k * y ||| x := fun hx => by rw [Nat.add_comm]; exact Nat.two_pow_add_eq_or_of_lt hx _
  rw [e1 hA, e1 hC, e1 (Nat.or_lt_two_pow hA hC)]
  have e2 : 2 ^ k * (a ||| c) = 2 ^ k * a ||| 2 ^ k * c := by
    simp only [Nat.mul_comm (2 ^ k), ← Nat.shiftLeft_eq]; exact Nat.shiftLeft_or_distrib
  rw [e2]
  apply Nat.eq_of_testBit_eq
  intro i
  simp only [Nat.testBit_or]
  cases Nat.testBit (2 ^ k * a) i <;> cases Nat.testBit A i <;> cases Nat.testBit (2 ^ k * c) i <;> cases Nat.testBit C i <;> rfl
theorem and_split {A C a c k : Nat} (hA : A < 2 ^ k) (hC : C < 2 ^ k) : (A + 2 ^ k * a) &&& (C + 2 ^ k * c) = (A &&& C) + 2 ^ k * (a &&& c) := by
  apply Nat.eq_of_testBit_eq
  intro i
  have t : ∀ {x y : Nat}, x < 2 ^ k → (x + 2 ^ k * y).testBit i = if i < k then x.testBit i else y.testBit (i - k) := fun hx => by
    rw [Nat.add_comm]; exact Nat.testBit_two_pow_mul_add _ hx i
  rw [Nat.testBit_and, t hA, t hC, t (Nat.lt_of_le_of_lt Nat.and_le_left hA)]
  split <;> simp
end Go.Eng
namespace Go.Proofs
open Go Go.Eng
variable {B : World} {R : Ending → Heap → Prop} {h : Heap}
theorem val_lt64 {ws : List Nat} (d : Dig B64 ws) {n : Nat} (hn : ws.length = n) : val B64 ws < 2 ^ (64 * n) := by rw [← pow64, ← hn]; exact val_lt d
/-- The loop of nat.or, and the rest. -/
theorem K168m {pz px py ps : Option Addr} {zn zc n n' xc m yc sn sc : Nat} {S : Nat → Prop} {xs ys ss : List Nat} {vs : Nat} (hz : Dst h pz zc S) (hx : Sl .u64 h px xs) (hy : Sl .u64 h py ys) (hs : Sl .u64 h ps ss)
    (dx : Dig B64 xs) (dy : Dig B64 ys) (ds : Dig B64 ss) (hmx : m ≤ xs.length) (hmy : m ≤ ys.length) (hxn : xs.length = n) (hyn : ys.length = n') (hss : ss.length = sn) (hm : m ≤ sn) (hsc : sn ≤ sc) (h0 : 0 < sn)
    (ax : Al S pz px n) (ay : Al S pz py n') (al : Al S pz ps sn) (pps : Pt ps) (ln : sn < 549755813888)
    (hv : ∀ zs : List Nat, zs.length = m → Dig B64 zs → val B64 zs = (val B64 (xs.take m) ||| val B64 (ys.take m)) → val B64 (zs ++ ss.drop m) = vs) (H : NatK R h S vs) :
    F168_j4 B R pz zn zc px n xc py n' yc (sn : Int) (m : Int) ps sn sc h := by
  have sne : ss ≠ [] := fun e => by rw [e] at hss; simp at hss; omega
  refine K194' (n := sn) hz rfl (by omega) (by omega) fun b o c cs h1 fE hO hl hc hlim hb => ⟨_, _, _, rfl, ?_⟩
  have x1 := hx.ext fE
  have y1 := hy.ext fE
  have s1 := hs.ext fE
  refine ⟨fun mm vs h' => match vs with
    | [.slice p1 n1 c1, .slice p2 n2 c2, .slice p3 n3 c3, .int _ sn', .int _ m', .slice p4 n4 c4, .int _ i] => some ⟨b, o, none⟩ = p1 ∧ sn = n1 ∧ c = c1 ∧ px = p2 ∧ n = n2 ∧ py = p3 ∧ n' = n3 ∧ (sn : Int) = sn' ∧ (m : Int) = m' ∧ ps = p4 ∧ sn = n4 ∧ sc = c4 ∧
        ∃ zs : List Nat, Wrote .u64 h1 h' b o zs ∧ i = (zs.length : Int) ∧ mm = m - zs.length ∧ zs.length ≤ m ∧ Dig B64 zs ∧ val B64 zs = (val B64 (xs.take zs.length) ||| val B64 (ys.take zs.length))
    | _ => False, m, ⟨rfl, rfl, rfl, rfl, rfl, rfl, rfl, rfl, rfl, rfl, rfl, rfl, [], Wrote.nil hO, rfl, by simp, by simp, Dig.nil, by simp [val]⟩, ?_⟩
  rintro mm h' _ _ _ _ _ _ _ _ _ _ _ _ _ _ _ ⟨rfl, rfl, rfl, rfl, rfl, rfl, rfl, rfl, rfl, rfl, rfl, rfl, zs, W, rfl, rfl, hzm, dz, hvz⟩ _
  refine ⟨fun e => ?_, fun e => ?_⟩
  · have hlt : zs.length < m := by simp at e; omega
    have xne : xs ≠ [] := fun e => by rw [e] at hmx; simp at hmx; omega
    have yne : ys ≠ [] := fun e => by rw [e] at hmy; simp at hmy; omega
    refine x1.getW W zs.length rfl (by omega) (by omega) (fun b' o' e => by have := ax.at hx xne hxn hb b' o' e; omega) ?_
    refine y1.getW W zs.length rfl (by omega) (by omega) (fun b' o' e => by have := ay.at hy yne hyn hb b' o' e; omega) ?_
    have d1 : xs[zs.length]'(by omega) < B64 := dx.get (by omega)
    have d2 : ys[zs.length]'(by omega) < B64 := dy.get (by omega)
    rw [bitsI_or d1 d2]
    refine W.put hO _ rfl rfl (by omega) (by omega : o + sn ≤ cs.size) fun W' => ?_
    refine ⟨m - (zs.length + 1), by omega, rfl, rfl, rfl, rfl, rfl, rfl, rfl, rfl, rfl, rfl, rfl, rfl, _, W', by rw [i64_in (by omega) (by omega)]; simp, by simp, by simp; omega, dz.snoc (Nat.or_lt_two_pow (n := 64) d1 d2), ?_⟩
    rw [List.length_append, List.length_singleton, val_snoc, hvz, val_take_succ _ _ (by omega), val_take_succ _ _ (by omega : zs.length < ys.length), pow64]
    exact (or_split (val_lt64 (dx.take _) (by rw [List.length_take]; omega)) (val_lt64 (dy.take _) (by rw [List.length_take]; omega))).symm
  · have hlm : zs.length = m := by simp at e; omega
    refine sl_ft (l := m) (m := sn) rfl rfl (by omega) (by omega) (sl_ft (l := m) (m := sn) rfl rfl (by omega) (by omega) ?_)
    have fin : ∀ {h2 : Heap} {us : List Nat}, us = zs ++ ss.drop m → Wrote .u64 h1 h2 b o us → F168_j61 B R (fun mm vs h' => match vs with
        | [.slice p1 n1 c1, .slice p2 n2 c2, .slice p3 n3 c3, .int _ sn', .int _ m', .slice p4 n4 c4, .int _ i] => some ⟨b, o, none⟩ = p1 ∧ sn = n1 ∧ c = c1 ∧ px = p2 ∧ n = n2 ∧ py = p3 ∧ n' = n3 ∧ (sn : Int) = sn' ∧ (m : Int) = m' ∧ ps = p4 ∧ sn = n4 ∧ sc = c4 ∧
            ∃ zs : List Nat, Wrote .u64 h1 h' b o zs ∧ i = (zs.length : Int) ∧ mm = m - zs.length ∧ zs.length ≤ m ∧ Dig B64 zs ∧ val B64 zs = (val B64 (xs.take zs.length) ||| val B64 (ys.take zs.length))
        | _ => False) (m - zs.length) (some ⟨b, o, none⟩) sn c h2 := by
      intro h2 us hu W2
      subst hu
      exact natEnd fE.to W2 (Dst.inS hb) hO hl (by rw [List.length_append, List.length_drop]; omega) hc hlim (dz.append (ds.drop m)) (hv zs hlm dz (by rw [hvz, hlm])) H
    by_cases hme : m = sn
    · have hd : ss.drop m = [] := List.drop_eq_nil_of_le (by omega)
      have h00 : sn - m = 0 := by omega
      rw [h00]
      refine ⟨[], ?_, ?_⟩
      · exact Sl.row (k := .u64) (ws := []) Sl.nil (pps.slP _ _) rfl
      · have hpz : ∃ b' o', slP (some ⟨b, o, none⟩) m c 1 = some ⟨b', o', none⟩ := by
          unfold slP; split
          · exact ⟨_, _, rfl⟩
          · exact ⟨b, o + m * 1, by simp [add_addr]⟩
        obtain ⟨b', o', hb'⟩ := hpz
        rw [hb']
        refine ⟨b', o', rfl, fun x hx => absurd hx (by simp), fun i hi => absurd hi (by simp), fin (by rw [hd, List.append_nil]) W⟩
    · rw [slP_some (by omega)]
      obtain ⟨cs2, w1, w2, w3, w4⟩ := W.own hO
      have as' := al.at hs sne hss hb
      have s2 : Sl .u64 h' (slP ps m sc 1) (ss.drop m) := by
        rcases s1 with e | ⟨b', o', cs', e1, e2, e3⟩
        · exact absurd e sne
        subst e1
        rw [slP_some (by omega)]
        have hcase := as' b' o' rfl
        by_cases hbb : b' = b
        · subst hbb
          have ho' : o' = o := by omega
          subst ho'
          have := e2.inj hO
          subst this
          refine .inr ⟨_, _, cs2, rfl, w1, fun i hi => ?_⟩
          rw [List.length_drop] at hi
          rw [w3 _ (by omega), List.getElem_drop, Nat.add_assoc, e3 (m + i) (by omega)]
        · refine .inr ⟨_, _, cs', rfl, e2.fr W.fr hbb, fun i hi => ?_⟩
          rw [List.length_drop] at hi
          rw [List.getElem_drop, Nat.add_assoc, e3 (m + i) (by omega)]
      refine copyK s2 (by rw [List.length_drop]; omega) (pps.slP _ _) w1 (by omega) fun h2 W2 => ?_
      rw [show Nat.min (sn - m) (sn - m) = sn - m from Nat.min_self _, List.take_of_length_le (by rw [List.length_drop]; omega)] at W2
      exact fin rfl (W.append W2 (by rw [hlm]))
/-- nat.or, where x is. -/
theorem K168i {px py : Option Addr} {n xc m yc vx vy : Nat} {S : Nat → Prop} (hz : Dst h px xc S) (hx : NatI h px n vx) (hy : NatI h py m vy) (hay : Al S px py m) (hxc : n ≤ xc) (hyc : m ≤ yc) (ln : n < 549755813888) (lm : m < 549755813888) (h0 : 0 < vx ||| vy) (H : NatK R h S (vx ||| vy)) :
    Ent Tryz.prog B 136 #[.slice px n xc, .slice px n xc, .slice py m yc] R h := by
  obtain ⟨xs, x1, x2, x3, x4, x5⟩ := hx.ex
  obtain ⟨ys, y1, y2, y3, y4, y5⟩ := hy.ex
  have x5 : val B64 xs = vx := x5
  have y5 : val B64 ys = vy := y5
  have hne : 0 < n ∨ 0 < m := by
    by_cases hn : n = 0
    · by_cases hm : m = 0
      · exfalso
        rw [← x5, ← y5, List.eq_nil_of_length_eq_zero (x2.trans hn), List.eq_nil_of_length_eq_zero (y2.trans hm)] at h0
        exact absurd h0 (by decide)
      · omega
    · omega
  refine F168_ok _ _ _ _ _ _ _ _ _ ⟨fun e => ?_, fun e => ?_⟩
  · have hlt : n < m := by simp at e; omega
    refine K168m hz x1 y1 y1 x3 y3 y3 (by omega) (by omega) x2 y2 y2 (by omega) hyc (by omega) (.inl rfl) hay hay hy.pt (by omega) (fun zs lz dz hv => ?_) H
    rw [val_append, lz, hv, List.take_of_length_le (by omega : xs.length ≤ n), ← x5, ← y5, val_split B64 ys (i := n) (by omega), pow64]
    have := or_split (a := 0) (c := val B64 (ys.drop n)) (val_lt64 x3 x2) (val_lt64 (y3.take n) (n := n) (by rw [List.length_take]; omega))
    rw [Nat.mul_zero, Nat.add_zero, Nat.zero_or] at this
    exact this.symm
  · have hle : m ≤ n := by simp at e; omega
    refine K168m hz x1 y1 x1 x3 y3 x3 (by omega) (by omega) x2 y2 x2 (by omega) hxc (by omega) (.inl rfl) hay (.inl rfl) hx.pt (by omega) (fun zs lz dz hv => ?_) H
    rw [val_append, lz, hv, List.take_of_length_le (by omega : ys.length ≤ m), ← x5, ← y5, val_split B64 xs (i := m) (by omega), pow64]
    have := or_split (c := 0) (a := val B64 (xs.drop m)) (val_lt64 (x3.take m) (n := m) (by rw [List.length_take]; omega)) (val_lt64 y3 y2)
    rw [Nat.mul_zero, Nat.add_zero, Nat.or_zero] at this
    exact this.symm
end Go.Proofs
namespace Go.Proofs
open Go Go.Eng
variable {B : World} {R : Ending → Heap → Prop} {h : Heap}
/-- nat.and, into new memory. -/
theorem K169m {px py : Option Addr} {n n' xc m yc vx vy : Nat} {xs ys : List Nat} (hx : Sl .u64 h px xs) (hy : Sl .u64 h py ys)
    (dx : Dig B64 xs) (dy : Dig B64 ys) (hmx : m ≤ xs.length) (hmy : m ≤ ys.length) (hxn : xs.length = n) (hyn : ys.length = n') (h0 : 0 < m) (ln : m < 549755813888) {vs : Nat}
    (hv : (val B64 (xs.take m) &&& val B64 (ys.take m)) = vs) (H : NatK R h (fun _ => False) vs) :
    F169_j4 B R none 0 0 px n xc py n' yc (m : Int) h := by
  have xne : xs ≠ [] := fun e => by rw [e] at hmx; simp at hmx; omega
  have yne : ys ≠ [] := fun e => by rw [e] at hmy; simp at hmy; omega
  refine K194' (n := m) (S := fun _ => False) Dst.none rfl (by omega) (by omega) fun b o c cs h1 fE hO hl hc hlim hb => ⟨_, _, _, rfl, ?_⟩
  have x1 := hx.ext fE
  have y1 := hy.ext fE
  have nex := fresh_ne (S := fun _ => False) hx xne hb
  have ney := fresh_ne (S := fun _ => False) hy yne hb
  refine ⟨fun mm vs h' => match vs with
    | [.slice p1 n1 c1, .slice p2 n2 c2, .slice p3 n3 c3, .int _ m', .int _ i] => some ⟨b, o, none⟩ = p1 ∧ m = n1 ∧ c = c1 ∧ px = p2 ∧ n = n2 ∧ py = p3 ∧ n' = n3 ∧ (m : Int) = m' ∧
        ∃ zs : List Nat, Wrote .u64 h1 h' b o zs ∧ i = (zs.length : Int) ∧ mm = m - zs.length ∧ zs.length ≤ m ∧ Dig B64 zs ∧ val B64 zs = (val B64 (xs.take zs.length) &&& val B64 (ys.take zs.length))
    | _ => False, m, ⟨rfl, rfl, rfl, rfl, rfl, rfl, rfl, rfl, [], Wrote.nil hO, rfl, by simp, by simp, Dig.nil, by simp [val]⟩, ?_⟩
  rintro mm h' _ _ _ _ _ _ _ _ _ _ _ ⟨rfl, rfl, rfl, rfl, rfl, rfl, rfl, rfl, zs, W, rfl, rfl, hzm, dz, hvz⟩ _
  refine ⟨fun e => ?_, fun e => ?_⟩
  · have hlt : zs.length < m := by simp at e; omega
    refine x1.getW W zs.length rfl (by omega) (by omega) (fun b' o' e => .inl (nex b' o' e)) ?_
    refine y1.getW W zs.length rfl (by omega) (by omega) (fun b' o' e => .inl (ney b' o' e)) ?_
    have d1 : xs[zs.length]'(by omega) < B64 := dx.get (by omega)
    have d2 : ys[zs.length]'(by omega) < B64 := dy.get (by omega)
    rw [bitsI_and d1, Nat.mod_eq_of_lt d2]
    refine W.put hO _ rfl rfl (by omega) (by omega : o + m ≤ cs.size) fun W' => ?_
    refine ⟨m - (zs.length + 1), by omega, rfl, rfl, rfl, rfl, rfl, rfl, rfl, rfl, _, W', by rw [i64_in (by omega) (by omega)]; simp, by simp, by simp; omega, dz.snoc (Nat.lt_of_le_of_lt Nat.and_le_left d1), ?_⟩
    rw [List.length_append, List.length_singleton, val_snoc, hvz, val_take_succ _ _ (by omega), val_take_succ _ _ (by omega : zs.length < ys.length), pow64]
    exact (and_split (val_lt64 (dx.take _) (by rw [List.length_take]; omega)) (val_lt64 (dy.take _) (by rw [List.length_take]; omega))).symm
  · have hlm : zs.length = m := by simp at e; omega
    exact natEnd fE.to W (Dst.inS hb) hO hl hlm hc hlim dz (by rw [hvz, hlm]; exact hv) H
theorem K169f {px py : Option Addr} {n xc m yc vx vy : Nat} (hx : NatI h px n vx) (hy : NatI h py m vy) (ln : n < 549755813888) (lm : m < 549755813888) (hn0 : 0 < n) (hm0 : 0 < m) (H : NatK R h (fun _ => False) (vx &&& vy)) :
    Ent Tryz.prog B 137 #[.slice none 0 0, .slice px n xc, .slice py m yc] R h := by
  obtain ⟨xs, x1, x2, x3, x4, x5⟩ := hx.ex
  obtain ⟨ys, y1, y2, y3, y4, y5⟩ := hy.ex
  have x5 : val B64 xs = vx := x5
  have y5 : val B64 ys = vy := y5
  refine F169_ok _ _ _ _ _ _ _ _ _ ⟨fun e => ?_, fun e => ?_⟩
  · have hlt : m < n := by simp at e; omega
    refine K169m x1 y1 x3 y3 (by omega) (by omega) x2 y2 hm0 (by omega) (vx := 0) (vy := 0) ?_ H
    rw [List.take_of_length_le (by omega : ys.length ≤ m), ← x5, ← y5, val_split B64 xs (i := m) (by omega), pow64]
    have := and_split (c := 0) (a := val B64 (xs.drop m)) (val_lt64 (x3.take m) (n := m) (by rw [List.length_take]; omega)) (val_lt64 y3 y2)
    rw [Nat.mul_zero, Nat.add_zero, Nat.and_zero, Nat.mul_zero, Nat.add_zero] at this
    exact this.symm
  · have hle : n ≤ m := by simp at e; omega
    refine K169m x1 y1 x3 y3 (by omega) (by omega) x2 y2 hn0 (by omega) (vx := 0) (vy := 0) ?_ H
    rw [List.take_of_length_le (by omega : xs.length ≤ n), ← x5, ← y5, val_split B64 ys (i := n) (by omega), pow64]
    have := and_split (a := 0) (c := val B64 (ys.drop n)) (val_lt64 x3 x2) (val_lt64 (y3.take n) (n := n) (by rw [List.length_take]; omega))
    rw [Nat.mul_zero, Nat.add_zero, Nat.zero_and, Nat.mul_zero, Nat.add_zero] at this
    exact this.symm
/-- mulAddVWW, into another block. -/
theorem K142 {px : Option Addr} {bz oz n zc xc y r : Nat} {xs : List Nat} {cs : Array Value} (hO : Own h bz cs) (hn : oz + n ≤ cs.size) (hx : Sl .u64 h px xs) (lx : xs.length = n) (hlim : n < 9223372036854775807)
    (dx : Dig B64 xs) (nx : ∀ b o, px = some ⟨b, o, none⟩ → b ≠ bz ∨ oz ≤ o) (hy : y < B64) (hr : r < B64)
    (H : ∀ (zs : List Nat) (c : Nat) (h' : Heap), Wrote .u64 h h' bz oz zs → zs.length = n → Dig B64 zs → c < B64 → val B64 zs + B64 ^ n * c = val B64 xs * y + r → R (.returned (.int .u64 (c : Int))) h') :
    Ent Tryz.prog B 96 #[.slice (some ⟨bz, oz, none⟩) n zc, .slice px n xc, .int .u64 (y : Int), .int .u64 (r : Int)] R h := by
  refine F142_ok _ _ _ _ _ _ _ _ ⟨fun e => by simp at e, fun _ => ?_⟩
  refine ⟨fun m vs h' => match vs with
    | [.slice p1 n1 _, .slice p2 n2 _, .int _ y', .int _ c, .int _ nn, .int _ i] => some ⟨bz, oz, none⟩ = p1 ∧ n = n1 ∧ px = p2 ∧ n = n2 ∧ (y : Int) = y' ∧ (n : Int) = nn ∧ ∃ (zs : List Nat) (cc : Nat),
        Wrote .u64 h h' bz oz zs ∧ i = (zs.length : Int) ∧ c = (cc : Int) ∧ zs.length ≤ n ∧ m = n - zs.length ∧ Dig B64 zs ∧ cc < B64 ∧ val B64 zs + B64 ^ zs.length * cc = val B64 (xs.take zs.length) * y + r
    | _ => False, n, ⟨rfl, rfl, rfl, rfl, rfl, rfl, [], r, Wrote.nil hO, rfl, rfl, by simp, by simp, Dig.nil, hr, by simp [val]⟩, ?_⟩
  rintro m h' _ _ _ _ _ _ _ _ _ _ ⟨rfl, rfl, rfl, rfl, rfl, rfl, zs, c, W, rfl, rfl, hle, rfl, dz, hc, hv⟩ _
  refine ⟨fun e => ?_, fun e => ?_⟩
  · have hlt : zs.length < n := by simp at e; omega
    refine hx.getW W zs.length rfl (by omega) (by omega) (fun b o hb => by have := nx b o hb; omega) ?_
    have d1 : xs[zs.length]'(by omega) < B64 := dx.get (by omega)
    refine K242 d1 hy hc ⟨_, _, rfl, ?_⟩
    refine W.put hO _ rfl rfl (by omega) hn fun W' => ?_
    refine ⟨n - (zs.length + 1), by omega, rfl, rfl, rfl, rfl, rfl, rfl, _, _, W', by rw [i64_in (by omega) (by omega)]; simp, rfl, by simp; omega, by simp, dz.snoc (Nat.mod_lt _ (by decide)), ?_, ?_⟩
    · have h1 : xs[zs.length]'(by omega) * y ≤ 18446744073709551615 * 18446744073709551615 := Nat.mul_le_mul (by unfold B64 at d1; omega) (by unfold B64 at hy; omega)
      unfold B64 at *; omega
    · simp only [List.length_append, List.length_singleton]
      rw [val_snoc, val_take_succ _ _ (by omega), Nat.pow_succ, Nat.add_mul]
      have key := Nat.mod_add_div (xs[zs.length]'(by omega) * y + c) B64
      have e2 : B64 ^ zs.length * ((xs[zs.length]'(by omega) * y + c) % B64) + B64 ^ zs.length * (B64 * ((xs[zs.length]'(by omega) * y + c) / B64)) = B64 ^ zs.length * xs[zs.length]'(by omega) * y + B64 ^ zs.length * c := by
        rw [← Nat.mul_add, key, Nat.mul_add, Nat.mul_assoc]
      rw [Nat.mul_assoc (B64 ^ zs.length) B64]
      omega
  · have hl : zs.length = n := by simp at e; omega
    exact H zs c h' W hl dz hc (by rw [List.take_of_length_le (by omega), hl] at hv; exact hv)
/-- nat.mulAddWW, into new memory. -/
theorem K228 {px : Option Addr} {n xc vx y : Nat} (hx : NatI h px n vx) (ln : n < 549755813888) (hn0 : 0 < n) (hy : y < B64) (hy0 : 0 < y) (H : NatK R h (fun _ => False) (vx * y)) :
    Ent Tryz.prog B 196 #[.slice none 0 0, .slice px n xc, .int .u64 (y : Int), .int .u64 (0 : Int)] R h := by
  obtain ⟨xs, x1, x2, x3, x4, x5⟩ := hx.ex
  have x5 : val B64 xs = vx := x5
  have xne : xs ≠ [] := fun e => by rw [e] at x2; simp at x2; omega
  refine F228_ok _ _ _ _ _ _ _ _ ⟨fun e => by simp at e; omega, fun _ => ?_⟩
  have : decide ((y : Int) = 0) = false := by simp; omega
  rw [this]
  refine ⟨fun e => (by cases e), fun _ => ?_⟩
  refine K194' (n := n + 1) (S := fun _ => False) Dst.none (by rw [i64_in (by omega) (by omega)]; omega) (by omega) (by omega) fun b o c cs h1 fE hO hl hc hlim hb => ⟨_, _, _, rfl, ?_⟩
  have nex := fresh_ne (S := fun _ => False) x1 xne hb
  refine sl_ft (l := 0) (m := n) rfl rfl (by omega) (by omega) ?_
  rw [slP0 pt_some, Nat.sub_zero, Nat.sub_zero]
  refine E247 (K142 (r := 0) hO (by omega) (x1.ext fE) x2 (by omega) x3 (fun b' o' e => .inl (nex b' o' e)) hy (by decide) fun zs c2 h2 W lz dz hc2 hv => ⟨_, rfl, ?_⟩)
  refine W.put hO c2 rfl (by omega) (by omega) (by omega) fun W4 => ?_
  exact natEnd (n := n + 1) fE.to W4 (Dst.inS hb) hO hl (by simp; omega) hc hlim (dz.snoc hc2) (by rw [val_snoc, lz, hv, x5, Nat.add_zero]) H
/-- nat.mul, into new memory, one of the two being of one word or none. -/
theorem K208 {ps px py : Option Addr} {n xc m yc vx vy : Nat} (hx : NatI h px n vx) (hy : NatI h py m vy) (ln : n < 549755813888) (lm : m < 549755813888) (h1 : n ≤ 1 ∨ m ≤ 1) (H : NatK R h (fun _ => False) (vx * vy)) :
    Ent Tryz.prog B 188 #[.slice none 0 0, .pointer ps, .slice px n xc, .slice py m yc] R h := by
  have main : ∀ {R : Ending → Heap → Prop} {px py : Option Addr} {n m xc yc vx vy : Nat}, NatI h px n vx → NatI h py m vy → n < 549755813888 → m ≤ n → m ≤ 1 → NatK R h (fun _ => False) (vx * vy) →
      Ent Tryz.prog B 188 #[.slice none 0 0, .pointer ps, .slice px n xc, .slice py m yc] R h := by
    intro R px py n m xc yc vx vy hx hy ln hle hm1 H
    obtain ⟨xs, x1, x2, x3, x4, x5⟩ := hx.ex
    obtain ⟨ys, y1, y2, y3, y4, y5⟩ := hy.ex
    have x5 : val B64 xs = vx := x5
    have y5 : val B64 ys = vy := y5
    have zero : n = 0 ∨ m = 0 → F208_j10 B R none 0 0 px n xc py m yc (n : Int) (m : Int) true h := by
      intro hz
      refine ⟨fun _ => ?_, fun e => by cases e⟩
      have : vx * vy = 0 := by
        rcases hz with h | h
        · rw [← x5, List.eq_nil_of_length_eq_zero (x2.trans h)]; simp [val]
        · rw [← y5, List.eq_nil_of_length_eq_zero (y2.trans h)]; simp [val]
      rw [this] at H
      exact nat0 Dst.none H
    refine F208_ok _ _ _ _ _ _ _ _ _ _ ⟨fun e => by simp at e; omega, fun _ => ⟨fun e => zero (.inl (by simpa using e)), fun e => ?_⟩⟩
    by_cases hm0 : m = 0
    · have : decide ((m : Int) = 0) = true := by simp [hm0]
      rw [this]; exact zero (.inr hm0)
    · have : decide ((m : Int) = 0) = false := by simp [hm0]
      rw [this]
      have hm : m = 1 := by omega
      subst hm
      refine ⟨fun e => (by cases e), fun _ => ⟨fun _ => ?_, fun e => by simp at e⟩⟩
      have hyv : vy = ys[0]'(by omega) := by
        rw [← y5]
        cases ys with
        | nil => simp at y2
        | cons w t =>
          have : t = [] := by simpa using y2
          subst this; simp [val]
      refine y1.get 0 rfl (by omega) (by omega) (K228 hx ln (by omega) (y3.get (by omega)) ?_ ?_)
      · have hne : ys[0]'(by omega) ≠ 0 := by
          intro e0
          have : ys = [] := y4.eq_nil (b := B64) (by decide) (by rw [y5, hyv, e0])
          rw [this] at y2; simp at y2
        omega
      · rw [hyv] at H
        exact fun q n c h' a b c' d => ⟨_, _, _, rfl, H q n c h' a b c' d⟩
  by_cases hle : m ≤ n
  · exact main hx hy ln hle (by omega) H
  · refine F208_ok _ _ _ _ _ _ _ _ _ _ ⟨fun e => main hy hx lm (by omega) (by omega) ?_, fun e => by simp at e; omega⟩
    rw [Nat.mul_comm] at H
    exact fun q n c h' a b c' d => ⟨_, _, _, rfl, H q n c h' a b c' d⟩
end Go.Proofs
