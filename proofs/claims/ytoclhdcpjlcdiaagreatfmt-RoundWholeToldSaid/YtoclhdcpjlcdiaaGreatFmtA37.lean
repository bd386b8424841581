import Derived.Test.YtoclhdcpjlcdiaaGreatFmtA34
import Derived.Test.YtoclhdcpjlcdiaaGreatFmtA36
/- Here stand lemmas: sums in place. -/
set_option linter.unusedVariables false
set_option linter.unusedVariables false
namespace Go.Eng
open Go
/-- What stands behind what was written stands as it stood. -/
theorem Wrote.rest {k : IntKind} {h0 h : Heap} {b o : Nat} {zs xs : List Nat} (W : Wrote k h0 h b o zs) (hx : Sl k h0 (some ⟨b, o, none⟩) xs) (hl : zs.length ≤ xs.length) : Wrote k h0 h b o (zs ++ xs.drop zs.length) := by
  rcases hx with hx | ⟨b', o', cs', e1, e2, e3⟩
  · subst hx
    have : zs = [] := List.eq_nil_of_length_eq_zero (by simpa using hl)
    subst this; exact W
  · cases e1
    obtain ⟨c0, cs, e, h1, h2, h3, h4, h5⟩ := W.blk
    have : cs' = c0 := e2.inj ⟨e, h1⟩
    subst this
    refine ⟨W.size, W.same, cs', cs, e, h1, h2, h3, fun j hj => h4 j ?_, fun j hj => ?_⟩
    · rw [List.length_append, List.length_drop] at hj; omega
    · rw [List.length_append, List.length_drop] at hj
      by_cases hz : j < zs.length
      · rw [List.getElem_append_left hz]; exact h5 j hz
      · rw [List.getElem_append_right (by omega), List.getElem_drop, h4 (o + j) (by omega), e3 j (by omega)]
        congr 4; omega
end Go.Eng
namespace Go.Proofs
open Go Go.Eng
variable {B : World} {R : Ending → Heap → Prop} {h : Heap}
theorem K203i {bz oz n zc xc y : Nat} {xs : List Nat} {cs : Array Value} (hO : Own h bz cs) (hn : oz + n ≤ cs.size) (hx : Sl .u64 h (some ⟨bz, oz, none⟩) xs) (lx : xs.length = n) (hlim : n < 9223372036854775807)
    (hxc : n ≤ xc) (hzc : n ≤ zc) (dx : Dig B64 xs) (hy : y < B64)
    (H : ∀ (zs : List Nat) (c : Nat) (h' : Heap), Wrote .u64 h h' bz oz zs → zs.length = n → Dig B64 zs → c < B64 → val B64 zs + B64 ^ n * c = val B64 xs + y → R (.returned (.int .u64 (c : Int))) h') :
    Ent Tryz.prog B 126 #[.slice (some ⟨bz, oz, none⟩) n zc, .slice (some ⟨bz, oz, none⟩) n xc, .int .u64 (y : Int)] R h := by
  have hB : B64 = 18446744073709551616 := rfl
  refine F203_ok _ _ _ _ _ _ _ ⟨fun e => by simp at e, fun _ => ⟨fun e => ?_, fun e => ?_⟩⟩
  · have e : n = 0 := by simpa using e
    subst e
    have : xs = [] := List.eq_nil_of_length_eq_zero lx
    subst this
    exact H [] y h (Wrote.nil hO) rfl Dig.nil hy (by simp [val])
  have hn0 : 0 < n := by simp at e; omega
  have hne : xs ≠ [] := fun e => by rw [e] at lx; simp at lx; omega
  have cmp : ∀ {h' : Heap} {K : Bool → Prop}, K true → ixW (some ⟨bz, oz, none⟩) n (0 : Int) 1 fun b20 o21 => ixW (some ⟨bz, oz, none⟩) n (0 : Int) 1 fun b22 o23 => pEq h' (some ⟨b20, o21, none⟩) (some ⟨b22, o23, none⟩) K := by
    intro h' K hK
    refine ⟨bz, oz, rfl, by omega, by omega, bz, oz, rfl, by omega, by omega, .inr (.inr ⟨_, _, _, _, rfl, rfl, .inl ⟨rfl, ?_⟩⟩)⟩
    simpa using hK
  refine hx.get 0 rfl (by omega) (by omega) (K204 (c := 0) (by decide) ⟨_, _, rfl, ?_⟩)
  have d0 : xs[0]'(by omega) < B64 := dx.get (by omega)
  have hxv : val B64 xs = xs[0]'(by omega) + B64 * val B64 (xs.drop 1) := by
    have := val_drop B64 xs (i := 0) (by omega); simpa using this
  refine (Wrote.nil (k := .u64) hO).put hO _ rfl rfl hn0 hn fun W => ?_
  simp only [List.length_nil, Nat.add_zero, List.nil_append] at W
  refine ⟨fun e => ?_, fun e => ?_⟩
  · have hc0 : (xs[0]'(by omega) + y + 0) / B64 = 0 := Int.natCast_eq_zero.1 (of_decide_eq_true e)
    refine cmp ⟨fun e => (by simp at e), fun _ => ?_⟩
    have W2 := W.rest hx (by show 1 ≤ _; omega)
    refine H _ 0 _ W2 (by simp; omega) (Dig.cons (dx.drop 1) (Nat.mod_lt _ (by decide))) (by decide) ?_
    show _ + B64 * val B64 (xs.drop 1) + _ = _
    rw [hxv]
    rw [Nat.mul_zero]
    unfold B64 at *; omega
  · have hc1 : (xs[0]'(by omega) + y) / B64 = 1 := by
      have h1 : (xs[0]'(by omega) + y + 0) / B64 ≠ 0 := fun hh => of_decide_eq_false e (Int.natCast_eq_zero.2 hh)
      unfold B64 at *; omega
    refine ⟨fun m vs h' => match vs with
      | [.slice p1 n1 c1, .slice p2 n2 c2, .int _ i] => some ⟨bz, oz, none⟩ = p1 ∧ n = n1 ∧ zc = c1 ∧ some ⟨bz, oz, none⟩ = p2 ∧ n = n2 ∧ xc = c2 ∧ ∃ zs : List Nat, Wrote .u64 h h' bz oz zs ∧ i = (zs.length : Int) ∧ m = n - zs.length ∧ 0 < zs.length ∧ zs.length ≤ n ∧ Dig B64 zs ∧ val B64 zs + B64 ^ zs.length = val B64 (xs.take zs.length) + y
      | _ => False, n - 1, ⟨rfl, rfl, rfl, rfl, rfl, rfl, _, W, rfl, rfl, by simp, by simp; omega, Dig.cons Dig.nil (Nat.mod_lt _ (by decide)), ?_⟩, ?_⟩
    · have : xs.take 1 = [xs[0]'(by omega)] := by
        cases xs with
        | nil => exact absurd rfl hne
        | cons x xs => rfl
      simp only [List.length_singleton, this, val, Nat.pow_one, Nat.mul_zero, Nat.add_zero]
      unfold B64 at *; omega
    rintro m h' _ _ _ _ _ _ _ ⟨rfl, rfl, rfl, rfl, rfl, rfl, zs, W, rfl, rfl, hz0, hzn, dz, hv⟩ _
    refine ⟨fun e => ?_, fun e => ?_⟩
    · have hlt : zs.length < n := by simp at e; omega
      have dl : xs[zs.length]'(by omega) < B64 := dx.get (by omega)
      refine hx.getW W zs.length rfl (by omega) (by omega) (fun b o hb => by cases hb; exact .inr (.inr (Nat.le_refl _))) ⟨fun e => ?_, fun e => ?_⟩
      · have hw : xs[zs.length]'(by omega) ≠ 18446744073709551615 := by simp at e; omega
        refine W.put hO (xs[zs.length]'(by omega) + 1) (by have := wadd (a := xs[zs.length]'(by omega)) (b := 1) (by omega); exact this) rfl hlt hn fun W' => ?_
        have ei : IntKind.i64.wrap ((zs.length : Int) + 1) = ((zs.length + 1 : Nat) : Int) := by rw [i64_in (by omega) (by omega)]; simp
        refine cmp ⟨fun e => (by simp at e), fun _ => ?_⟩
        have W2 := W'.rest hx (by simp; omega)
        refine H _ 0 _ W2 (by simp; omega) ((dz.snoc (by omega)).append (dx.drop _)) (by decide) ?_
        rw [val_append, val_snoc, List.length_append, List.length_singleton, val_split B64 xs (i := zs.length + 1) (by omega), val_take_succ _ _ (by omega), Nat.mul_add]
        omega
      · have hw : xs[zs.length]'(by omega) = 18446744073709551615 := by simp at e; omega
        refine W.put hO 0 rfl rfl hlt hn fun W' => ?_
        refine ⟨n - (zs.length + 1), by omega, rfl, rfl, rfl, rfl, rfl, rfl, _, W', by rw [i64_in (by omega) (by omega)]; simp, by simp, by simp, by simp; omega, dz.snoc (by decide), ?_⟩
        rw [List.length_append, List.length_singleton, val_snoc, val_take_succ _ _ (by omega), hw, Nat.pow_succ]
        have : B64 ^ zs.length * 18446744073709551615 + B64 ^ zs.length = B64 ^ zs.length * B64 := by
          unfold B64; omega
        omega
    · have : zs.length = n := by simp at e; omega
      exact H zs 1 h' W this dz (by decide) (by rw [this] at hv; rw [Nat.mul_one, hv, List.take_of_length_le (by omega)])
theorem K196i {bz oz n zc xc y : Nat} {xs : List Nat} {cs : Array Value} (hO : Own h bz cs) (hn : oz + n ≤ cs.size) (hx : Sl .u64 h (some ⟨bz, oz, none⟩) xs) (lx : xs.length = n) (hlim : n < 9223372036854775807)
    (hxc : n ≤ xc) (hzc : n ≤ zc) (dx : Dig B64 xs) (hy : y < B64)
    (H : ∀ (zs : List Nat) (c : Nat) (h' : Heap), Wrote .u64 h h' bz oz zs → zs.length = n → Dig B64 zs → c < B64 → val B64 xs + B64 ^ n * c = val B64 zs + y → R (.returned (.int .u64 (c : Int))) h') :
    Ent Tryz.prog B 129 #[.slice (some ⟨bz, oz, none⟩) n zc, .slice (some ⟨bz, oz, none⟩) n xc, .int .u64 (y : Int)] R h := by
  have hB : B64 = 18446744073709551616 := rfl
  refine F196_ok _ _ _ _ _ _ _ ⟨fun e => by simp at e, fun _ => ⟨fun e => ?_, fun e => ?_⟩⟩
  · have e : n = 0 := by simpa using e
    subst e
    have : xs = [] := List.eq_nil_of_length_eq_zero lx
    subst this
    exact H [] y h (Wrote.nil hO) rfl Dig.nil hy (by simp [val])
  have hn0 : 0 < n := by simp at e; omega
  have hne : xs ≠ [] := fun e => by rw [e] at lx; simp at lx; omega
  have cmp : ∀ {h' : Heap} {K : Bool → Prop}, K true → ixW (some ⟨bz, oz, none⟩) n (0 : Int) 1 fun b20 o21 => ixW (some ⟨bz, oz, none⟩) n (0 : Int) 1 fun b22 o23 => pEq h' (some ⟨b20, o21, none⟩) (some ⟨b22, o23, none⟩) K := by
    intro h' K hK
    refine ⟨bz, oz, rfl, by omega, by omega, bz, oz, rfl, by omega, by omega, .inr (.inr ⟨_, _, _, _, rfl, rfl, .inl ⟨rfl, ?_⟩⟩)⟩
    simpa using hK
  have d0 : xs[0]'(by omega) < B64 := dx.get (by omega)
  refine hx.get 0 rfl (by omega) (by omega) (K198' (c := 0) d0 hy (by decide) fun z0 b0 hz0 hb0 hzb => ⟨_, _, rfl, ?_⟩)
  have hxv : val B64 xs = xs[0]'(by omega) + B64 * val B64 (xs.drop 1) := by
    have := val_drop B64 xs (i := 0) (by omega); simpa using this
  refine (Wrote.nil (k := .u64) hO).put hO _ rfl rfl hn0 hn fun W => ?_
  simp only [List.length_nil, Nat.add_zero, List.nil_append] at W
  refine ⟨fun e => ?_, fun e => ?_⟩
  · have hc0 : b0 = 0 := Int.natCast_eq_zero.1 (of_decide_eq_true e)
    refine cmp ⟨fun e => (by simp at e), fun _ => ?_⟩
    have W2 := W.rest hx (by show 1 ≤ _; omega)
    refine H _ 0 _ W2 (by simp; omega) (Dig.cons (dx.drop 1) hz0) (by decide) ?_
    have hv : val B64 (z0 :: xs.drop 1) = z0 + B64 * val B64 (xs.drop 1) := rfl
    show val B64 xs + _ = val B64 (z0 :: xs.drop 1) + y
    rw [hv, hxv, Nat.mul_zero]
    rw [hc0] at hzb
    omega
  · have hc1 : b0 ≠ 0 := fun hh => of_decide_eq_false e (Int.natCast_eq_zero.2 hh)
    refine ⟨fun m vs h' => match vs with
      | [.slice p1 n1 c1, .slice p2 n2 c2, .int _ i] => some ⟨bz, oz, none⟩ = p1 ∧ n = n1 ∧ zc = c1 ∧ some ⟨bz, oz, none⟩ = p2 ∧ n = n2 ∧ xc = c2 ∧ ∃ zs : List Nat, Wrote .u64 h h' bz oz zs ∧ i = (zs.length : Int) ∧ m = n - zs.length ∧ 0 < zs.length ∧ zs.length ≤ n ∧ Dig B64 zs ∧ val B64 (xs.take zs.length) + B64 ^ zs.length = val B64 zs + y
      | _ => False, n - 1, ⟨rfl, rfl, rfl, rfl, rfl, rfl, _, W, rfl, rfl, by simp, by simp; omega, Dig.cons Dig.nil hz0, ?_⟩, ?_⟩
    · have : xs.take 1 = [xs[0]'(by omega)] := by
        cases xs with
        | nil => exact absurd rfl hne
        | cons x xs => rfl
      simp only [List.length_singleton, this, val, Nat.pow_one, Nat.mul_zero, Nat.add_zero]
      have : b0 = 1 := by omega
      rw [this] at hzb
      omega
    rintro m h' _ _ _ _ _ _ _ ⟨rfl, rfl, rfl, rfl, rfl, rfl, zs, W, rfl, rfl, hz0, hzn, dz, hv⟩ _
    refine ⟨fun e => ?_, fun e => ?_⟩
    · have hlt : zs.length < n := by simp at e; omega
      have dl : xs[zs.length]'(by omega) < B64 := dx.get (by omega)
      refine hx.getW W zs.length rfl (by omega) (by omega) (fun b o hb => by cases hb; exact .inr (.inr (Nat.le_refl _))) ⟨fun e => ?_, fun e => ?_⟩
      · have hw : xs[zs.length]'(by omega) ≠ 0 := by simp at e; omega
        refine W.put hO (xs[zs.length]'(by omega) - 1) (by rw [show ((xs[zs.length]'(by omega) : Nat) : Int) - 1 = ((xs[zs.length]'(by omega) - 1 : Nat) : Int) by omega, wrap_u64_nat, Nat.mod_eq_of_lt (by omega)]) rfl hlt hn fun W' => ?_
        have ei : IntKind.i64.wrap ((zs.length : Int) + 1) = ((zs.length + 1 : Nat) : Int) := by rw [i64_in (by omega) (by omega)]; simp
        refine cmp ⟨fun e => (by simp at e), fun _ => ?_⟩
        have W2 := W'.rest hx (by simp; omega)
        refine H _ 0 _ W2 (by simp; omega) ((dz.snoc (by omega)).append (dx.drop _)) (by decide) ?_
        rw [val_append, val_snoc, List.length_append, List.length_singleton, val_split B64 xs (i := zs.length + 1) (by omega), val_take_succ _ _ (by omega)]
        have : B64 ^ zs.length * (xs[zs.length]'(by omega) - 1) + B64 ^ zs.length = B64 ^ zs.length * xs[zs.length]'(by omega) := by
          rw [← Nat.mul_succ]; congr 1; omega
        omega
      · have hw : xs[zs.length]'(by omega) = 0 := by simp at e; omega
        refine W.put hO 18446744073709551615 rfl rfl hlt hn fun W' => ?_
        refine ⟨n - (zs.length + 1), by omega, rfl, rfl, rfl, rfl, rfl, rfl, _, W', by rw [i64_in (by omega) (by omega)]; simp, by simp, by simp, by simp; omega, dz.snoc (by omega), ?_⟩
        rw [List.length_append, List.length_singleton, val_snoc, val_take_succ _ _ (by omega), hw, Nat.pow_succ]
        have : B64 ^ zs.length * 18446744073709551615 + B64 ^ zs.length = B64 ^ zs.length * B64 := by
          unfold B64; omega
        omega
    · have : zs.length = n := by simp at e; omega
      exact H zs 1 h' W this dz (by decide) (by rw [this] at hv; rw [List.take_of_length_le (by omega)] at hv; rw [Nat.mul_one, hv])
end Go.Proofs
set_option linter.unusedVariables false
namespace Go.Proofs
open Go Go.Eng
variable {B : World} {R : Ending → Heap → Prop} {h : Heap}
theorem Dst.more {pz : Option Addr} {zc : Nat} {S T : Nat → Prop} (hz : Dst h pz zc S) (hs : ∀ b, S b → T b) : Dst h pz zc T :=
  ⟨hz.pt, hz.lim, by rcases hz.room with e | ⟨b, o, cs, e1, e2, e3, e4⟩; exact .inl e; exact .inr ⟨b, o, cs, e1, e2, e3, hs b e4⟩⟩
/-- Where the tail of what was not yet read stands: behind what was written, or elsewhere. -/
theorem tail_at {h1 h2 : Heap} {px : Option Addr} {b o m xc : Nat} {xs zs : List Nat} (hx : Sl .u64 h1 px xs) (W : Wrote .u64 h1 h2 b o zs) (hz : zs.length = m) (hm : m < xs.length) (hxc : xs.length ≤ xc) (ha : ∀ b' o', px = some ⟨b', o', none⟩ → b' ≠ b ∨ o' = o) :
    ∃ b' o', px = some ⟨b', o', none⟩ ∧ Sl .u64 h2 (some ⟨b', o' + m, none⟩) (xs.drop m) ∧ (b' ≠ b ∨ (b' = b ∧ o' = o)) := by
  have hx0 := hx
  rcases hx with hx | ⟨b', o', cs, e1, e2, e3⟩
  · subst hx; simp at hm
  subst e1
  refine ⟨b', o', rfl, ?_, ?_⟩
  · by_cases hb : b' = b
    · subst hb
      have : o' = o := by have := ha _ _ rfl; omega
      subst this
      have h3 := (W.rest hx0 (by omega)).sl.drop m (m + 1) (fun _ => by omega)
      rw [slP_some (by omega)] at h3
      rw [hz] at h3
      rw [List.drop_append_of_le_length (by omega), List.drop_of_length_le (by omega), List.nil_append] at h3
      exact h3
    · have h3 := (hx0.afterW W (fun b2 o2 e => by cases e; exact hb)).drop m (m + 1) (fun _ => by omega)
      rw [slP_some (by omega)] at h3
      exact h3
  · have := ha _ _ rfl
    by_cases hb : b' = b
    · exact .inr ⟨hb, by omega⟩
    · exact .inl hb
/-- nat.add, into a room that may be either one's. -/
theorem K166m {pz px py : Option Addr} {zn zc n m xc yc vx vy : Nat} {S : Nat → Prop} (hz : Dst h pz zc S) (hx : NatI h px n vx) (hy : NatI h py m vy) (ax : Al S pz px n) (ay : Al S pz py m) (hxc : n ≤ xc) (hyc : m ≤ yc) (ln : n < 1099511627760) (hle : m ≤ n) (H : NatK R h S (vx + vy)) :
    Ent Tryz.prog B 95 #[.slice pz zn zc, .slice px n xc, .slice py m yc] R h := by
  obtain ⟨xs, x1, x2, x3, x4, x5⟩ := hx.ex
  obtain ⟨ys, y1, y2, y3, y4, y5⟩ := hy.ex
  have x5 : val B64 xs = vx := x5
  have y5 : val B64 ys = vy := y5
  refine F166_ok _ _ _ _ _ _ _ _ _ ⟨fun e => by simp at e; omega, fun _ => ⟨fun e => ?_, fun e => ⟨fun e2 => ?_, fun e2 => ?_⟩⟩⟩
  · have e : n = 0 := by simpa using e
    refine sl_to (m := 0) rfl (by omega) ?_
    have z1 : xs = [] := List.eq_nil_of_length_eq_zero (by omega)
    have z2 : ys = [] := List.eq_nil_of_length_eq_zero (by omega)
    have hv : vx + vy = 0 := by rw [← x5, ← y5, z1, z2]; rfl
    rw [hv] at H
    rw [slP0 hz.pt]
    exact H _ _ _ _ Fr.rfl' (Nat.zero_le _) ⟨hz.pt, by decide, [], Sl.nil, rfl, Dig.nil, by simp [Trim], rfl⟩ (Dst.more hz fun b hb => .inl hb)
  · have e2 : m = 0 := by simpa using e2
    have z2 : ys = [] := List.eq_nil_of_length_eq_zero (by omega)
    have hv : vx + vy = vx := by rw [← y5, z2]; rfl
    rw [hv] at H
    exact K182 hz hx (by omega) fun q c' h' f1 f2 f3 f4 => ⟨_, _, _, rfl, H _ _ _ _ f1 f2 f3 f4⟩
  have hn0 : 0 < n := by simp at e; omega
  have hm0 : 0 < m := by simp at e2; omega
  have xne : xs ≠ [] := fun e => by rw [e] at x2; simp at x2; omega
  have yne : ys ≠ [] := fun e => by rw [e] at y2; simp at y2; omega
  refine K194' (n := n + 1) (S := S) hz (by rw [i64_in (by omega) (by omega)]; omega) (by omega) (by omega) fun b o c cs h1 fE hO hl hc hlim hb => ⟨_, _, _, rfl, ?_⟩
  have nex := ax.at x1 xne x2 hb
  have ney := ay.at y1 yne y2 hb
  refine sl_to (m := m) rfl (by omega) (sl_to (m := m) rfl (by omega) (sl_to (m := m) rfl (by omega) ?_))
  simp only [slP0 pt_some, slP0 hx.pt, slP0 hy.pt, Nat.sub_zero]
  have x1' := x1.ext fE
  have y1' := y1.ext fE
  refine E202 (K138 (xs := xs.take m) (ys := ys) rfl hO (by omega) (x1'.take m) y1' (by rw [List.length_take]; omega) y2 (by omega) (x3.take m) y3 (fun b' o' e => by have := nex b' o' e; omega) (fun b' o' e => by have := ney b' o' e; omega) fun zs cc h2 W lz dz hcc hv => ⟨_, rfl, ?_⟩)
  have done : ∀ (zs2 : List Nat) (c2 : Nat) (h3 : Heap), Wrote .u64 h1 h3 b o zs2 → zs2.length = n → Dig B64 zs2 → c2 < B64 → val B64 zs2 + B64 ^ n * c2 = vx + vy → F166_j59 B R (some ⟨b, o, none⟩) (n + 1) c (n : Int) (c2 : Int) h3 := by
    intro zs2 c2 h3 W3 l3 d3 hc2 hv3
    refine W3.put hO c2 rfl (by omega) (by omega) (by omega) fun W4 => ?_
    exact natEnd (n := n + 1) fE.to W4 (Dst.inS hb) hO hl (by simp; omega) hc hlim (d3.snoc hc2) (by rw [val_snoc, l3]; exact hv3) H
  refine ⟨fun e => ?_, fun e => ?_⟩
  · have hlt : m < n := by simp at e; omega
    refine sl_ft (l := m) (m := n) rfl rfl (by omega) (by omega) (sl_from (l := m) rfl (by omega) ?_)
    rw [slP_some (by omega)]
    obtain ⟨cs2, w1, w2, _, _⟩ := W.own hO
    obtain ⟨b', o', hp, hs, hcase⟩ := tail_at x1' W lz (by omega) (show xs.length ≤ n by omega) nex
    subst hp
    rw [slP_some (by omega)]
    have fin : ∀ (zs2 : List Nat) (c2 : Nat) (h3 : Heap), Wrote .u64 h2 h3 b (o + m) zs2 → zs2.length = n - m → Dig B64 zs2 → c2 < B64 → val B64 zs2 + B64 ^ (n - m) * c2 = val B64 (xs.drop m) + cc → F166_j54 B R (some ⟨b, o, none⟩) (n + 1) c (n : Int) (c2 : Int) h3 := fun zs2 c2 h3 W2 l2 d2 hc2 hv2 => by
      refine done (zs ++ zs2) c2 h3 (W.append W2 (by rw [lz])) (by simp; omega) (dz.append d2) hc2 ?_
      rw [val_append, lz, ← x5, ← y5, val_split B64 xs (i := m) (by omega)]
      have e3 : B64 ^ n = B64 ^ m * B64 ^ (n - m) := by rw [← Nat.pow_add]; congr 1; omega
      have e4 : B64 ^ m * val B64 zs2 + B64 ^ n * c2 = B64 ^ m * val B64 (xs.drop m) + B64 ^ m * cc := by
        rw [e3, Nat.mul_assoc, ← Nat.mul_add, hv2, Nat.mul_add]
      omega
    rcases hcase with hne | ⟨rfl, rfl⟩
    · exact K203 (xs := xs.drop m) w1 (by omega) hs pt_some (by rw [List.length_drop]; omega) (by omega) (by omega) (by omega) (x3.drop m) (fun b2 o2 e => by cases e; exact hne) (by unfold B64; omega) fun zs2 c2 h3 W2 l2 d2 hc2 hv2 => ⟨_, rfl, fin zs2 c2 h3 W2 l2 d2 hc2 hv2⟩
    · exact K203i (xs := xs.drop m) w1 (by omega) hs (by rw [List.length_drop]; omega) (by omega) (by omega) (by omega) (x3.drop m) (by unfold B64; omega) fun zs2 c2 h3 W2 l2 d2 hc2 hv2 => ⟨_, rfl, fin zs2 c2 h3 W2 l2 d2 hc2 hv2⟩
  · have hmn : m = n := by simp at e; omega
    subst hmn
    refine done zs cc h2 W lz dz (by unfold B64; omega) ?_
    rw [← x5, ← y5, hv, List.take_of_length_le (by omega)]
theorem K166g {pz px py : Option Addr} {zn zc n m xc yc vx vy : Nat} {S : Nat → Prop} (hz : Dst h pz zc S) (hx : NatI h px n vx) (hy : NatI h py m vy) (ax : Al S pz px n) (ay : Al S pz py m) (hxc : n ≤ xc) (hyc : m ≤ yc) (ln : n < 1099511627760) (lm : m < 1099511627760) (H : NatK R h S (vx + vy)) :
    Ent Tryz.prog B 95 #[.slice pz zn zc, .slice px n xc, .slice py m yc] R h := by
  by_cases hle : m ≤ n
  · exact K166m hz hx hy ax ay hxc hyc ln hle H
  · refine F166_ok _ _ _ _ _ _ _ _ _ ⟨fun e => ?_, fun e => by simp at e; omega⟩
    refine K166m hz hy hx ay ax hyc hxc lm (by omega) ?_
    rw [Nat.add_comm] at H
    exact fun q n c h' a b c d => ⟨_, _, _, rfl, H q n _ h' a b c d⟩
/-- nat.sub, into a room that may be either one's. -/
theorem K164g {pz px py : Option Addr} {zn zc n m xc yc vx vy : Nat} {S : Nat → Prop} (hz : Dst h pz zc S) (hx : NatI h px n vx) (hy : NatI h py m vy) (ax : Al S pz px n) (ay : Al S pz py m) (hxc : n ≤ xc) (hyc : m ≤ yc) (ln : n < 1099511627760) (hle : vy ≤ vx) (H : NatK R h S (vx - vy)) :
    Ent Tryz.prog B 97 #[.slice pz zn zc, .slice px n xc, .slice py m yc] R h := by
  obtain ⟨xs, x1, x2, x3, x4, x5⟩ := hx.ex
  obtain ⟨ys, y1, y2, y3, y4, y5⟩ := hy.ex
  have x5 : val B64 xs = vx := x5
  have y5 : val B64 ys = vy := y5
  have hmn : m ≤ n := by
    have := len_le (b := B64) (by decide) x3 y4 (by rw [x5, y5]; exact hle)
    omega
  refine F164_ok _ _ _ _ _ _ _ _ _ ⟨fun e => by simp at e; omega, fun _ => ⟨fun e => ?_, fun e => ⟨fun e2 => ?_, fun e2 => ?_⟩⟩⟩
  · have e : n = 0 := by simpa using e
    refine sl_to (m := 0) rfl (by omega) ?_
    have z1 : xs = [] := List.eq_nil_of_length_eq_zero (by omega)
    have hv : vx - vy = 0 := by rw [← x5, z1]; simp [val]
    rw [hv] at H
    rw [slP0 hz.pt]
    exact H _ _ _ _ Fr.rfl' (Nat.zero_le _) ⟨hz.pt, by decide, [], Sl.nil, rfl, Dig.nil, by simp [Trim], rfl⟩ (Dst.more hz fun b hb => .inl hb)
  · have e2 : m = 0 := by simpa using e2
    have z2 : ys = [] := List.eq_nil_of_length_eq_zero (by omega)
    have hv : vx - vy = vx := by rw [← y5, z2]; rfl
    rw [hv] at H
    exact K182 hz hx (by omega) fun q c' h' f1 f2 f3 f4 => ⟨_, _, _, rfl, H _ _ _ _ f1 f2 f3 f4⟩
  have hn0 : 0 < n := by simp at e; omega
  have hm0 : 0 < m := by simp at e2; omega
  have xne : xs ≠ [] := fun e => by rw [e] at x2; simp at x2; omega
  have yne : ys ≠ [] := fun e => by rw [e] at y2; simp at y2; omega
  refine K194' (n := n) (S := S) hz rfl (by omega) (by omega) fun b o c cs h1 fE hO hl hc hlim hb => ⟨_, _, _, rfl, ?_⟩
  have nex := ax.at x1 xne x2 hb
  have ney := ay.at y1 yne y2 hb
  refine sl_to (m := m) rfl (by omega) (sl_to (m := m) rfl (by omega) (sl_to (m := m) rfl (by omega) ?_))
  simp only [slP0 pt_some, slP0 hx.pt, slP0 hy.pt, Nat.sub_zero]
  have x1' := x1.ext fE
  have y1' := y1.ext fE
  refine E195 (K139 (xs := xs.take m) (ys := ys) rfl hO (by omega) (x1'.take m) y1' (by rw [List.length_take]; omega) y2 (by omega) (x3.take m) y3 (fun b' o' e => by have := nex b' o' e; omega) (fun b' o' e => by have := ney b' o' e; omega) fun zs cc h2 W lz dz hcc hv => ⟨_, rfl, ?_⟩)
  have done : ∀ (zs2 : List Nat) (c2 : Nat) (h3 : Heap), Wrote .u64 h1 h3 b o zs2 → zs2.length = n → Dig B64 zs2 → vx + B64 ^ n * c2 = val B64 zs2 + vy → F164_j53 B R (some ⟨b, o, none⟩) n c (c2 : Int) h3 := by
    intro zs2 c2 h3 W3 l3 d3 hv3
    have hz : val B64 zs2 < B64 ^ n := by rw [← l3]; exact val_lt d3
    have hc2 : c2 = 0 := by
      rcases Nat.eq_zero_or_pos c2 with h | h
      · exact h
      · exfalso
        have : B64 ^ n * 1 ≤ B64 ^ n * c2 := Nat.mul_le_mul_left _ h
        omega
    subst hc2
    refine ⟨fun e => by simp at e, fun _ => ?_⟩
    exact natEnd fE.to W3 (Dst.inS hb) hO hl l3 hc hlim d3 (by omega) H
  refine ⟨fun e => ?_, fun e => ?_⟩
  · have hlt : m < n := by simp at e; omega
    refine sl_from (l := m) rfl (by omega) (sl_from (l := m) rfl (by omega) ?_)
    rw [slP_some (by omega)]
    obtain ⟨cs2, w1, w2, _, _⟩ := W.own hO
    obtain ⟨b', o', hp, hs, hcase⟩ := tail_at x1' W lz (by omega) (show xs.length ≤ n by omega) nex
    subst hp
    rw [slP_some (by omega)]
    have fin : ∀ (zs2 : List Nat) (c2 : Nat) (h3 : Heap), Wrote .u64 h2 h3 b (o + m) zs2 → zs2.length = n - m → Dig B64 zs2 → val B64 (xs.drop m) + B64 ^ (n - m) * c2 = val B64 zs2 + cc → F164_j53 B R (some ⟨b, o, none⟩) n c (c2 : Int) h3 := fun zs2 c2 h3 W2 l2 d2 hv2 => by
      refine done (zs ++ zs2) c2 h3 (W.append W2 (by rw [lz])) (by simp; omega) (dz.append d2) ?_
      rw [val_append, lz, ← x5, ← y5, val_split B64 xs (i := m) (by omega)]
      have e3 : B64 ^ n = B64 ^ m * B64 ^ (n - m) := by rw [← Nat.pow_add]; congr 1; omega
      have e4 : B64 ^ m * val B64 (xs.drop m) + B64 ^ n * c2 = B64 ^ m * val B64 zs2 + B64 ^ m * cc := by
        rw [e3, Nat.mul_assoc, ← Nat.mul_add, hv2, Nat.mul_add]
      omega
    rcases hcase with hne | ⟨rfl, rfl⟩
    · exact K196 (xs := xs.drop m) w1 (by omega) hs pt_some (by rw [List.length_drop]; omega) (by omega) (by omega) (by omega) (x3.drop m) (fun b2 o2 e => by cases e; exact hne) (by unfold B64; omega) fun zs2 c2 h3 W2 l2 d2 hc2 hv2 => ⟨_, rfl, fin zs2 c2 h3 W2 l2 d2 hv2⟩
    · exact K196i (xs := xs.drop m) w1 (by omega) hs (by rw [List.length_drop]; omega) (by omega) (by omega) (by omega) (x3.drop m) (by unfold B64; omega) fun zs2 c2 h3 W2 l2 d2 hc2 hv2 => ⟨_, rfl, fin zs2 c2 h3 W2 l2 d2 hv2⟩
  · have hmn : m = n := by simp at e; omega
    subst hmn
    refine done zs cc h2 W lz dz ?_
    rw [List.take_of_length_le (by omega)] at hv
    rw [← x5, ← y5]; exact hv
/-- Add into the first one. -/
theorem K127i {r q ry qy : Nat} {v w : Int} (hx : IntAt h r q v) (hy : IntAt h ry qy w) (hq : q ≠ qy) (hb : bl v.natAbs ≤ 1000000) (hb2 : bl w.natAbs ≤ 1000000) (H : IntK R h r (Rm r q) (v + w)) :
    Ent Tryz.prog B 67 #[.pointer (some ⟨r, 0, none⟩), .pointer (some ⟨r, 0, none⟩), .pointer (some ⟨ry, 0, none⟩)] R h := by
  obtain ⟨p, n, c, h1, h2, h3, h4⟩ := hx.ex
  obtain ⟨py, m, cy, y1, y2, y3, y4⟩ := hy.ex
  have hl := h2.len hb
  have hl2 := y2.len hb2
  have hal : Al (Rm r q) p py m := .inr fun b o e hm hb => by
    rcases y4.room with e0 | ⟨b', o', cs, e1, e2, e3, e4⟩
    · omega
    · rw [e1] at e; cases e; exact hq (hb.1.symm.trans e4.1)
  have hself : Al (Rm r q) p p n := .inl rfl
  have fin : ∀ (bb : Bool) {h1' h2' : Heap} {p' : Option Addr} {n' c' : Nat} {b0 : Bool}, Fr (Rm r q) h h1' → Fr (fun x => x = r) h1' h2' → Own h2' r #[.bool b0, .slice p' n' c'] → n' ≤ c' → NatI h1' p' n' (v + w).natAbs → Dst h1' p' c' (fun b => Rm r q b ∨ h.size ≤ b) →
      (v + w ≠ 0 → bb = decide (v + w < 0)) → F127_j69 B R (some ⟨r, 0, none⟩) bb h2' := by
    intro bb h1' h2' p' n' c' b0 f1 fr2 o2 hn hN hD hbb
    have z := hN.zero
    refine ldS o2 ⟨fun e => stB o2 fun h3' o3 fr3 => ?_, fun e => stB o2 fun h3' o3 fr3 => ?_⟩
    · refine intEnd f1 (Fr.trans fr2 fr3 fun _ _ e => e) h1.lt rm_ne hn hN hD o3 (hbb ?_) H
      simp at e; omega
    · have : v + w = 0 := by simp at e; omega
      exact intEnd f1 (Fr.trans fr2 fr3 fun _ _ e => e) h1.lt rm_ne hn hN hD o3 (by rw [this]; rfl) H
  refine F127_ok _ _ _ (ldB h1 (ldB h1 (ldB y1 ?_)))
  by_cases hs : decide (v < 0) = decide (w < 0)
  · have : (decide (v < 0) == decide (w < 0)) = true := by rw [hs]; simp
    rw [this]
    refine ⟨fun _ => ldS h1 (ldS h1 (ldS y1 (K166g h4 h2 y2 hself hal h3 y3 (by omega) (by omega) fun p' n' c' h' f1 f2 f3 f4 => ⟨_, _, _, rfl, stS (h1.fr f1 rm_ne) fun h2' o2 fr2 => ?_⟩))), fun e => (by cases e)⟩
    have hva : (v + w).natAbs = v.natAbs + w.natAbs := by
      by_cases a : v < 0 <;> by_cases b : w < 0 <;> simp [a, b] at hs <;> omega
    refine fin _ f1 fr2 o2 f2 (by rw [hva]; exact f3) f4 fun h0 => ?_
    by_cases a : v < 0 <;> by_cases b : w < 0 <;> simp [a, b] at hs ⊢ <;> omega
  · have : (decide (v < 0) == decide (w < 0)) = false := by simp [hs]
    rw [this]
    refine ⟨fun e => (by cases e), fun _ => ldS h1 (ldS y1 (K172 h2 y2 ⟨_, rfl, ?_⟩))⟩
    by_cases hc : w.natAbs ≤ v.natAbs
    · have e1 : decide ((0 : Int) ≤ cmpN v.natAbs w.natAbs) = true := by
        unfold cmpN; rw [if_neg (by omega)]; split <;> rfl
      rw [e1]
      refine ⟨fun _ => ldS h1 (ldS h1 (ldS y1 (K164g h4 h2 y2 hself hal h3 y3 (by omega) hc fun p' n' c' h' f1 f2 f3 f4 => ⟨_, _, _, rfl, stS (h1.fr f1 rm_ne) fun h2' o2 fr2 => ?_⟩))), fun e => (by cases e)⟩
      have hva : (v + w).natAbs = v.natAbs - w.natAbs := by
        by_cases a : v < 0 <;> by_cases b : w < 0 <;> simp [a, b] at hs <;> omega
      refine fin _ f1 fr2 o2 f2 (by rw [hva]; exact f3) f4 fun h0 => ?_
      by_cases a : v < 0 <;> by_cases b : w < 0 <;> simp [a, b] at hs ⊢ <;> omega
    · have e1 : decide ((0 : Int) ≤ cmpN v.natAbs w.natAbs) = false := by
        unfold cmpN; rw [if_pos (by omega)]; rfl
      rw [e1]
      refine ⟨fun e => (by cases e), fun _ => ldS h1 (ldS y1 (ldS h1 (K164g h4 y2 h2 hal hself y3 h3 (by omega) (by omega) fun p' n' c' h' f1 f2 f3 f4 => ⟨_, _, _, rfl, stS (h1.fr f1 rm_ne) fun h2' o2 fr2 => ?_⟩)))⟩
      have hva : (v + w).natAbs = w.natAbs - v.natAbs := by
        by_cases a : v < 0 <;> by_cases b : w < 0 <;> simp [a, b] at hs <;> omega
      refine fin _ f1 fr2 o2 f2 (by rw [hva]; exact f3) f4 fun h0 => ?_
      by_cases a : v < 0 <;> by_cases b : w < 0 <;> simp [a, b] at hs ⊢ <;> omega
end Go.Proofs
set_option linter.unusedVariables false
namespace Go.Proofs
open Go Go.Eng
variable {B : World} {R : Ending → Heap → Prop} {h : Heap}
theorem bl_sc {m : Int} {L k : Nat} (hb : bl m.natAbs ≤ L) : bl (m * 2 ^ k).natAbs ≤ L + k := by
  have e : (m * 2 ^ k).natAbs = m.natAbs * 2 ^ k := by rw [Int.natAbs_mul, Int.natAbs_pow, show (2 : Int).natAbs = 2 from rfl]
  rw [e]
  by_cases h0 : m.natAbs = 0
  · rw [h0, Nat.zero_mul]; have : bl 0 = 0 := rfl; omega
  · rw [bl_scale _ h0]; omega
/-- What round.value tells of a float. -/
structure FVal (b m e : Int) : Prop where
  val : fV b = m * 2 ^ (e + 1074).toNat
  lo : -1074 ≤ e
  hi : e ≤ 1100
  bl : Eng.bl m.natAbs ≤ 2100
theorem fval_of {b m e : Int} (hf : isFin b = true) (h1 : -1074 ≤ e) (hv : fV b = m * 2 ^ (e + 1074).toNat) (h0 : m = 0 → e = 0) : FVal b m e := by
  have hb := fV_bl hf
  by_cases hm : m = 0
  · have := h0 hm
    subst hm this
    exact ⟨hv, by omega, by omega, by decide⟩
  · have e1 : (fV b).natAbs = m.natAbs * 2 ^ (e + 1074).toNat := by rw [hv, Int.natAbs_mul, Int.natAbs_pow, show (2 : Int).natAbs = 2 from rfl]
    rw [e1, bl_scale _ (by omega)] at hb
    exact ⟨hv, h1, by omega, by omega⟩
/-- round.plus. -/
theorem K1070 {r1 q1 r2 q2 : Nat} {m1 m2 e1 e2 : Int} (X : IntAt h r1 q1 m1) (Y : IntAt h r2 q2 m2) (b1 : bl m1.natAbs ≤ 5000) (b2 : bl m2.natAbs ≤ 5000) (h1 : -3000 ≤ e1) (h2 : e1 ≤ 3000) (h3 : -3000 ≤ e2) (h4 : e2 ≤ 3000)
    (H : ∀ r q m e h', Ext h h' → h.size ≤ r → h.size ≤ q → IntAt h' r q m → e = min e1 e2 → m = m1 * 2 ^ (e1 - e).toNat + m2 * 2 ^ (e2 - e).toNat → bl m.natAbs ≤ 12000 → R (.returned (.agg #[.pointer (some ⟨r, 0, none⟩), .int .i64 e, .bool false])) h') :
    Ent Tryz.prog B 43 #[.agg #[.pointer (some ⟨r1, 0, none⟩), .int .i64 e1, .bool false], .agg #[.pointer (some ⟨r2, 0, none⟩), .int .i64 e2, .bool false]] R h := by
  refine F1070_ok _ _ _ _ _ _ (alK fun a g1 ea fa oa za => alK fun b g2 eb fb ob zb => alK fun c g3 ec fc oc zc => ?_)
  have Oa := (oa.ext fb).ext fc
  have Ob := ob.ext fc
  have F3 := Ext.trans (Ext.trans fa fb) fc
  refine ⟨a, 0, rfl, a, 0 + 1, rfl, _, Oa.cell _, b, 0, rfl, b, 0 + 1, rfl, _, Ob.cell _, alK fun d g4 ed fd od zd => ?_⟩
  obtain ⟨e, he⟩ : ∃ e, (if e2 < e1 then e2 else e1) = e := ⟨_, rfl⟩
  have he1 : e ≤ e1 ∧ e ≤ e2 ∧ -3000 ≤ e ∧ e = min e1 e2 := by rw [← he]; split <;> omega
  rw [he]
  have w1 : IntKind.u64.wrap (IntKind.i64.wrap (e1 - e)) = ((e1 - e).toNat : Int) := by rw [i64_in (by omega) (by omega), wrap_u64_in (by omega) (by omega)]; omega
  have w2 : IntKind.u64.wrap (IntKind.i64.wrap (e2 - e)) = ((e2 - e).toNat : Int) := by rw [i64_in (by omega) (by omega), wrap_u64_in (by omega) (by omega)]; omega
  have X4 := (X.ext F3).ext fd
  have Y4 := (Y.ext F3).ext fd
  have lx := X.lt
  have ly := Y.lt
  have lyq := Y.lq
  refine ⟨a, 0, rfl, a, 0, rfl, _, (Oa.ext fd).cell _, a, 0, rfl, a, 0 + 1, rfl, _, (Oa.ext fd).cell _, ?_⟩
  rw [w1]
  refine K128f od X4 (by have := F3.size; omega) (by omega) (by omega) fun q5 g5 f5 d5 I5 => ⟨_, rfl, ?_⟩
  have n5 : ∀ x, x ≠ d → ¬ (x = d ∨ False) := fun x a b => b.elim a id
  have s3 := F3.size
  have Y5 := Y4.fr f5 (n5 _ (by omega)) (n5 _ (by omega))
  have Ob5 := (Ob.ext fd).fr f5 (n5 _ (by omega))
  have oc5 := (oc.ext fd).fr f5 (n5 _ (by omega))
  refine alK fun k g6 ek fk ok zk => ⟨b, 0, rfl, b, 0, rfl, _, (Ob5.ext fk).cell _, b, 0, rfl, b, 0 + 1, rfl, _, (Ob5.ext fk).cell _, ?_⟩
  rw [w2]
  have s5 := f5.size
  refine K128f ok (Y5.ext fk) (by omega) (by omega) (by omega) fun q7 g7 f7 d7 I7 => ⟨_, rfl, ?_⟩
  have n7 : ∀ x, x ≠ k → ¬ (x = k ∨ False) := fun x a b => b.elim a id
  have l5 := I5.lq
  have hq5 : q5 = d ∨ g4.size ≤ q5 := by rcases d5 with e | e | e; exact .inl e; exact e.elim; exact .inr e
  have hq7 : q7 = k ∨ g6.size ≤ q7 := by rcases d7 with e | e | e; exact .inl e; exact e.elim; exact .inr e
  have I5' := (I5.ext fk).fr f7 (n7 _ (by omega)) (n7 _ (by omega))
  have bb1 : bl (m1 * 2 ^ (e1 - e).toNat).natAbs ≤ 11000 := by have := bl_sc (k := (e1 - e).toNat) b1; omega
  have bb2 : bl (m2 * 2 ^ (e2 - e).toNat).natAbs ≤ 11000 := by have := bl_sc (k := (e2 - e).toNat) b2; omega
  refine K127i I5' I7 (by omega) (by omega) (by omega) fun q8 g8 f8 d8 I8 => ⟨_, rfl, ?_⟩
  have s7 := f7.size
  have sk := fk.size
  have n8 : ∀ x, x < g3.size → ¬ (x = d ∨ Rm d q5 x) := fun x hx e => by
    rcases e with e | e
    · omega
    · have := e.1; omega
  have oc8 := (oc5.ext fk).fr f7 (n7 _ (by omega)) |>.fr f8 (n8 _ (by omega))
  refine ⟨c, 0, rfl, oc8.stC (by simp) rfl fun og fg => og.stC (by simp) rfl fun oh fh => oh.stC (by simp) rfl fun oi fi => ⟨c, 0, rfl, _, oi.cell _, _, oi.cell _, _, oi.cell _, ?_⟩⟩
  have fgi := Fr.trans (S := fun x => x = c) (Fr.trans (S := fun x => x = c) fg fh fun _ _ e => e) fi fun _ _ e => e
  have E : Ext h _ := Fr.trans (Fr.trans (Fr.trans (Ext.trans (Fr.trans (Ext.trans F3 fd) f5 fun x hx e => n5 x (by omega) e) fk) f7 fun x hx e => n7 x (by omega) e) f8 fun x hx e => n8 x (by omega) e) fgi fun x hx e => by omega
  have hq8 : q8 ≠ c := by
    rcases d8 with e | e | e
    · omega
    · have := e.1; omega
    · omega
  have hq9 : h.size ≤ q8 := by
    rcases d8 with e | e | e
    · omega
    · have := e.1; omega
    · omega
  exact H d q8 _ e _ E (by omega) hq9 (I8.fr fgi (by omega) hq8) he1.2.2.2 rfl (by have := bl_add bb1 bb2; omega)
end Go.Proofs
