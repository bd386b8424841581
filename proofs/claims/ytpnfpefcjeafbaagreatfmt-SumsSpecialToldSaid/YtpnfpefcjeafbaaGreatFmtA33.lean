import Derived.Test.YtpnfpefcjeafbaaGreatFmtA32
import Derived.Test.YtpnfpefcjeafbaaGreatFmtA28
import Derived.Test.YtpnfpefcjeafbaaGreatFmtA09
import Derived.Tactics
import Derived.Recover
import Derived.WalkKit
import Derived.Test.YtpnfpefcjeafbaaGreatFmtA12
/- Here stand lemmas and contracts, in the order in which they are used. -/
set_option linter.unusedVariables false
set_option linter.unusedVariables false
namespace Go.Eng
open Go
theorem rn_exa (m d : Nat) : rn (m * 2 ^ d) d = m := by
  have := rn_scale m 0 d
  rw [Nat.zero_add, rn_zero] at this
  exact this
/-- A float's own rung. -/
theorem rung_mag {k : Nat} (hk : k ≤ 9218868437227405312) : rung (magK k) (-1074) = k := by
  by_cases h0 : k / 4503599627370496 = 0
  · have hm : magK k = k := by unfold magK; rw [if_pos h0]; omega
    rw [hm]
    by_cases hz : k = 0
    · subst hz; exact rung_zero
    have hl : k.log2 ≤ 51 := by
      have := (Nat.log2_lt (k := 52) hz).2 (by have e : (2 : Nat) ^ 52 = 4503599627370496 := by decide
                                               rw [e]; omega)
      omega
    have hL : lastP k (-1074) = -1074 := by unfold lastP; omega
    unfold rung kpt
    rw [hL]
    show min (0 * 4503599627370496 + rn (k * 2 ^ 0) 0) 9218868437227405312 = k
    rw [Nat.pow_zero, Nat.mul_one, rn_zero]
    omega
  · have hm : magK k = (4503599627370496 + k % 4503599627370496) * 2 ^ (k / 4503599627370496 - 1) := by unfold magK; rw [if_neg h0]
    have hl : (magK k).log2 = 52 + (k / 4503599627370496 - 1) := by
      rw [hm, log2_scale _ (by omega)]
      congr 1
      have e : (2 : Nat) ^ 52 = 4503599627370496 := by decide
      have e3 : (2 : Nat) ^ 53 = 9007199254740992 := by decide
      exact (Nat.log2_eq_iff (by omega)).2 ⟨by rw [e]; omega, by rw [e3]; omega⟩
    have hL : lastP (magK k) (-1074) = -1074 + ((k / 4503599627370496 - 1 : Nat) : Int) := by unfold lastP; rw [hl]; omega
    unfold rung kpt
    rw [hL, show (-1074 + ((k / 4503599627370496 - 1 : Nat) : Int) + 1074).toNat = k / 4503599627370496 - 1 by omega, show (-1074 - (-1074 + ((k / 4503599627370496 - 1 : Nat) : Int))).toNat = 0 by omega, show (-1074 + ((k / 4503599627370496 - 1 : Nat) : Int) - -1074).toNat = k / 4503599627370496 - 1 by omega, Nat.pow_zero, Nat.mul_one, hm, rn_exa]
    omega
/-- bits.Canon: the pattern of what is no NaN. -/
def cnP (a : Int) : Int := addP a 0
theorem cn_rk {a : Int} (ha : I64 a) (hn : isNaN a = false) : rk (cnP a) = rk a ∧ isNaN (cnP a) = false ∧ I64 (cnP a) := by
  obtain ⟨s, k, hk, rfl⟩ := as_pat ha hn
  have hz : isNaN 0 = false ∧ isInf 0 = false ∧ fW 0 = 0 ∧ decide ((0 : Int) < 0) = false := ⟨by decide, by decide, by decide, by decide⟩
  unfold cnP addP plusP
  rw [hn, hz.1, hz.2.1, hz.2.2.1, hz.2.2.2]
  by_cases h : k = 9218868437227405312
  · subst h
    have hi : isInf (pat s 9218868437227405312) = true := by cases s <;> decide +kernel
    rw [hi, pat_neg s (by omega)]
    simp only [Bool.or_self, Bool.and_false, Bool.false_and, Bool.false_eq_true, if_false, if_true]
    exact ⟨trivial, hn, ha⟩
  · have hf : isFin (pat s k) = true := pat_fin (by omega)
    have hi : isInf (pat s k) = false := (fin_not hf).2
    have hw : fW (pat s k) = if s then -(magK k : Int) else (magK k : Int) := by unfold fW; rw [if_pos hf, fV_mag (by omega)]
    rw [hi, hw, pat_neg s (by omega), Int.add_zero]
    simp only [Bool.or_self, Bool.and_false, Bool.false_and, Bool.false_eq_true, if_false]
    have hab : (if s then -(magK k : Int) else (magK k : Int)).natAbs = magK k := by cases s <;> simp
    rw [hab, rung_mag hk]
    by_cases h0 : magK k = 0
    · have hk0 : k = 0 := by
        rcases Nat.eq_zero_or_pos k with h1 | h1
        · exact h1
        · have := magK_lt h1; rw [magK_zero] at this; omega
      subst hk0
      refine ⟨?_, pat_nan (by omega), pat_I64 (by omega)⟩
      rw [rk_pat (by omega), rk_pat (by omega)]
      cases s <;> (split <;> rfl)
    · have e : (if (if s then -(magK k : Int) else (magK k : Int)) = 0 then false else decide ((if s then -(magK k : Int) else (magK k : Int)) < 0)) = s := by
        cases s
        · simp only [Bool.false_eq_true, if_false]; rw [if_neg (by omega), decide_eq_false (by omega)]
        · simp only [if_true]; rw [if_neg (by omega), decide_eq_true (by omega)]
      rw [e]
      exact ⟨rfl, hn, ha⟩
theorem order_nan {a b : Int} (ha : I64 a) (hb : I64 b) (h : isNaN a = true ∨ isNaN b = true) : FloatKind.f64.format.order (wd a) (wd b) = none := by
  have e0 : ∀ x y, FloatKind.f64.format.order x y = (Ieee.double.read x).order (Ieee.double.read y) := fun _ _ => rfl
  rw [e0]
  rcases look ha with ⟨a1, a2, a3, a4⟩ | ⟨a1, a2, a3, a4⟩ | ⟨a1, a2, a3, a4⟩ <;> rcases look hb with ⟨b1, b2, b3, b4⟩ | ⟨b1, b2, b3, b4⟩ | ⟨b1, b2, b3, b4⟩ <;> rw [a4, b4] <;> first | rfl | (rw [a3, b3] at h; simp at h)
/-- span.Valid. -/
def vS (a b : Int) : Bool := !isNaN a && !isNaN b && decide (rk a ≤ rk b) && decide (rk a < 9218868437227405312) && decide (-9218868437227405312 < rk b)
theorem gt_ord {x y : Int} : (some (compareOfLessAndEq x y) == some Ordering.gt) = decide (y < x) := by
  unfold compareOfLessAndEq
  by_cases h : x < y
  · rw [if_pos h, decide_eq_false (by omega)]; rfl
  · rw [if_neg h]
    by_cases h2 : x = y
    · rw [if_pos h2, decide_eq_false (by omega)]; rfl
    · rw [if_neg h2, decide_eq_true (by omega)]; rfl
theorem lt_ord {x y : Int} : (some (compareOfLessAndEq x y) == some Ordering.lt) = decide (x < y) := by
  unfold compareOfLessAndEq
  by_cases h : x < y
  · rw [if_pos h, decide_eq_true h]; rfl
  · rw [if_neg h, decide_eq_false h]
    split <;> rfl
end Go.Eng
namespace Go.Proofs
open Go Go.Eng
variable {B : World} {R : Ending → Heap → Prop} {h : Heap}
/-- bits.Canon. -/
theorem K1059 {a : Int} (ha : I64 a) (H : R (.returned (.int .i64 (cnP a))) h) : Ent Tryz.prog B 37 #[.int .i64 a] R h := by
  refine F1059_ok _ (K54 ⟨_, rfl, (wi_wd ha).add wi_zero fun z hz => K56 hz ⟨_, rfl, ?_⟩⟩)
  rw [addP_nl]; exact H
theorem wmax : wd 9218868437227405311 = 9218868437227405311 := by decide
end Go.Proofs
set_option linter.unusedVariables false
namespace Go.Proofs
open Go Go.Eng
variable {B : World} {R : Ending → Heap → Prop} {h : Heap}
/-- The blank interval of package span. -/
def NoneH (h : Heap) : Prop := 0 < h.size ∧ cell? h ⟨0, 0, none⟩ = some (.int .i64 0) ∧ cell? h ⟨0, 1, none⟩ = some (.int .i64 0)
theorem NoneH.ext {h h' : Heap} (H : NoneH h) (f : Ext h h') : NoneH h' := by
  obtain ⟨a, b, c⟩ := H
  refine ⟨Nat.lt_of_lt_of_le a f.size, ?_, ?_⟩
  · unfold cell? at b ⊢; rw [f.same 0 a id]; exact b
  · unfold cell? at c ⊢; rw [f.same 0 a id]; exact c
theorem NoneH.c0 {h : Heap} (H : NoneH h) : cI h 0 0 .i64 0 := H.2.1
theorem NoneH.c1 {h : Heap} (H : NoneH h) : cell? h ⟨0, 0 + 1, none⟩ = some (.int .i64 0) := H.2.2
end Go.Proofs
set_option linter.unusedVariables false
namespace Go.Proofs
open Go Go.Eng
variable {B : World} {R : Ending → Heap → Prop} {h : Heap}
abbrev P1 : Int := 4607182418800017408
abbrev P2 : Int := 4611686018427387904
abbrev P3 : Int := 4613937818241073152
theorem pwOne : Pw P1 0 := ⟨by unfold I64 P1; omega, by decide +kernel, by decide +kernel, by omega⟩
theorem pwTwo : Pw P2 1 := ⟨by unfold I64 P2; omega, by decide +kernel, by decide +kernel, by omega⟩
theorem c11 : cls (addP P1 P1) ≠ 0 := by decide +kernel
theorem c12 : cls (addP P1 P2) ≠ 0 := by decide +kernel
theorem d11 : dirV (1 : Int).toNat (fV P1 + fV P1) (-1074) = P2 := by decide +kernel
theorem d12 : dirV (2 : Int).toNat (fV P1 + fV P2) (-1074) = P3 := by decide +kernel
theorem v11 : (vS P1 P1 && vS P1 P2) = true := by decide +kernel
theorem i1 : I64 P1 := pwOne.1
theorem i2 : I64 P2 := pwTwo.1
theorem i3 : I64 P3 := by unfold I64 P3; omega
end Go.Proofs
set_option linter.unusedVariables false
namespace Go.Eng
open Go
theorem rk_inf {p : Int} (ip : I64 p) (hn : isNaN p = false) (hf : isFin p = false) : rk p = 9218868437227405312 ∨ rk p = -9218868437227405312 := by
  obtain ⟨s, k, hk, rfl⟩ := as_pat ip hn
  by_cases h : k = 9218868437227405312
  · subst h
    rw [rk_pat (by omega)]
    cases s
    · exact .inl rfl
    · exact .inr rfl
  · rw [pat_fin (by omega)] at hf; cases hf
end Go.Eng
namespace Go.Proofs
open Go Go.Eng
variable {B : World} {R : Ending → Heap → Prop} {h : Heap}
end Go.Proofs
set_option linter.unusedVariables false
namespace Go.Eng
open Go
/-- What stands behind what was written stands as it stood. -/
theorem Wrote.rest {k : IntKind} {h0 h : Heap} {b o : Nat} {zs xs : List Nat} (W : Wrote k h0 h b o zs) (hx : Sl k h0 (some ⟨b, o, none⟩) xs) (hl : zs.length ≤ xs.length) : Wrote k h0 h b o (zs ++ xs.drop zs.length) := by
  rcases hx with hx | ⟨b', o', cs', e1, e2, e3⟩
  · subst hx
    have : zs = [] := List.eq_nil_of_length_eq_zero (by simpa using hl)
    subst this; exact W
  · cases e1
    obtain ⟨c0, cs, e, h1, h2, h3, h4, h5⟩ := W.blk
    have : cs' = c0 := e2.inj ⟨e, h1⟩
    subst this
    refine ⟨W.size, W.same, cs', cs, e, h1, h2, h3, fun j hj => h4 j ?_, fun j hj => ?_⟩
    · rw [List.length_append, List.length_drop] at hj; omega
    · rw [List.length_append, List.length_drop] at hj
      by_cases hz : j < zs.length
      · rw [List.getElem_append_left hz]; exact h5 j hz
      · rw [List.getElem_append_right (by omega), List.getElem_drop, h4 (o + j) (by omega), e3 j (by omega)]
        congr 4; omega
end Go.Eng
namespace Go.Proofs
open Go Go.Eng
variable {B : World} {R : Ending → Heap → Prop} {h : Heap}
theorem K203i {bz oz n zc xc y : Nat} {xs : List Nat} {cs : Array Value} (hO : Own h bz cs) (hn : oz + n ≤ cs.size) (hx : Sl .u64 h (some ⟨bz, oz, none⟩) xs) (lx : xs.length = n) (hlim : n < 9223372036854775807)
    (hxc : n ≤ xc) (hzc : n ≤ zc) (dx : Dig B64 xs) (hy : y < B64)
    (H : ∀ (zs : List Nat) (c : Nat) (h' : Heap), Wrote .u64 h h' bz oz zs → zs.length = n → Dig B64 zs → c < B64 → val B64 zs + B64 ^ n * c = val B64 xs + y → R (.returned (.int .u64 (c : Int))) h') :
    Ent Tryz.prog B 152 #[.slice (some ⟨bz, oz, none⟩) n zc, .slice (some ⟨bz, oz, none⟩) n xc, .int .u64 (y : Int)] R h := by
  have hB : B64 = 18446744073709551616 := rfl
  refine F203_ok _ _ _ _ _ _ _ ⟨fun e => by simp at e, fun _ => ⟨fun e => ?_, fun e => ?_⟩⟩
  · have e : n = 0 := by simpa using e
    subst e
    have : xs = [] := List.eq_nil_of_length_eq_zero lx
    subst this
    exact H [] y h (Wrote.nil hO) rfl Dig.nil hy (by simp [val])
  have hn0 : 0 < n := by simp at e; omega
  have hne : xs ≠ [] := fun e => by rw [e] at lx; simp at lx; omega
  have cmp : ∀ {h' : Heap} {K : Bool → Prop}, K true → ixW (some ⟨bz, oz, none⟩) n (0 : Int) 1 fun b20 o21 => ixW (some ⟨bz, oz, none⟩) n (0 : Int) 1 fun b22 o23 => pEq h' (some ⟨b20, o21, none⟩) (some ⟨b22, o23, none⟩) K := by
    intro h' K hK
    refine ⟨bz, oz, rfl, by omega, by omega, bz, oz, rfl, by omega, by omega, .inr (.inr ⟨_, _, _, _, rfl, rfl, .inl ⟨rfl, ?_⟩⟩)⟩
    simpa using hK
  refine hx.get 0 rfl (by omega) (by omega) (K204 (c := 0) (by decide) ⟨_, _, rfl, ?_⟩)
  have d0 : xs[0]'(by omega) < B64 := dx.get (by omega)
  have hxv : val B64 xs = xs[0]'(by omega) + B64 * val B64 (xs.drop 1) := by
    have := val_drop B64 xs (i := 0) (by omega); simpa using this
  refine (Wrote.nil (k := .u64) hO).put hO _ rfl rfl hn0 hn fun W => ?_
  simp only [List.length_nil, Nat.add_zero, List.nil_append] at W
  refine ⟨fun e => ?_, fun e => ?_⟩
  · have hc0 : (xs[0]'(by omega) + y + 0) / B64 = 0 := Int.natCast_eq_zero.1 (of_decide_eq_true e)
    refine cmp ⟨fun e => (by simp at e), fun _ => ?_⟩
    have W2 := W.rest hx (by show 1 ≤ _; omega)
    refine H _ 0 _ W2 (by simp; omega) (Dig.cons (dx.drop 1) (Nat.mod_lt _ (by decide))) (by decide) ?_
    show _ + B64 * val B64 (xs.drop 1) + _ = _
    rw [hxv]
    rw [Nat.mul_zero]
    unfold B64 at *; omega
  · have hc1 : (xs[0]'(by omega) + y) / B64 = 1 := by
      have h1 : (xs[0]'(by omega) + y + 0) / B64 ≠ 0 := fun hh => of_decide_eq_false e (Int.natCast_eq_zero.2 hh)
      unfold B64 at *; omega
    refine ⟨fun m vs h' => match vs with
      | [.slice p1 n1 c1, .slice p2 n2 c2, .int _ i] => some ⟨bz, oz, none⟩ = p1 ∧ n = n1 ∧ zc = c1 ∧ some ⟨bz, oz, none⟩ = p2 ∧ n = n2 ∧ xc = c2 ∧ ∃ zs : List Nat, Wrote .u64 h h' bz oz zs ∧ i = (zs.length : Int) ∧ m = n - zs.length ∧ 0 < zs.length ∧ zs.length ≤ n ∧ Dig B64 zs ∧ val B64 zs + B64 ^ zs.length = val B64 (xs.take zs.length) + y
      | _ => False, n - 1, ⟨rfl, rfl, rfl, rfl, rfl, rfl, _, W, rfl, rfl, by simp, by simp; omega, Dig.cons Dig.nil (Nat.mod_lt _ (by decide)), ?_⟩, ?_⟩
    · have : xs.take 1 = [xs[0]'(by omega)] := by
        cases xs with
        | nil => exact absurd rfl hne
        | cons x xs => rfl
      simp only [List.length_singleton, this, val, Nat.pow_one, Nat.mul_zero, Nat.add_zero]
      unfold B64 at *; omega
    rintro m h' _ _ _ _ _ _ _ ⟨rfl, rfl, rfl, rfl, rfl, rfl, zs, W, rfl, rfl, hz0, hzn, dz, hv⟩ _
    refine ⟨fun e => ?_, fun e => ?_⟩
    · have hlt : zs.length < n := by simp at e; omega
      have dl : xs[zs.length]'(by omega) < B64 := dx.get (by omega)
      refine hx.getW W zs.length rfl (by omega) (by omega) (fun b o hb => by cases hb; exact .inr (.inr (Nat.le_refl _))) ⟨fun e => ?_, fun e => ?_⟩
      · have hw : xs[zs.length]'(by omega) ≠ 18446744073709551615 := by simp at e; omega
        refine W.put hO (xs[zs.length]'(by omega) + 1) (by have := wadd (a := xs[zs.length]'(by omega)) (b := 1) (by omega); exact this) rfl hlt hn fun W' => ?_
        have ei : IntKind.i64.wrap ((zs.length : Int) + 1) = ((zs.length + 1 : Nat) : Int) := by rw [i64_in (by omega) (by omega)]; simp
        refine cmp ⟨fun e => (by simp at e), fun _ => ?_⟩
        have W2 := W'.rest hx (by simp; omega)
        refine H _ 0 _ W2 (by simp; omega) ((dz.snoc (by omega)).append (dx.drop _)) (by decide) ?_
        rw [val_append, val_snoc, List.length_append, List.length_singleton, val_split B64 xs (i := zs.length + 1) (by omega), val_take_succ _ _ (by omega), Nat.mul_add]
        omega
      · have hw : xs[zs.length]'(by omega) = 18446744073709551615 := by simp at e; omega
        refine W.put hO 0 rfl rfl hlt hn fun W' => ?_
        refine ⟨n - (zs.length + 1), by omega, rfl, rfl, rfl, rfl, rfl, rfl, _, W', by rw [i64_in (by omega) (by omega)]; simp, by simp, by simp, by simp; omega, dz.snoc (by decide), ?_⟩
        rw [List.length_append, List.length_singleton, val_snoc, val_take_succ _ _ (by omega), hw, Nat.pow_succ]
        have : B64 ^ zs.length * 18446744073709551615 + B64 ^ zs.length = B64 ^ zs.length * B64 := by
          unfold B64; omega
        omega
    · have : zs.length = n := by simp at e; omega
      exact H zs 1 h' W this dz (by decide) (by rw [this] at hv; rw [Nat.mul_one, hv, List.take_of_length_le (by omega)])
theorem K196i {bz oz n zc xc y : Nat} {xs : List Nat} {cs : Array Value} (hO : Own h bz cs) (hn : oz + n ≤ cs.size) (hx : Sl .u64 h (some ⟨bz, oz, none⟩) xs) (lx : xs.length = n) (hlim : n < 9223372036854775807)
    (hxc : n ≤ xc) (hzc : n ≤ zc) (dx : Dig B64 xs) (hy : y < B64)
    (H : ∀ (zs : List Nat) (c : Nat) (h' : Heap), Wrote .u64 h h' bz oz zs → zs.length = n → Dig B64 zs → c < B64 → val B64 xs + B64 ^ n * c = val B64 zs + y → R (.returned (.int .u64 (c : Int))) h') :
    Ent Tryz.prog B 148 #[.slice (some ⟨bz, oz, none⟩) n zc, .slice (some ⟨bz, oz, none⟩) n xc, .int .u64 (y : Int)] R h := by
  have hB : B64 = 18446744073709551616 := rfl
  refine F196_ok _ _ _ _ _ _ _ ⟨fun e => by simp at e, fun _ => ⟨fun e => ?_, fun e => ?_⟩⟩
  · have e : n = 0 := by simpa using e
    subst e
    have : xs = [] := List.eq_nil_of_length_eq_zero lx
    subst this
    exact H [] y h (Wrote.nil hO) rfl Dig.nil hy (by simp [val])
  have hn0 : 0 < n := by simp at e; omega
  have hne : xs ≠ [] := fun e => by rw [e] at lx; simp at lx; omega
  have cmp : ∀ {h' : Heap} {K : Bool → Prop}, K true → ixW (some ⟨bz, oz, none⟩) n (0 : Int) 1 fun b20 o21 => ixW (some ⟨bz, oz, none⟩) n (0 : Int) 1 fun b22 o23 => pEq h' (some ⟨b20, o21, none⟩) (some ⟨b22, o23, none⟩) K := by
    intro h' K hK
    refine ⟨bz, oz, rfl, by omega, by omega, bz, oz, rfl, by omega, by omega, .inr (.inr ⟨_, _, _, _, rfl, rfl, .inl ⟨rfl, ?_⟩⟩)⟩
    simpa using hK
  have d0 : xs[0]'(by omega) < B64 := dx.get (by omega)
  refine hx.get 0 rfl (by omega) (by omega) (K198' (c := 0) d0 hy (by decide) fun z0 b0 hz0 hb0 hzb => ⟨_, _, rfl, ?_⟩)
  have hxv : val B64 xs = xs[0]'(by omega) + B64 * val B64 (xs.drop 1) := by
    have := val_drop B64 xs (i := 0) (by omega); simpa using this
  refine (Wrote.nil (k := .u64) hO).put hO _ rfl rfl hn0 hn fun W => ?_
  simp only [List.length_nil, Nat.add_zero, List.nil_append] at W
  refine ⟨fun e => ?_, fun e => ?_⟩
  · have hc0 : b0 = 0 := Int.natCast_eq_zero.1 (of_decide_eq_true e)
    refine cmp ⟨fun e => (by simp at e), fun _ => ?_⟩
    have W2 := W.rest hx (by show 1 ≤ _; omega)
    refine H _ 0 _ W2 (by simp; omega) (Dig.cons (dx.drop 1) hz0) (by decide) ?_
    have hv : val B64 (z0 :: xs.drop 1) = z0 + B64 * val B64 (xs.drop 1) := rfl
    show val B64 xs + _ = val B64 (z0 :: xs.drop 1) + y
    rw [hv, hxv, Nat.mul_zero]
    rw [hc0] at hzb
    omega
  · have hc1 : b0 ≠ 0 := fun hh => of_decide_eq_false e (Int.natCast_eq_zero.2 hh)
    refine ⟨fun m vs h' => match vs with
      | [.slice p1 n1 c1, .slice p2 n2 c2, .int _ i] => some ⟨bz, oz, none⟩ = p1 ∧ n = n1 ∧ zc = c1 ∧ some ⟨bz, oz, none⟩ = p2 ∧ n = n2 ∧ xc = c2 ∧ ∃ zs : List Nat, Wrote .u64 h h' bz oz zs ∧ i = (zs.length : Int) ∧ m = n - zs.length ∧ 0 < zs.length ∧ zs.length ≤ n ∧ Dig B64 zs ∧ val B64 (xs.take zs.length) + B64 ^ zs.length = val B64 zs + y
      | _ => False, n - 1, ⟨rfl, rfl, rfl, rfl, rfl, rfl, _, W, rfl, rfl, by simp, by simp; omega, Dig.cons Dig.nil hz0, ?_⟩, ?_⟩
    · have : xs.take 1 = [xs[0]'(by omega)] := by
        cases xs with
        | nil => exact absurd rfl hne
        | cons x xs => rfl
      simp only [List.length_singleton, this, val, Nat.pow_one, Nat.mul_zero, Nat.add_zero]
      have : b0 = 1 := by omega
      rw [this] at hzb
      omega
    rintro m h' _ _ _ _ _ _ _ ⟨rfl, rfl, rfl, rfl, rfl, rfl, zs, W, rfl, rfl, hz0, hzn, dz, hv⟩ _
    refine ⟨fun e => ?_, fun e => ?_⟩
    · have hlt : zs.length < n := by simp at e; omega
      have dl : xs[zs.length]'(by omega) < B64 := dx.get (by omega)
      refine hx.getW W zs.length rfl (by omega) (by omega) (fun b o hb => by cases hb; exact .inr (.inr (Nat.le_refl _))) ⟨fun e => ?_, fun e => ?_⟩
      · have hw : xs[zs.length]'(by omega) ≠ 0 := by simp at e; omega
        refine W.put hO (xs[zs.length]'(by omega) - 1) (by rw [show ((xs[zs.length]'(by omega) : Nat) : Int) - 1 = ((xs[zs.length]'(by omega) - 1 : Nat) : Int) by omega, wrap_u64_nat, Nat.mod_eq_of_lt (by omega)]) rfl hlt hn fun W' => ?_
        have ei : IntKind.i64.wrap ((zs.length : Int) + 1) = ((zs.length + 1 : Nat) : Int) := by rw [i64_in (by omega) (by omega)]; simp
        refine cmp ⟨fun e => (by simp at e), fun _ => ?_⟩
        have W2 := W'.rest hx (by simp; omega)
        refine H _ 0 _ W2 (by simp; omega) ((dz.snoc (by omega)).append (dx.drop _)) (by decide) ?_
        rw [val_append, val_snoc, List.length_append, List.length_singleton, val_split B64 xs (i := zs.length + 1) (by omega), val_take_succ _ _ (by omega)]
        have : B64 ^ zs.length * (xs[zs.length]'(by omega) - 1) + B64 ^ zs.length = B64 ^ zs.length * xs[zs.length]'(by omega) := by
          rw [← Nat.mul_succ]; congr 1; omega
        omega
      · have hw : xs[zs.length]'(by omega) = 0 := by simp at e; omega
        refine W.put hO 18446744073709551615 rfl rfl hlt hn fun W' => ?_
        refine ⟨n - (zs.length + 1), by omega, rfl, rfl, rfl, rfl, rfl, rfl, _, W', by rw [i64_in (by omega) (by omega)]; simp, by simp, by simp, by simp; omega, dz.snoc (by omega), ?_⟩
        rw [List.length_append, List.length_singleton, val_snoc, val_take_succ _ _ (by omega), hw, Nat.pow_succ]
        have : B64 ^ zs.length * 18446744073709551615 + B64 ^ zs.length = B64 ^ zs.length * B64 := by
          unfold B64; omega
        omega
    · have : zs.length = n := by simp at e; omega
      exact H zs 1 h' W this dz (by decide) (by rw [this] at hv; rw [List.take_of_length_le (by omega)] at hv; rw [Nat.mul_one, hv])
end Go.Proofs
