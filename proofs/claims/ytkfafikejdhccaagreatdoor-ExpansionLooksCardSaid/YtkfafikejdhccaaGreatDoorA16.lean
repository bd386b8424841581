import Derived.Test.YtkfafikejdhccaaGreatDoorA15
import Derived.Test.YtkfafikejdhccaaGreatDoorA06
/- Here stand lemmas: plumbref4 and plumbref6: contracts. -/
set_option linter.unusedVariables false
namespace Go.Proofs
open Go Go.Eng
variable {B : World} {R : Ending → Heap → Prop} {h : Heap}
/-- plumbref4.K64. -/
abbrev K64V : Value := .agg #[.int .i64 (53 : Int), .int .i64 (-1074 : Int), .int .i64 (1024 : Int), .int .i64 (9218868437227405312 : Int), .int .i64 (-9223372036854775808 : Int)]
theorem K186 (H : ∀ h', Ext h h' → R (.returned K64V) h') : Ent Tryz.prog B 186 #[] R h := by
  refine F186_ok (alK fun r h2 e f o z => ⟨r, 0, rfl, o.stC (by simp) rfl fun oa fa => oa.stC (by simp) rfl fun ob fb => ob.stC (by simp) rfl fun oc fc => oc.stC (by simp) rfl fun od fd => od.stC (by simp) rfl fun oe fe => ⟨r, 0, rfl, _, oe.cell _, _, oe.cell _, _, oe.cell _, _, oe.cell _, _, oe.cell _, ?_⟩⟩)
  have f1 := Fr.trans (S := fun x => x = r) (Fr.trans (S := fun x => x = r) fa fb fun _ _ e => e) fc fun _ _ e => e
  have f2 := Fr.trans (S := fun x => x = r) (Fr.trans (S := fun x => x = r) f1 fd fun _ _ e => e) fe fun _ _ e => e
  exact H _ (Fr.trans f f2 fun x hx e => by omega)
theorem K234 (H : ∀ h', Ext h h' → R (.returned (.int .i64 NaNP)) h') : Ent Tryz.prog B 234 #[K64V] R h := by
  refine F234_ok _ _ _ _ _ (alK fun r h2 e f o z => ⟨r, 0, rfl, r, 0, rfl, _, o.cell _, fun _ => H _ f, fun e => by cases e⟩)
theorem K235 {neg : Bool} {b : Nat} (hb : b < 9223372036854775808) (H : ∀ h', Ext h h' → R (.returned (.int .i64 (pat neg b))) h') : Ent Tryz.prog B 235 #[K64V, .bool neg, .int .i64 (b : Int)] R h := by
  refine F235_ok _ _ _ _ _ _ _ (alK fun r h2 e f o z => ?_)
  cases neg
  · exact ⟨fun e => (by cases e), fun _ => H _ f⟩
  · refine ⟨fun _ => ⟨r, 0, rfl, r, 0 + 4, rfl, _, o.cell _, ?_⟩, fun e => by cases e⟩
    rw [i64_in (by omega) (by omega)]
    exact H _ f
theorem K236 {neg na ia xneg : Bool} {p : Option Addr} {n c : Nat} {e v : Int} {K : Nat} (N : NumS K h xneg p n e v) (H : ∀ h', Ext h h' → R (.returned (.bool (zr na ia v))) h') :
    Ent Tryz.prog B 236 #[.agg #[.bool neg, .bool na, .bool ia, .bool xneg, .slice p n c, .int .i64 e]] R h := by
  refine F236_ok _ _ _ _ _ _ _ _ (alK fun r h2 e f o z => ?_)
  have hz : decide (((n : Nat) : Int) = (0 : Int)) = decide (v = 0) := by
    obtain ⟨M, I, a1, a2⟩ := N
    rw [decide_eq_decide]
    rcases numI_cases I with ⟨q, _⟩ | q
    · have := I.d.len
      rw [q, digs_zero] at this
      have hv : v = 0 := by rw [a2, q]; unfold Ieee.signed; simp
      simp at this; omega
    · have := I.d.len
      rw [digs_ne (by decide) (by omega)] at this
      have hv : v ≠ 0 := by rw [a2]; exact signed_ne (by omega)
      simp at this; omega
  have H' := H _ f
  unfold zr at H'
  cases na
  · cases ia
    · refine ⟨r, 0, rfl, r, 0 + 1, rfl, _, o.cell _, fun _ => ⟨r, 0, rfl, r, 0 + 2, rfl, _, o.cell _, fun _ => ⟨r, 0, rfl, r, 0 + 3, rfl, r, 0 + 3 + 1, rfl, _, _, _, o.cell _, ?_⟩, fun e => by cases e⟩, fun e => by cases e⟩
      unfold F236_j26
      rw [hz]; exact H'
    · exact ⟨r, 0, rfl, r, 0 + 1, rfl, _, o.cell _, fun _ => ⟨r, 0, rfl, r, 0 + 2, rfl, _, o.cell _, fun e => (by cases e), fun _ => H'⟩, fun e => by cases e⟩
  · exact ⟨r, 0, rfl, r, 0 + 1, rfl, _, o.cell _, fun e => (by cases e), fun _ => ⟨fun e => (by cases e), fun _ => H'⟩⟩
theorem K255 {m : Nat} (hm : m < 9223372036854775808) (H : R (.returned (.int .i64 (bl m : Int))) h) : Ent Tryz.prog B 255 #[.int .i64 (m : Int)] R h := by
  have hbm : bl m ≤ 63 := bl_le_iff.2 hm
  refine F255_ok _ ⟨fun w vs h' => match vs with
    | [.int _ x, .int _ k] => x = (w : Int) ∧ w ≤ m ∧ k + (bl w : Int) = (bl m : Int) ∧ h' = h
    | _ => False, m, ⟨rfl, Nat.le_refl _, by simp, rfl⟩, ?_⟩
  rintro w h' _ k ⟨rfl, hw, hk, rfl⟩ _
  refine ⟨fun e => ⟨by decide, ?_⟩, fun e => ?_⟩
  · have hw0 : w ≠ 0 := by have := of_decide_eq_true e; omega
    have hh := bl_half hw0
    have hb := bl_mono hw
    refine ⟨w / 2, by omega, by rw [td2, i64_nat (by omega)], by omega, ?_, rfl⟩
    rw [i64_in (by omega) (by omega)]; omega
  · have hw0 : w = 0 := by have := of_decide_eq_false e; omega
    subst hw0
    have h0 : bl 0 = 0 := rfl
    rw [show k = (bl m : Int) by omega]; exact H
theorem odd_le {m : Nat} (hm : m ≤ 9007199254740992) : ∀ s o, m = 2 ^ s * o → o % 2 = 1 → o < 9007199254740992 := by
  intro s o h ho
  have h1 : o ≤ m := by rw [h]; exact Nat.le_mul_of_pos_left _ (Nat.pow_pos (by decide))
  omega
theorem K256 {m : Nat} {e : Int} (hm : m ≤ 9007199254740992) (he : -1074 ≤ e) (hn : e = -1074 ∨ 4503599627370496 ≤ m) (hr : (e + 1074).toNat * 4503599627370496 + m < INF)
    (H : ∀ h', Ext h h' → R (.returned (.int .i64 (((e + 1074).toNat * 4503599627370496 + m : Nat) : Int))) h') : Ent Tryz.prog B 256 #[K64V, .int .i64 (m : Int), .int .i64 e] R h := by
  have hINF : INF = 9218868437227405312 := rfl
  refine F256_ok _ _ _ _ _ _ _ (alK fun r h2 e2 f o z => ⟨r, 0, rfl, r, 0, rfl, _, o.cell _, fun _ => ?_, fun e => by cases e⟩)
  have hrn : m ≠ 0 → rung m e = (e + 1074).toNat * 4503599627370496 + m := fun h0 => by
    have := rung_norm h0 hm he hn
    omega
  refine K115 (by omega) he (by rcases hn with h | h <;> omega) (odd_le hm) ?_ ⟨_, _, rfl, ?_⟩
  · by_cases h0 : m = 0
    · exact .inl h0
    · exact .inr (by rw [hrn h0]; exact hr)
  · have H' := H _ f
    by_cases h0 : m = 0
    · rw [if_pos h0]
      have : e = -1074 := by rcases hn with h | h <;> omega
      subst this h0
      exact H'
    · rw [if_neg h0, hrn h0]; exact H'
theorem rn_bits (M d : Nat) : rn M d = M / 2 ^ d + (if (decide (0 < d) && decide (M / 2 ^ (d - 1) % 2 = 1)) && ((decide (0 < d - 1) && decide (M % 2 ^ (d - 1) ≠ 0)) || decide (M / 2 ^ d % 2 = 1)) then 1 else 0) := by
  cases d with
  | zero => rw [rn_zero]; simp
  | succ d =>
    unfold rn
    congr 1
    have hp : 0 < 2 ^ d := Nat.pow_pos (by decide)
    have h1 : M % 2 ^ (d + 1) = 2 ^ d * (M / 2 ^ d % 2) + M % 2 ^ d := by
      rw [Nat.pow_succ, Nat.mod_mul, Nat.add_comm]
    have h2 : M % 2 ^ d < 2 ^ d := Nat.mod_lt _ hp
    have h3 : 2 ^ (d + 1) = 2 ^ d * 2 := Nat.pow_succ ..
    have hd : d + 1 - 1 = d := rfl
    rw [hd, h1]
    generalize M / 2 ^ (d + 1) % 2 = q
    rcases Nat.mod_two_eq_zero_or_one (M / 2 ^ d) with h | h
    · rw [h, if_neg (by omega)]; simp
    · rw [h]
      by_cases h0 : M % 2 ^ d = 0
      · by_cases hq : q = 1
        · rw [if_pos (by omega)]; simp [h0, hq]
        · rw [if_neg (by omega)]; simp [h0, hq]
      · have hd0 : 0 < d := by
          rcases Nat.eq_zero_or_pos d with hz | hz
          · subst hz; rw [Nat.pow_zero, Nat.mod_one] at h0; exact absurd rfl h0
          · exact hz
        rw [if_pos (by omega)]; simp [h0, hd0]
theorem low_mod {M t m d : Nat} (h : M = 2 ^ t * (2 * m + 1)) : (M % 2 ^ d ≠ 0) ↔ t < d := by
  constructor
  · intro hne
    rcases Nat.lt_or_ge t d with h1 | h1
    · exact h1
    · exfalso; apply hne
      obtain ⟨k, rfl⟩ := Nat.exists_eq_add_of_le h1
      rw [h, Nat.pow_add, Nat.mul_assoc, Nat.mul_mod_right]
  · intro hlt h0
    obtain ⟨k, rfl⟩ := Nat.exists_eq_add_of_lt hlt
    have hdvd : 2 ^ (t + k + 1) ∣ M := Nat.dvd_of_mod_eq_zero h0
    rw [h, show t + k + 1 = t + (k + 1) by omega, Nat.pow_add] at hdvd
    have := Nat.dvd_of_mul_dvd_mul_left (Nat.pow_pos (by decide)) hdvd
    have h2 : 2 ∣ 2 ^ (k + 1) := ⟨2 ^ k, by rw [Nat.pow_succ, Nat.mul_comm]⟩
    have := Nat.dvd_trans h2 this
    omega
def CutI (h1 : Heap) (neg : Bool) (e sgn lw : Int) (r : Nat) (pk : Option Addr) (nk ck : Nat) (ek : List Nat) (half rest : Bool) (m : Nat) (vs : List Value) (h' : Heap) : Prop :=
  match vs with
  | [.bool ng, .int _ ex, .int _ wy, .pointer rr, .int _ sg, .int _ l, .slice pp np cp, .bool hf, .bool rs, .int _ mm, .int _ i] => neg = ng ∧ e = ex ∧ wy = 0 ∧ rr = some (⟨r, 0, none⟩ : Addr) ∧ sgn = sg ∧ lw = l ∧ pk = pp ∧ nk = np ∧ ck = cp ∧ half = hf ∧ rest = rs ∧ h1 = h' ∧
      i = (m : Int) - 1 ∧ m ≤ nk ∧ mm = (val B30 (ek.drop m) : Int)
  | _ => False
theorem cutFin {h1 : Heap} {r Km : Nat} {L e sgn : Int} {neg : Bool} (o1 : Own h1 r #[.int .i64 (53 : Int), .int .i64 (-1074 : Int), .int .i64 (1024 : Int), .int .i64 (9218868437227405312 : Int), .int .i64 (-9223372036854775808 : Int)])
    (hs : sgn = if neg then -9223372036854775808 else 0) (k1 : Km ≤ 9007199254740992) (k2 : L = -1074 ∨ 4503599627370496 ≤ Km) (hLge : -1074 ≤ L) (hLle : L ≤ 10000000) (he : -10000000 ≤ e) (he2 : e ≤ 10000000)
    (H : ∀ h2 b, Ext h1 h2 → R (.returned (.tuple #[.int .i64 (pat neg (min ((L + 1074).toNat * 4503599627370496 + Km) 9218868437227405312)), .bool b])) h2)
    (I : Nat → List Value → Heap → Prop) (nn : Nat) (od : Bool) : F237_j134 B R I nn neg e 0 (some ⟨r, 0, none⟩) sgn (L - e) (Km : Int) od h1 := by
  have e52 : IntKind.i64.wrap ((1 : Int) * 2 ^ min (Int.toNat (IntKind.i64.wrap ((53 : Int) - (1 : Int)))) IntKind.i64.bits) = 4503599627370496 := by decide
  have e52' : (0 : Int) ≤ IntKind.i64.wrap ((53 : Int) - (1 : Int)) := by decide
  have eL : IntKind.i64.wrap (L - e + e) = L := by rw [i64_in (by omega) (by omega)]; omega
  have hpat : ∀ P : Nat, P < 9223372036854775808 → IntKind.i64.wrap (sgn + (P : Int)) = pat neg P := by
    intro P hP
    rw [hs]
    unfold pat
    cases neg
    · simp only [Bool.false_eq_true, if_false]; rw [Int.zero_add, i64_nat hP]
    · simp only [if_true]; rw [i64_in (by omega) (by omega)]; omega
  have small : (L + 1074).toNat * 4503599627370496 + Km < 9218868437227405312 → F237_j159 B R I nn neg 0 (some ⟨r, 0, none⟩) sgn (Km : Int) od (IntKind.i64.wrap (L - e + e)) false h1 := by
    intro hlt
    rw [eL]
    refine ⟨fun e => (by cases e), fun _ => ⟨r, 0, rfl, _, o1.cell _, _, o1.cell _, _, o1.cell _, _, o1.cell _, _, o1.cell _, K256 k1 hLge k2 hlt fun h2 f2 => ⟨_, rfl, ?_⟩⟩⟩
    rw [hpat _ (by omega)]
    have := H h2 od f2
    rw [Nat.min_eq_left (by omega)] at this
    exact this
  refine ⟨fun e0 => ⟨r, 0, rfl, r, 0, rfl, _, o1.cell _, e52', ?_⟩, fun e0 => ⟨fun e => (by cases e), fun _ => ?_⟩⟩
  · rw [e52]
    refine ⟨fun e1 => ⟨r, 0, rfl, r, 0 + 2, rfl, _, o1.cell _, K255 (by omega) ⟨_, rfl, same1 (S := fun _ => False) o1 Fr.rfl' id, ?_⟩⟩, fun e1 => ?_⟩
    · have hge : 4503599627370496 ≤ Km := by have := of_decide_eq_true e1; omega
      have hblk : bl Km = 53 ∧ Km < 9007199254740992 ∨ bl Km = 54 ∧ Km = 9007199254740992 := by
        by_cases hk : Km < 9007199254740992
        · exact .inl ⟨(bl_iff (k := 52) (by omega)).2 ⟨by omega, by omega⟩, hk⟩
        · exact .inr ⟨(bl_iff (k := 53) (by omega)).2 ⟨by omega, by omega⟩, by omega⟩
      have eb : IntKind.i64.wrap ((bl Km : Int) + L) = (bl Km : Int) + L := i64_in (by rcases hblk with h | h <;> omega) (by rcases hblk with h | h <;> omega)
      by_cases hinf : (L + 1074).toNat * 4503599627370496 + Km < 9218868437227405312
      · have : decide ((1024 : Int) < IntKind.i64.wrap ((bl Km : Int) + IntKind.i64.wrap (L - e + e))) = false := by
          rw [eL, eb, decide_eq_false_iff_not]
          rcases hblk with ⟨h, h'⟩ | ⟨h, h'⟩ <;> omega
        rw [this]
        exact small hinf
      · have : decide ((1024 : Int) < IntKind.i64.wrap ((bl Km : Int) + IntKind.i64.wrap (L - e + e))) = true := by
          rw [eL, eb, decide_eq_true_eq]
          rcases hblk with ⟨h, h'⟩ | ⟨h, h'⟩ <;> omega
        rw [this]
        refine ⟨fun _ => ⟨fun _ => ⟨fun _ => ⟨fun _ => ⟨r, 0, rfl, r, 0 + 3, rfl, _, o1.cell _, ?_⟩, fun e => (by cases e)⟩, fun e => (by cases e)⟩, fun e => (by cases e)⟩, fun e => (by cases e)⟩
        have hp := hpat 9218868437227405312 (by omega)
        have h2 := H h1 true Fr.rfl'
        rw [Nat.min_eq_right (by omega)] at h2
        rw [show ((9218868437227405312 : Int)) = ((9218868437227405312 : Nat) : Int) from rfl, hp]
        exact h2
    · have hlt : Km < 4503599627370496 := by have := of_decide_eq_false e1; omega
      exact small (by rcases k2 with h | h <;> omega)
  · have hlt : Km = 0 := by have := of_decide_eq_false e0; omega
    exact small (by rcases k2 with h | h <;> omega)
theorem cutLoop {h1 : Heap} {r nk ck Km : Nat} {e sgn lw : Int} {neg half rest : Bool} {pk : Option Addr} {ek : List Nat} (Dk : DigI h1 pk nk ek) (hvk : val B30 ek ≤ 9007199254740992) (hnk : nk ≤ 2)
    (hm' : Km = val B30 ek + (if (half && (rest || decide (val B30 ek % 2 = 1))) = true then 1 else 0))
    (fin : ∀ (I : Nat → List Value → Heap → Prop) (nn : Nat) (od : Bool), F237_j134 B R I nn neg e 0 (some ⟨r, 0, none⟩) sgn lw (Km : Int) od h1) :
    F237_j79 B R neg e 0 (some ⟨r, 0, none⟩) sgn lw pk nk ck half rest h1 := by
  have lk := Dk.len
  refine ⟨CutI h1 neg e sgn lw r pk nk ck ek half rest, nk, ⟨rfl, rfl, rfl, rfl, rfl, rfl, rfl, rfl, rfl, rfl, rfl, rfl, by rw [i64_in (by omega) (by omega)], Nat.le_refl _, ?_⟩, ?_⟩
  · rw [List.drop_of_length_le (by omega)]; rfl
  rintro m h2 _ _ _ _ _ _ _ _ _ _ _ _ _ ⟨rfl, rfl, rfl, rfl, rfl, rfl, rfl, rfl, rfl, rfl, rfl, rfl, rfl, hm, rfl⟩ _
  refine ⟨fun e0 => ⟨by decide, ?_⟩, fun e0 => ?_⟩
  · have hm0 : 0 < m := by have := of_decide_eq_true e0; omega
    have dm := Dk.dig.get (i := m - 1) (by omega)
    have hB : B30 = 1073741824 := rfl
    have hd := val_drop B30 ek (i := m - 1) (by omega)
    rw [show m - 1 + 1 = m by omega] at hd
    have hd2 : B30 * val B30 (ek.drop m) = 1073741824 * val B30 (ek.drop m) := rfl
    have hle : val B30 (ek.drop (m - 1)) ≤ val B30 ek := by
      have := val_split B30 ek (i := m - 1) (by omega)
      have h3 : val B30 (ek.drop (m - 1)) ≤ B30 ^ (m - 1) * val B30 (ek.drop (m - 1)) := Nat.le_mul_of_pos_left _ (Nat.pow_pos (by decide))
      omega
    refine Dk.sl.get (m - 1) (by omega) (by omega) (by omega) ⟨m - 1, by omega, rfl, rfl, rfl, rfl, rfl, rfl, rfl, rfl, rfl, rfl, rfl, rfl, by rw [i64_in (by omega) (by omega)]; omega, by omega, ?_⟩
    have e30 : (val B30 (ek.drop m) : Int) * 2 ^ min (Int.toNat (30 : Int)) IntKind.i64.bits = ((1073741824 * val B30 (ek.drop m) : Nat) : Int) := by
      have : min (Int.toNat (30 : Int)) IntKind.i64.bits = 30 := by decide
      rw [this]; omega
    rw [e30, i64_nat (by omega), ← Int.natCast_add, i64_nat (by omega), hd]
    omega
  · have hm0 : m = 0 := by have := of_decide_eq_false e0; omega
    subst hm0
    rw [List.drop_zero]
    have hj123 : ∀ (I : Nat → List Value → Heap → Prop) (nn : Nat) (od away : Bool), away = (half && (rest || decide (val B30 ek % 2 = 1))) → F237_j123 B R I nn neg e 0 (some ⟨r, 0, none⟩) sgn lw (val B30 ek : Int) od away h1 := by
      intro I nn od away ha
      rw [← ha] at hm'
      refine ⟨fun h => ?_, fun h => ?_⟩
      · rw [h, if_pos rfl] at hm'
        rw [i64_in (by omega) (by omega), show (val B30 ek : Int) + 1 = (Km : Int) by omega]
        exact fin I nn od
      · rw [h, if_neg (by decide)] at hm'
        rw [show (val B30 ek : Int) = (Km : Int) by omega]
        exact fin I nn od
    have hj111 : ∀ (I : Nat → List Value → Heap → Prop) (nn : Nat) (od : Bool), F237_j111 B R I nn neg e 0 (some ⟨r, 0, none⟩) sgn lw half rest (val B30 ek : Int) od h1 := by
      intro I nn od
      have h2 : decide (Int.tmod (val B30 ek : Int) (2 : Int) = (1 : Int)) = decide (val B30 ek % 2 = 1) := by rw [tm2, decide_eq_decide]; omega
      refine ⟨fun _ => ⟨fun hh => ⟨fun hr => hj123 I nn od true (by rw [hh, hr]; rfl), fun hr => ⟨by decide, ?_⟩⟩, fun hh => hj123 I nn od false (by rw [hh]; rfl)⟩, fun e => (by cases e)⟩
      rw [h2]
      exact hj123 I nn od _ (by rw [hh, hr]; simp)
    exact ⟨fun hh => hj111 _ _ true, fun hh => hj111 _ _ rest⟩
theorem cutTail {h1 : Heap} {r nk ck n c M : Nat} {L e sgn : Int} {neg : Bool} {p pk : Option Addr} {ek : List Nat} (D : DigI h1 p n (digs B30 M)) (hM : 0 < M) (hn : n ≤ 100000) (hL1 : -10000000 ≤ L - e) (hL2 : L - e ≤ 10000000)
    (Dk : DigI h1 pk nk ek) (hvk : val B30 ek = (if L - e < 0 then M * 2 ^ (e - L).toNat else M / 2 ^ (L - e).toNat)) (hkm : rn (M * 2 ^ (e - L).toNat) (L - e).toNat ≤ 9007199254740992)
    (fin : ∀ (I : Nat → List Value → Heap → Prop) (nn : Nat) (od : Bool), F237_j134 B R I nn neg e 0 (some ⟨r, 0, none⟩) sgn (L - e) ((rn (M * 2 ^ (e - L).toNat) (L - e).toNat : Nat) : Int) od h1) :
    F237_j63 B R neg p n c e false 0 (some ⟨r, 0, none⟩) sgn (L - e) pk nk ck h1 := by
  have hv : val B30 (digs B30 M) = M := digs_val (by decide) M
  have hvk53 : val B30 ek ≤ 9007199254740992 := by
    rw [hvk]
    split
    · have h0 : (L - e).toNat = 0 := by omega
      rw [h0, rn_zero] at hkm; exact hkm
    · have h0 : (e - L).toNat = 0 := by omega
      rw [h0, Nat.pow_zero, Nat.mul_one] at hkm
      exact Nat.le_trans (rn_le M (L - e).toNat).1 hkm
  have hnk : nk ≤ 2 := Dk.short (by rw [bl_le_iff]; exact Nat.lt_of_le_of_lt hvk53 (by decide))
  have e1 : IntKind.i64.wrap (L - e - 1) = L - e - 1 := i64_in (by omega) (by omega)
  unfold F237_j63
  rw [e1]
  refine K254 D.u (by omega) (by omega) ⟨_, rfl, fun e => (by cases e), fun _ => ?_⟩
  rw [hv]
  have end_ : ∀ rest : Bool, rest = (decide (0 < (L - e).toNat - 1) && decide (M % 2 ^ ((L - e).toNat - 1) ≠ 0)) →
      F237_j79 B R neg e 0 (some ⟨r, 0, none⟩) sgn (L - e) pk nk ck (decide (0 ≤ L - e - 1) && decide (M / 2 ^ (L - e - 1).toNat % 2 = 1)) rest h1 := by
    intro rest hrest
    refine cutLoop Dk hvk53 hnk ?_ fin
    have hhalf : (decide (0 ≤ L - e - 1) && decide (M / 2 ^ (L - e - 1).toNat % 2 = 1)) = (decide (0 < (L - e).toNat) && decide (M / 2 ^ ((L - e).toNat - 1) % 2 = 1)) := by
      have e1 : decide (0 ≤ L - e - 1) = decide (0 < (L - e).toNat) := by rw [decide_eq_decide]; omega
      have e2 : (L - e - 1).toNat = (L - e).toNat - 1 := by omega
      rw [e1, e2]
    rw [hhalf]
    by_cases hneg : L - e < 0
    · have h0 : (L - e).toNat = 0 := by omega
      rw [hvk, if_pos hneg, h0, rn_zero]; simp
    · have h0 : (e - L).toNat = 0 := by omega
      rw [hvk, if_neg hneg, h0, Nat.pow_zero, Nat.mul_one, rn_bits, hrest]
  refine ⟨fun e0 => ?_, fun e0 => ⟨fun e => (by cases e), fun _ => end_ false ?_⟩⟩
  · have hd1 : 0 < L - e - 1 := of_decide_eq_true e0
    refine K190 D.u (by omega) (fun h0 => by rw [hv] at h0; omega) fun t m ht => ⟨_, rfl, fun _ => K190 D.u (by omega) (fun h0 => by rw [hv] at h0; omega) fun t' m' ht' => ⟨_, rfl, ?_⟩, fun e1 => by have := of_decide_eq_false e1; omega⟩
    rw [hv] at ht'
    refine end_ _ ?_
    have h1' : decide (0 < (L - e).toNat - 1) = true := by rw [decide_eq_true_eq]; omega
    rw [h1', Bool.true_and, decide_eq_decide, low_mod ht']
    omega
  · have hd1 : ¬ 0 < L - e - 1 := of_decide_eq_false e0
    have h1' : decide (0 < (L - e).toNat - 1) = false := by rw [decide_eq_false_iff_not]; omega
    rw [h1']; rfl
/-- plumbref4.Kind.Cut, to the nearest, of a number other than 0. -/
theorem K237 {neg : Bool} {p : Option Addr} {n c M : Nat} {e : Int} (D : DigI h p n (digs B30 M)) (hM : 0 < M) (hn : n ≤ 100000) (he : -2097152 ≤ e) (he2 : e ≤ 2097152)
    (H : ∀ h' b, Ext h h' → R (.returned (.tuple #[.int .i64 (pat neg (rung M e)), .bool b])) h') :
    Ent Tryz.prog B 237 #[K64V, .bool neg, .slice p n c, .int .i64 e, .bool false, .int .i64 (0 : Int)] R h := by
  refine F237_ok _ _ _ _ _ _ _ _ _ _ _ _ (alK fun r h12 e11 f11 o11 z11 => ?_)
  have hv : val B30 (digs B30 M) = M := digs_val (by decide) M
  have hbl : bl M ≤ 3000000 := by
    have := bl_dig (k := 30) rfl D.dig
    rw [hv, D.len] at this; omega
  have hb1 : bl M = M.log2 + 1 := bl_eq (by omega)
  obtain ⟨k1, k2⟩ := kpt_bd e (show M ≠ 0 by omega)
  have hLge := lastP_ge M e
  have hLdef : lastP M e = max (e + M.log2 - 52) (-1074) := rfl
  have hkpt : kpt M e = rn (M * 2 ^ (e - lastP M e).toNat) (lastP M e - e).toNat := rfl
  have hrf := rung_form (m := M) e
  have main : ∀ sgn : Int, (sgn = if neg then -9223372036854775808 else 0) → F237_j18 B R neg p n c e false 0 (some ⟨r, 0, none⟩) sgn h12 := by
    intro sgn hs
    refine K253 (D.ext f11) (by omega) ⟨_, rfl, fun e0 => ?_, fun _ => ⟨fun e => (by cases e), fun _ => ⟨r, 0, rfl, r, 0, rfl, _, o11.cell _, r, 0, rfl, r, 0 + 1, rfl, _, o11.cell _, ?_⟩⟩⟩
    · rw [hv] at e0; have := of_decide_eq_true e0; omega
    rw [hv]
    have fin : ∀ h1, Ext h12 h1 → ∀ (I : Nat → List Value → Heap → Prop) (nn : Nat) (od : Bool), F237_j134 B R I nn neg e 0 (some ⟨r, 0, none⟩) sgn (lastP M e - e) ((rn (M * 2 ^ (e - lastP M e).toNat) (lastP M e - e).toNat : Nat) : Int) od h1 := by
      intro h1 f1 I nn od
      rw [← hkpt]
      refine cutFin (o11.ext f1) hs k1 k2 hLge (by omega) (by omega) (by omega) (fun h2 b f2 => ?_) I nn od
      have := H h2 b (Ext.trans f11 (Ext.trans f1 f2))
      rw [hrf] at this; exact this
    rw [hkpt] at k1
    clear hkpt hrf k2
    have ew : IntKind.i64.wrap ((if (-1074 : Int) > (IntKind.i64.wrap ((IntKind.i64.wrap ((bl M : Int) + e)) - (53 : Int))) then (-1074 : Int) else (IntKind.i64.wrap ((IntKind.i64.wrap ((bl M : Int) + e)) - (53 : Int)))) - e) = lastP M e - e := by
      rw [i64_in (x := (bl M : Int) + e) (by omega) (by omega), i64_in (x := (bl M : Int) + e - 53) (by omega) (by omega)]
      have : (if (-1074 : Int) > (bl M : Int) + e - 53 then (-1074 : Int) else (bl M : Int) + e - 53) = lastP M e := by split <;> omega
      rw [this]
      exact i64_in (by omega) (by omega)
    rw [ew]
    have hL1 : -10000000 ≤ lastP M e - e := by omega
    have hL2 : lastP M e - e ≤ 10000000 := by omega
    clear hLge hLdef ew
    generalize lastP M e = L at *
    have hif : ∀ x : Int, (if (0 : Int) > x then (0 : Int) else x) = ((x.toNat : Nat) : Int) := by intro x; split <;> omega
    rw [hif]
    refine K191 (D.u.ext f11) (by omega) (by omega) fun p57 n57 c57 e57 h54 f54 fr54 D57 h57 => ⟨_, _, _, rfl, fun e0 => ?_, fun e0 => ?_⟩
    · have hneg : L - e < 0 := of_decide_eq_true e0
      rw [i64_in (x := 0 - (L - e)) (by omega) (by omega), show 0 - (L - e) = (((e - L).toNat : Nat) : Int) by omega]
      refine K177 (D.u.ext (Ext.trans f11 f54)) (by omega) (by omega) fun p62 n62 c62 e62 h59 f59 fr59 D62 h62 => ⟨_, _, _, rfl, cutTail (D.ext (Ext.trans f11 (Ext.trans f54 f59))) hM hn hL1 hL2 D62 ?_ k1 (fin _ (Ext.trans f54 f59))⟩
      rw [h62, hv, if_pos hneg]
    · have hneg : ¬ L - e < 0 := of_decide_eq_false e0
      refine cutTail (D.ext (Ext.trans f11 f54)) hM hn hL1 hL2 D57 ?_ k1 (fin _ f54)
      rw [h57, hv, if_neg hneg]
  cases neg
  · exact ⟨fun e => (by cases e), fun _ => main 0 rfl⟩
  · exact ⟨fun _ => ⟨r, 0, rfl, r, 0 + 4, rfl, _, o11.cell _, main _ rfl⟩, fun e => (by cases e)⟩
end Go.Proofs
namespace Go.Proofs
open Go Go.Eng
variable {B : World} {R : Ending → Heap → Prop} {h : Heap}
/-- A cell of a block that is known, stored. -/
theorem _root_.Go.Eng.Own.stL {h : Heap} {b o : Nat} {l : List Value} {v : Value} {K : Heap → Prop} (H : Own h b l.toArray) (ho : o < l.length) (hv : oneCell v = true)
    (k : ∀ h', Own h' b (l.set o v).toArray → Fr (fun x => x = b) h h' → K h') : stC h b o v K :=
  H.stC (by simpa using ho) hv fun O f => k _ (by simpa using O) f
abbrev K64A : Array Value := #[.int .i64 (53 : Int), .int .i64 (-1074 : Int), .int .i64 (1024 : Int), .int .i64 (9218868437227405312 : Int), .int .i64 (-9223372036854775808 : Int)]
theorem copy6 {r s n c : Nat} {x0 x1 x2 x3 x4 x5 : Value} {b0 b1 b2 b3 : Bool} {p : Option Addr} {e : Int} (O : Own h r #[.bool b0, .bool b1, .bool b2, .bool b3, .slice p n c, .int .i64 e]) (O' : Own h s #[x0, x1, x2, x3, x4, x5])
    (H : ∀ h', Fr (fun x => x = s) h h' → R (.returned (.agg #[.bool b0, .bool b1, .bool b2, .bool b3, .slice p n c, .int .i64 e])) h') : F210_j117 B R (some ⟨s, 0, none⟩) (some ⟨r, 0, none⟩) h := by
  refine ⟨r, 0, rfl, _, O.cell _, _, O.cell _, _, O.cell _, _, O.cell _, _, _, _, O.cell _, _, O.cell _, s, 0, rfl, O'.stC (by simp) rfl fun a1 g1 => a1.stL (by simp) rfl fun _ a2 g2 => a2.stL (by simp) rfl fun _ a3 g3 => a3.stL (by simp) rfl fun _ a4 g4 => a4.stL (by simp) rfl fun _ a5 g5 => a5.stL (by simp) rfl fun _ a6 g6 => ?_⟩
  have f2 := Fr.trans (S := fun x => x = s) (Fr.trans (S := fun x => x = s) g1 g2 fun _ _ e => e) g3 fun _ _ e => e
  have f3 := Fr.trans (S := fun x => x = s) (Fr.trans (S := fun x => x = s) (Fr.trans (S := fun x => x = s) f2 g4 fun _ _ e => e) g5 fun _ _ e => e) g6 fun _ _ e => e
  exact ⟨s, 0, rfl, _, a6.cell _, _, a6.cell _, _, a6.cell _, _, a6.cell _, _, _, _, a6.cell _, _, a6.cell _, H _ f3⟩
/-- plumbref4.Kind.Look, of a binary64. -/
theorem K210 {b : Int} (hb : I64 b) (H : ∀ xneg p n c e h', Ext h h' → NumS 1074 h' xneg p n e (fW b) → R (.returned (.agg #[.bool (decide (b < 0)), .bool (isNaN b), .bool (isInf b), .bool xneg, .slice p n c, .int .i64 e])) h') :
    Ent Tryz.prog B 210 #[K64V, .int .i64 b] R h := by
  refine F210_ok _ _ _ _ _ _ (alK fun r7 h8 e7 f7 o7 z7 => alK fun r9 h10 e9 f9 o9 z9 => K84 hb ⟨_, rfl, alK fun r16 h17 e16 f16 o16 z16 => ?_⟩)
  have O7 := (o7.ext f9).ext f16
  have O9 := o9.ext f16
  have F := Ext.trans f7 (Ext.trans f9 f16)
  refine ⟨r16, 0, rfl, o16.stL (by simp) rfl fun _ a1 g1 => a1.stL (by simp) rfl fun _ a2 g2 => a2.stL (by simp) rfl fun _ a3 g3 => a3.stL (by simp) rfl fun _ a4 g4 => a4.stL (by simp) rfl fun _ a5 g5 => a5.stL (by simp) rfl fun _ a6 g6 => ?_⟩
  have k2 := Fr.trans (S := fun x => x = r16) (Fr.trans (S := fun x => x = r16) g1 g2 fun _ _ e => e) g3 fun _ _ e => e
  have k3 := Fr.trans (S := fun x => x = r16) (Fr.trans (S := fun x => x = r16) (Fr.trans (S := fun x => x = r16) k2 g4 fun _ _ e => e) g5 fun _ _ e => e) g6 fun _ _ e => e
  have n7 : ¬ r7 = r16 := by omega
  have n9 : ¬ r9 = r16 := by omega
  refine ⟨r7, 0, rfl, r7, 0, rfl, _, (O7.fr k3 n7).cell _, fun e => (by cases e), fun _ => ?_⟩
  unfold F210_j41
  rw [cls_nan, cls_inf, cls_fin]
  refine ⟨r16, 0, rfl, r16, 0 + 1, rfl, a6.stL (by simp) rfl fun _ a7 g7 => ⟨r16, 0, rfl, r16, 0 + 2, rfl, a7.stL (by simp) rfl fun _ a8 g8 => ?_⟩⟩
  have k4 := Fr.trans (S := fun x => x = r16) (Fr.trans (S := fun x => x = r16) k3 g7 fun _ _ e => e) g8 fun _ _ e => e
  have Q7 := O7.fr k4 n7
  have Q9 := O9.fr k4 n9
  have F8 : Ext h _ := Fr.trans F k4 fun x hx e => by omega
  have A8 : Own _ r16 #[.bool (decide (b < 0)), .bool (isNaN b), .bool (isInf b), .bool false, .slice none 0 0, .int .i64 0] := a8
  refine ⟨fun e0 => ⟨r7, 0, rfl, r7, 0, rfl, _, Q7.cell _, fun _ => ?_, fun e => (by cases e)⟩, fun e0 => ⟨fun e => (by cases e), fun _ => ?_⟩⟩
  · have hfW : fW b = fV b := by unfold fW; rw [if_pos e0]
    refine K114 hb e0 fun neg p n c e h72 f72 fr72 N => ⟨_, _, _, _, _, rfl, r16, 0, rfl, r16, 0 + 3, rfl, ?_⟩
    refine (A8.ext f72).stL (by simp) rfl fun _ b1 m1 => b1.stL (by simp) rfl fun _ b2 m2 => b2.stL (by simp) rfl fun _ b3 m3 => ?_
    have mm := Fr.trans (S := fun x => x = r16) (Fr.trans (S := fun x => x = r16) m1 m2 fun _ _ e => e) m3 fun _ _ e => e
    have Q7' := (Q7.ext f72).fr mm n7
    have Q9' := (Q9.ext f72).fr mm n9
    have B3 : Own _ r16 #[.bool (decide (b < 0)), .bool (isNaN b), .bool (isInf b), .bool neg, .slice p n c, .int .i64 e] := b3
    have s8 := k4.size
    have hs17 : h17.size = h10.size + 1 := z16
    have tl : F210_j117 B R (some ⟨r9, 0, none⟩) (some ⟨r16, 0, none⟩) _ := copy6 B3 Q9' fun h' f => by
      refine H neg p n c e h' (Fr.trans (Fr.trans (Ext.trans F8 f72) mm fun x hx e => by omega) f fun x hx e => by omega) ?_
      rw [hfW]
      exact (N.fr mm fun b o e e4 => by have := fr72 b o e; omega).fr f fun b o e e4 => by have := fr72 b o e; omega
    unfold F210_j85
    rw [cls_fin, e0]
    exact ⟨fun _ => ⟨r7, 0, rfl, r7, 0, rfl, _, Q7'.cell _, fun e => (by cases e), fun _ => tl⟩, fun e => (by cases e)⟩
  · have hfW : fW b = 0 := by unfold fW; rw [e0]; rfl
    have tl : F210_j117 B R (some ⟨r9, 0, none⟩) (some ⟨r16, 0, none⟩) _ := copy6 A8 Q9 fun h' f => by
      refine H false none 0 0 0 h' (Fr.trans F8 f fun x hx e => by omega) ?_
      rw [hfW]; exact numS_zero _ _
    unfold F210_j85
    rw [cls_fin, e0]
    exact ⟨fun e => (by cases e), fun _ => ⟨fun e => (by cases e), fun _ => tl⟩⟩
/-- What a number in its one form tells of its value. -/
theorem NumS.zero_iff {K : Nat} {xneg : Bool} {p : Option Addr} {n : Nat} {e v : Int} (N : NumS K h xneg p n e v) : decide (((n : Nat) : Int) = (0 : Int)) = decide (v = 0) := by
  obtain ⟨M, I, a1, a2⟩ := N
  rw [decide_eq_decide]
  rcases numI_cases I with ⟨q, _⟩ | q
  · have := I.d.len
    rw [q, digs_zero] at this
    have hv : v = 0 := by rw [a2, q]; unfold Ieee.signed; simp
    simp at this; omega
  · have := I.d.len
    rw [digs_ne (by decide) (by omega)] at this
    have hv : v ≠ 0 := by rw [a2]; exact signed_ne (by omega)
    simp at this; omega
/-- Cut of a number in its one form. -/
theorem cutN {K : Nat} {xneg : Bool} {p : Option Addr} {n c : Nat} {e v : Int} (N : NumS K h xneg p n e v) (hv : v ≠ 0)
    (H : ∀ h' b, Ext h h' → R (.returned (.tuple #[.int .i64 (pat (decide (v < 0)) (rung v.natAbs (-(K : Int)))), .bool b])) h') :
    Ent Tryz.prog B 237 #[K64V, .bool xneg, .slice p n c, .int .i64 e, .bool false, .int .i64 (0 : Int)] R h := by
  obtain ⟨M, I, a1, a2⟩ := N
  rcases numI_cases I with ⟨q, _⟩ | q
  · exfalso; apply hv; rw [a2, q]; unfold Ieee.signed; simp
  · have hM : M ≠ 0 := by omega
    have hn : 0 < n := by
      rw [← I.d.len, digs_ne (by decide) hM]; simp
    obtain ⟨p1, p2, p3⟩ := I.pos hn
    have le := I.le
    have h1 : rung v.natAbs (-(K : Int)) = rung M e := by
      rw [a2, signed_abs, rung_scale _ _ hM]; congr 1; omega
    have h2 : decide (v < 0) = xneg := by rw [a2]; exact signed_neg hM
    rw [h1, h2] at H
    exact K237 I.d (by omega) (by omega) (by omega) (by omega) H
/-- plumbref4.Kind.plus, to the nearest. -/
theorem K209 {sa na ia xa sb nb ib xb : Bool} {pa pb : Option Addr} {la lb ca cb : Nat} {ea eb va vb : Int} (Na : NumS 1074 h xa pa la ea va) (Nb : NumS 1074 h xb pb lb eb vb) (hva : bl va.natAbs ≤ 40000) (hvb : bl vb.natAbs ≤ 40000)
    (hsa : va ≠ 0 → sa = decide (va < 0)) (hsb : vb ≠ 0 → sb = decide (vb < 0)) (H : ∀ h', Ext h h' → R (.returned (.int .i64 (plusP na ia sa va nb ib sb vb))) h') :
    Ent Tryz.prog B 209 #[K64V, .agg #[.bool sa, .bool na, .bool ia, .bool xa, .slice pa la ca, .int .i64 ea], .agg #[.bool sb, .bool nb, .bool ib, .bool xb, .slice pb lb cb, .int .i64 eb], .int .i64 (0 : Int)] R h := by
  refine F209_ok _ _ _ _ _ _ _ _ _ _ _ _ _ _ _ _ _ _ _ _ _ _ (alK fun r19 h20 e19 f19 o19 z19 => alK fun r21 h22 e21 f21 o21 z21 => alK fun r23 h24 e23 f23 o23 z23 => ?_)
  have O19 := (o19.ext f21).ext f23
  have O21 := o21.ext f23
  have F := Ext.trans f19 (Ext.trans f21 f23)
  have J : ∀ c : Bool, c = (na || nb || (ia && ib && (sa != sb))) → F209_j30 B R 0 (some ⟨r19, 0, none⟩) (some ⟨r21, 0, none⟩) (some ⟨r23, 0, none⟩) c h24 := by
    intro c hc
    unfold plusP at H
    rw [← hc] at H
    refine ⟨fun e => ?_, fun e => ?_⟩
    · rw [if_pos e] at H
      exact ⟨r19, 0, rfl, _, O19.cell _, _, O19.cell _, _, O19.cell _, _, O19.cell _, _, O19.cell _, K234 fun h' f => ⟨_, rfl, H h' (Ext.trans F f)⟩⟩
    · rw [if_neg (by rw [e]; decide)] at H
      refine ⟨r21, 0, rfl, r21, 0 + 2, rfl, _, O21.cell _, fun e1 => ?_, fun e1 => ⟨r23, 0, rfl, r23, 0 + 2, rfl, _, o23.cell _, fun e2 => ?_, fun e2 => ?_⟩⟩
      · rw [if_pos e1] at H
        exact ⟨r19, 0, rfl, _, O19.cell _, _, O19.cell _, _, O19.cell _, _, O19.cell _, _, O19.cell _, r21, 0, rfl, r21, 0, rfl, _, O21.cell _, r19, 0, rfl, r19, 0 + 3, rfl, _, O19.cell _,
          K235 (b := 9218868437227405312) (by decide) fun h' f => ⟨_, rfl, H h' (Ext.trans F f)⟩⟩
      · rw [if_neg (by rw [e1]; decide), if_pos e2] at H
        exact ⟨r19, 0, rfl, _, O19.cell _, _, O19.cell _, _, O19.cell _, _, O19.cell _, _, O19.cell _, r23, 0, rfl, r23, 0, rfl, _, o23.cell _, r19, 0, rfl, r19, 0 + 3, rfl, _, O19.cell _,
          K235 (b := 9218868437227405312) (by decide) fun h' f => ⟨_, rfl, H h' (Ext.trans F f)⟩⟩
      · rw [if_neg (by rw [e1]; decide), if_neg (by rw [e2]; decide)] at H
        refine ⟨r21, 0, rfl, r21, 0 + 3, rfl, _, O21.cell _, _, _, _, O21.cell _, _, O21.cell _, r23, 0, rfl, r23, 0 + 3, rfl, _, o23.cell _, _, _, _, o23.cell _, _, o23.cell _, ?_⟩
        refine K133 (Na.ext F) (Nb.ext F) (by decide) (by omega) (by omega) fun neg' p' n' c' e' h118 f118 N => ⟨_, _, _, _, _, rfl, ?_⟩
        refine alK fun r124 h125 e124 f124 o124 z124 => ⟨r124, 0, rfl, o124.stL (by simp) rfl fun _ b1 m1 => b1.stL (by simp) rfl fun _ b2 m2 => b2.stL (by simp) rfl fun _ b3 m3 => ?_⟩
        have mm := Fr.trans (S := fun x => x = r124) (Fr.trans (S := fun x => x = r124) m1 m2 fun _ _ e => e) m3 fun _ _ e => e
        have F130 : Ext h118 _ := Fr.trans f124 mm fun x hx e => by omega
        have FX := Ext.trans f118 F130
        have F3 := Ext.trans F FX
        have B3 : Own _ r124 #[.bool neg', .slice p' n' c', .int .i64 e'] := b3
        have P19 := O19.ext FX
        have P21 := O21.ext FX
        have P23 := o23.ext FX
        have N3 := N.ext F130
        refine ⟨r124, 0, rfl, r124, 0 + 1, rfl, _, _, _, B3.cell _, ?_⟩
        rw [N3.zero_iff]
        refine ⟨fun e3 => ?_, fun e3 => ?_⟩
        · have hz : va + vb = 0 := of_decide_eq_true e3
          rw [if_pos hz, hz] at H
          have hr0 : rung (0 : Int).natAbs (-1074) = 0 := rung_zero
          rw [hr0] at H
          have tl : ∀ (c : Bool) (hh : Heap), Ext h hh → Own hh r19 K64A → Own hh r21 #[.bool sa, .bool na, .bool ia, .bool xa, .slice pa la ca, .int .i64 ea] → ((c = true → sa = (sa && sb)) ∧ (c = false → (sa && sb) = false)) → F209_j172 B R 0 (some ⟨r19, 0, none⟩) (some ⟨r21, 0, none⟩) c hh := by
            intro c hh fh q19 q21 hc2
            refine ⟨fun e => ?_, fun e => ?_⟩
            · refine ⟨r19, 0, rfl, _, q19.cell _, _, q19.cell _, _, q19.cell _, _, q19.cell _, _, q19.cell _, r21, 0, rfl, r21, 0, rfl, _, q21.cell _, K235 (b := 0) (by decide) fun h' f => ⟨_, rfl, ?_⟩⟩
              have := H h' (Ext.trans fh f)
              rw [← hc2.1 e] at this
              exact this
            · refine ⟨r19, 0, rfl, _, q19.cell _, _, q19.cell _, _, q19.cell _, _, q19.cell _, _, q19.cell _, K235 (b := 0) (by decide) fun h' f => ⟨_, rfl, ?_⟩⟩
              have := H h' (Ext.trans fh f)
              rw [hc2.2 e] at this
              exact this
          refine ⟨r21, 0, rfl, _, P21.cell _, _, P21.cell _, _, P21.cell _, _, P21.cell _, _, _, _, P21.cell _, _, P21.cell _, K236 (Na.ext F3) fun h145 f145 => ⟨_, rfl, fun e4 => ?_, fun e4 => ⟨fun e => (by cases e), fun _ => ?_⟩⟩⟩
          · have Q21 := P21.ext f145
            have Q23 := P23.ext f145
            refine ⟨r23, 0, rfl, _, Q23.cell _, _, Q23.cell _, _, Q23.cell _, _, Q23.cell _, _, _, _, Q23.cell _, _, Q23.cell _, K236 ((Nb.ext F3).ext f145) fun h158 f158 => ⟨_, rfl, fun e5 => ?_, fun e5 => ?_⟩⟩
            · have S21 := Q21.ext f158
              have S23 := Q23.ext f158
              refine ⟨r21, 0, rfl, r21, 0, rfl, _, S21.cell _, r23, 0, rfl, r23, 0, rfl, _, S23.cell _, tl _ _ (Ext.trans F3 (Ext.trans f145 f158)) ((P19.ext f145).ext f158) S21 ⟨fun e => ?_, fun e => ?_⟩⟩
              · have : sa = sb := by simpa using e
                subst this; simp
              · cases sa <;> cases sb <;> simp at e ⊢
            · refine tl false _ (Ext.trans F3 (Ext.trans f145 f158)) ((P19.ext f145).ext f158) (Q21.ext f158) ⟨fun e => (by cases e), fun _ => ?_⟩
              have hvb0 : vb ≠ 0 := by
                intro h0
                unfold zr at e4 e5
                simp only [Bool.and_eq_true, Bool.not_eq_true', decide_eq_true_eq] at e4
                rw [h0] at e5
                cases nb <;> cases ib <;> simp at e5
                · simp at e2
                · have hh := hc.symm
                  rw [e] at hh
                  simp at hh
                · have hh := hc.symm
                  rw [e] at hh
                  simp at hh
              have hva0 : va ≠ 0 := by omega
              rw [hsa hva0, hsb hvb0]
              by_cases hn : va < 0
              · have : ¬ vb < 0 := by omega
                simp [this]
              · simp [hn]
          · refine tl false _ (Ext.trans F3 f145) (P19.ext f145) (P21.ext f145) ⟨fun e => (by cases e), fun _ => ?_⟩
            have hva0 : va ≠ 0 := by
              intro h0
              unfold zr at e4
              rw [h0] at e4
              cases na <;> cases ia <;> simp at e4
              · simp at e1
              · have hh := hc.symm
                rw [e] at hh
                simp at hh
              · have hh := hc.symm
                rw [e] at hh
                simp at hh
            have hvb0 : vb ≠ 0 := by omega
            rw [hsa hva0, hsb hvb0]
            by_cases hn : va < 0
            · have : ¬ vb < 0 := by omega
              simp [this]
            · simp [hn]
        · have hz : va + vb ≠ 0 := of_decide_eq_false e3
          rw [if_neg hz] at H
          refine ⟨r19, 0, rfl, _, P19.cell _, _, P19.cell _, _, P19.cell _, _, P19.cell _, _, P19.cell _, r124, 0, rfl, r124, 0, rfl, _, B3.cell _, r124, 0, rfl, r124, 0 + 1, rfl, _, _, _, B3.cell _, r124, 0, rfl, r124, 0 + 2, rfl, _, B3.cell _, ?_⟩
          exact cutN N3 hz fun h' b f => ⟨_, _, rfl, H h' (Ext.trans F3 f)⟩
  cases na
  · refine ⟨r21, 0, rfl, r21, 0 + 1, rfl, _, O21.cell _, fun e => (by cases e), fun _ => ⟨r23, 0, rfl, r23, 0 + 1, rfl, _, o23.cell _, ?_⟩⟩
    cases nb
    · refine ⟨fun e => (by cases e), fun _ => ⟨r21, 0, rfl, r21, 0 + 2, rfl, _, O21.cell _, ?_⟩⟩
      cases ia
      · exact ⟨fun e => (by cases e), fun _ => ⟨fun e => (by cases e), fun _ => J false rfl⟩⟩
      · refine ⟨fun _ => ⟨r23, 0, rfl, r23, 0 + 2, rfl, _, o23.cell _, ?_⟩, fun e => (by cases e)⟩
        cases ib
        · exact ⟨fun e => (by cases e), fun _ => J false rfl⟩
        · exact ⟨fun _ => ⟨r21, 0, rfl, r21, 0, rfl, _, O21.cell _, r23, 0, rfl, r23, 0, rfl, _, o23.cell _, J _ rfl⟩, fun e => (by cases e)⟩
    · exact ⟨fun _ => J true rfl, fun e => (by cases e)⟩
  · exact ⟨r21, 0, rfl, r21, 0 + 1, rfl, _, O21.cell _, fun _ => ⟨fun _ => J true rfl, fun e => (by cases e)⟩, fun e => (by cases e)⟩
end Go.Proofs
namespace Go.Proofs
open Go Go.Eng
variable {B : World} {R : Ending → Heap → Prop} {h : Heap}
theorem sameN {h h' : Heap} {b o : Nat} {cs : Array Value} {S : Nat → Prop} (H : Own h b cs) (f : Fr S h h') (hb : ¬ S b) : ∀ n, sameCells h h' b o n
  | 0 => trivial
  | 1 => same1 H f hb
  | n + 2 => ⟨sameN H f hb (n + 1), by rw [H.cell, (H.fr f hb).cell]⟩
theorem fW_bl (b : Int) : bl (fW b).natAbs ≤ 2100 := by
  unfold fW
  split
  · exact fV_bl (by assumption)
  · decide
theorem fW_sign (b : Int) (h : fW b ≠ 0) : decide (b < 0) = decide (fW b < 0) := by
  unfold fW at h ⊢
  split at h
  · rename_i hf
    rw [if_pos hf]
    have hM : fM b ≠ 0 := fun h0 => h (fV_zero.2 h0)
    exact (signed_neg hM).symm
  · exact absurd rfl h
/-- plumbref4.Kind.Add. -/
theorem K187 {a b : Int} (ha : I64 a) (hb : I64 b) (H : ∀ h', Ext h h' → R (.returned (.int .i64 (addP a b))) h') : Ent Tryz.prog B 187 #[K64V, .int .i64 a, .int .i64 b, .int .i64 (0 : Int)] R h := by
  refine F187_ok _ _ _ _ _ _ _ _ (alK fun r h10 e9 f9 o z9 => ?_)
  refine ⟨r, 0, rfl, _, o.cell _, _, o.cell _, _, o.cell _, _, o.cell _, _, o.cell _, r, 0, rfl, _, o.cell _, _, o.cell _, _, o.cell _, _, o.cell _, _, o.cell _, r, 0, rfl, _, o.cell _, _, o.cell _, _, o.cell _, _, o.cell _, _, o.cell _, ?_⟩
  refine K210 ha fun xa pa na ca ea h33 f33 Na => ⟨_, _, _, _, _, _, _, _, rfl, sameN o f33 id 5, sameN o f33 id 5, ?_⟩
  refine K210 hb fun xb pb nb cb eb h43 f43 Nb => ⟨_, _, _, _, _, _, _, _, rfl, sameN (o.ext f33) f43 id 5, ?_⟩
  exact K209 (Na.ext f43) Nb (by have := fW_bl a; omega) (by have := fW_bl b; omega) (fW_sign a) (fW_sign b) fun h' f => ⟨_, rfl, H h' (Ext.trans f9 (Ext.trans f33 (Ext.trans f43 f)))⟩
end Go.Proofs
namespace Go.Proofs
open Go Go.Eng
variable {B : World} {R : Ending → Heap → Prop} {h : Heap}
/-- plumbref4.Kind.Sub. -/
theorem K189 {a b : Int} (ha : I64 a) (hb : I64 b) (H : ∀ h', Ext h h' → R (.returned (.int .i64 (subP a b))) h') : Ent Tryz.prog B 189 #[K64V, .int .i64 a, .int .i64 b, .int .i64 (0 : Int)] R h := by
  refine F189_ok _ _ _ _ _ _ _ _ (alK fun r h10 e9 f9 o z9 => ?_)
  refine ⟨r, 0, rfl, _, o.cell _, _, o.cell _, _, o.cell _, _, o.cell _, _, o.cell _, ?_⟩
  refine K210 hb fun xb pb nb cb eb h19 f19 Nb => ⟨_, _, _, _, _, _, _, _, rfl, alK fun r28 h29 e28 f28 o28 z28 => ⟨r28, 0, rfl, ?_⟩⟩
  refine o28.stL (by simp) rfl fun _ a1 g1 => a1.stL (by simp) rfl fun _ a2 g2 => a2.stL (by simp) rfl fun _ a3 g3 => a3.stL (by simp) rfl fun _ a4 g4 => a4.stL (by simp) rfl fun _ a5 g5 => a5.stL (by simp) rfl fun h37 a6 g6 => ?_
  have k2 := Fr.trans (S := fun x => x = r28) (Fr.trans (S := fun x => x = r28) g1 g2 fun _ _ e => e) g3 fun _ _ e => e
  have k3 := Fr.trans (S := fun x => x = r28) (Fr.trans (S := fun x => x = r28) (Fr.trans (S := fun x => x = r28) k2 g4 fun _ _ e => e) g5 fun _ _ e => e) g6 fun _ _ e => e
  have A6 : Own h37 r28 #[.bool (decide (b < 0)), .bool (isNaN b), .bool (isInf b), .bool xb, .slice pb nb cb, .int .i64 eb] := a6
  refine ⟨r28, 0, rfl, r28, 0, rfl, _, A6.cell _, r28, 0, rfl, r28, 0, rfl, A6.stL (by simp) rfl fun h47 a7 g7 => ?_⟩
  have k4 := Fr.trans (S := fun x => x = r28) k3 g7 fun _ _ e => e
  have A7 : Own h47 r28 #[.bool (!decide (b < 0)), .bool (isNaN b), .bool (isInf b), .bool xb, .slice pb nb cb, .int .i64 eb] := a7
  have F47 : Ext h19 h47 := Fr.trans f28 k4 fun x hx e => by omega
  refine ⟨r28, 0, rfl, r28, 0 + 3, rfl, _, A7.cell _, _, _, _, A7.cell _, _, A7.cell _, K213 (Nb.ext F47) fun xb' h56 f56 Nb' => ⟨_, _, _, _, _, rfl, r28, 0, rfl, r28, 0 + 3, rfl, ?_⟩⟩
  refine (A7.ext f56).stL (by simp) rfl fun _ b1 m1 => b1.stL (by simp) rfl fun _ b2 m2 => b2.stL (by simp) rfl fun h68 b3 m3 => ?_
  have mm := Fr.trans (S := fun x => x = r28) (Fr.trans (S := fun x => x = r28) m1 m2 fun _ _ e => e) m3 fun _ _ e => e
  have B3 : Own h68 r28 #[.bool (!decide (b < 0)), .bool (isNaN b), .bool (isInf b), .bool xb', .slice pb nb cb, .int .i64 eb] := b3
  have s19 := f19.size
  have l := o.lt
  have F68 : Ext h19 h68 := Fr.trans (Ext.trans F47 f56) mm fun x hx e => by omega
  have O68 := (o.ext f19).ext F68
  have hpb : ∀ bb o, pb = some (⟨bb, o, none⟩ : Addr) → (nb ≠ 0 → bb < h19.size) := by
    intro bb o e hn
    obtain ⟨M, I, _⟩ := Nb
    have hl := I.d.len
    rcases I.d.sl with h0 | ⟨b', o', cs, e1, e2, _⟩
    · rw [h0] at hl; simp at hl; omega
    · rw [e] at e1; cases e1; exact e2.lt
  have Nb3 : NumS 1074 h68 xb' pb nb eb (-fW b) := by
    obtain ⟨M, I, a1, a2⟩ := Nb'
    refine ⟨M, ⟨⟨I.d.pt, ?_, I.d.len, I.d.dig, I.d.trim⟩, I.le, I.zero, I.pos⟩, a1, a2⟩
    by_cases hn : nb = 0
    · left; exact List.eq_nil_of_length_eq_zero (by rw [I.d.len]; exact hn)
    · exact I.d.sl.fr mm fun bb o e _ => by have := hpb bb o e hn; omega
  refine ⟨r, 0, rfl, _, O68.cell _, _, O68.cell _, _, O68.cell _, _, O68.cell _, _, O68.cell _, r, 0, rfl, _, O68.cell _, _, O68.cell _, _, O68.cell _, _, O68.cell _, _, O68.cell _, r28, 0, rfl, _, B3.cell _, _, B3.cell _, _, B3.cell _, _, B3.cell _, _, _, _, B3.cell _, _, B3.cell _, ?_⟩
  refine K210 ha fun xa pa na ca ea h92 f92 Na => ⟨_, _, _, _, _, _, _, _, rfl, sameN B3 f92 id 6, sameN O68 f92 id 5, ?_⟩
  refine K209 Na (Nb3.ext f92) (by have := fW_bl a; omega) (by rw [Int.natAbs_neg]; have := fW_bl b; omega) (fW_sign a) (fun hne => ?_) fun h' f => ⟨_, rfl, H h' (Ext.trans f9 (Ext.trans f19 (Ext.trans F68 (Ext.trans f92 f))))⟩
  have hb0 : fW b ≠ 0 := by omega
  rw [fW_sign b hb0]
  by_cases h1 : fW b < 0
  · have : ¬ -fW b < 0 := by omega
    simp only [h1, this, decide_true, decide_false, Bool.not_true]
  · have : -fW b < 0 := by omega
    simp only [h1, this, decide_true, decide_false, Bool.not_false]
theorem K155 {a b : Int} (ha : I64 a) (hb : I64 b) (H : ∀ h', Ext h h' → R (.returned (.int .i64 (addP a b))) h') : Ent Tryz.prog B 155 #[.int .i64 a, .int .i64 b] R h :=
  F155_ok _ _ (K186 fun h1 f1 => ⟨_, _, _, _, _, rfl, K187 ha hb fun h2 f2 => ⟨_, rfl, H h2 (Ext.trans f1 f2)⟩⟩)
theorem K157 {a b : Int} (ha : I64 a) (hb : I64 b) (H : ∀ h', Ext h h' → R (.returned (.int .i64 (subP a b))) h') : Ent Tryz.prog B 157 #[.int .i64 a, .int .i64 b] R h :=
  F157_ok _ _ (K186 fun h1 f1 => ⟨_, _, _, _, _, rfl, K189 ha hb fun h2 f2 => ⟨_, rfl, H h2 (Ext.trans f1 f2)⟩⟩)
theorem K132 {a b : Int} (ha : I64 a) (hb : I64 b) (H : ∀ h', Ext h h' → R (.returned (.int .i64 (addP a b))) h') : Ent Tryz.prog B 132 #[.int .i64 a, .int .i64 b] R h :=
  F132_ok _ _ (K155 ha hb fun h2 f2 => ⟨_, rfl, H h2 f2⟩)
theorem K110 {a b : Int} (ha : I64 a) (hb : I64 b) (H : ∀ h', Ext h h' → R (.returned (.int .i64 (subP a b))) h') : Ent Tryz.prog B 110 #[.int .i64 a, .int .i64 b] R h :=
  F110_ok _ _ (K157 ha hb fun h2 f2 => ⟨_, rfl, H h2 f2⟩)
theorem K111 {a b : Int} (ha : I64 a) (hb : I64 b) (H : R (.returned (.bool (isFin a && isFin b))) h) : Ent Tryz.prog B 111 #[.int .i64 a, .int .i64 b] R h := by
  refine F111_ok _ _ (K79 ha ⟨_, rfl, fun e => K79 hb ⟨_, rfl, ?_⟩, fun e => ?_⟩)
  · rw [e] at H; exact H
  · rw [e] at H; exact H
theorem NaNP_I64 : I64 NaNP := by unfold I64 NaNP; omega
theorem plusP_I64 (na ia sa : Bool) (va : Int) (nb ib sb : Bool) (vb : Int) : I64 (plusP na ia sa va nb ib sb vb) := by
  unfold plusP
  split
  · exact NaNP_I64
  · split
    · exact pat_I64 (by decide)
    · split
      · exact pat_I64 (by decide)
      · exact pat_I64 (by have := rung_lt (va + vb).natAbs (-1074); omega)
theorem addP_I64 (a b : Int) : I64 (addP a b) := plusP_I64 _ _ _ _ _ _ _ _
theorem subP_I64 (a b : Int) : I64 (subP a b) := plusP_I64 _ _ _ _ _ _ _ _
theorem mulP_I64 (a b : Int) : I64 (mulP a b) := by
  unfold mulP timesP
  split
  · exact NaNP_I64
  · split
    · exact pat_I64 (by decide)
    · exact pat_I64 (by have := rung_lt (fW a * fW b).natAbs (-2148); omega)
theorem NumS.up {K : Nat} {neg : Bool} {p : Option Addr} {n : Nat} {e v : Int} (N : NumS K h neg p n e v) (d : Nat) : NumS (K + d) h neg p n e (v * ((2 ^ d : Nat) : Int)) := by
  obtain ⟨M, I, a1, a2⟩ := N
  refine ⟨M, I, by omega, ?_⟩
  rw [show (e + ((K + d : Nat) : Int)).toNat = (e + (K : Int)).toNat + d by omega, signed_add, a2]
/-- Are h and l together just x, in units of 2^-K? -/
def justP (K : Nat) (h l x : Int) : Bool := isFin h && isFin l && decide ((fV h + fV l) * ((2 ^ (K - 1074) : Nat) : Int) = x)
/-- plumbref6.just. -/
theorem K112 {hh l : Int} {K : Nat} {neg : Bool} {p : Option Addr} {n c : Nat} {e x : Int} (hhh : I64 hh) (hl : I64 l) (N : NumS K h neg p n e x) (hK1 : 1074 ≤ K) (hK : K ≤ 1048576)
    (H : ∀ h', Ext h h' → R (.returned (.bool (justP K hh l x))) h') : Ent Tryz.prog B 112 #[.int .i64 hh, .int .i64 l, .agg #[.bool neg, .slice p n c, .int .i64 e]] R h := by
  refine F112_ok _ _ _ _ _ _ _ (alK fun r6 h7 e6 f6 o6 z6 => K79 hhh ⟨_, rfl, fun e1 => ?_, fun e1 => K79 hl ⟨_, rfl, ?_⟩⟩)
  · have h1 : isFin hh = false := by simpa using e1
    have := H _ f6
    unfold justP at this
    rw [h1] at this
    exact ⟨fun _ => this, fun e => (by cases e)⟩
  · have h1 : isFin hh = true := by simpa using e1
    refine ⟨fun e2 => ?_, fun e2 => ?_⟩
    · have h2 : isFin l = false := by simpa using e2
      have := H _ f6
      unfold justP at this
      rw [h2, Bool.and_false] at this
      exact this
    · have h2 : isFin l = true := by simpa using e2
      refine ⟨r6, 0, rfl, _, o6.cell _, _, _, _, o6.cell _, _, o6.cell _, ?_⟩
      refine K114 hhh h1 fun n1 p1 l1 c1 e3 h25 f25 _ N1 => ⟨_, _, _, _, _, rfl, sameN o6 f25 id 3, ?_⟩
      refine K114 hl h2 fun n2 p2 l2 c2 e4 h32 f32 _ N2 => ⟨_, _, _, _, _, rfl, sameN (o6.ext f25) f32 id 3, ?_⟩
      refine K133 (N1.ext f32) N2 (by decide) (by have := fV_bl h1; omega) (by have := fV_bl h2; omega) fun n3 p3 l3 c3 e5 h39 f39 N3 => ⟨_, _, _, _, _, rfl, sameN ((o6.ext f25).ext f32) f39 id 3, ?_⟩
      have N3' := N3.up (K - 1074)
      rw [show 1074 + (K - 1074) = K by omega] at N3'
      have FX := Ext.trans f6 (Ext.trans f25 (Ext.trans f32 f39))
      refine K104 N3' (N.ext FX) fun h' f => ⟨_, rfl, ?_⟩
      have := H h' (Ext.trans FX f)
      unfold justP at this
      rw [h1, h2] at this
      exact this
/-- The parts of a sum, and of a product, by single operations. -/
def sumH (a b : Int) : Int := addP a b
def sumL (a b : Int) : Int := addP (subP a (subP (addP a b) (subP (addP a b) a))) (subP b (subP (addP a b) a))
def sumOk (h l a b : Int) : Bool := isFin a && isFin b && justP 1074 h l (fV a + fV b)
abbrev FAC : Int := 4728779608772575232
def splH (a : Int) : Int := subP (mulP FAC a) (subP (mulP FAC a) a)
def splL (a : Int) : Int := subP a (splH a)
def prdH (a b : Int) : Int := mulP a b
def prdL (a b : Int) : Int :=
  subP (mulP (splL a) (splL b)) (subP (subP (subP (mulP a b) (mulP (splH a) (splH b))) (mulP (splL a) (splH b))) (mulP (splH a) (splL b)))
def prdOk (a b : Int) : Bool := isFin a && isFin b && justP 2148 (prdH a b) (prdL a b) (fV a * fV b)
end Go.Proofs
