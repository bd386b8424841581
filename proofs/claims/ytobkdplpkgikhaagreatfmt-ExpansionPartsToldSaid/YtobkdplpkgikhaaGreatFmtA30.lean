import Derived.Test.YtobkdplpkgikhaaGreatFmtA29
import Derived.Test.YtobkdplpkgikhaaGreatFmtA24
import Derived.Test.YtobkdplpkgikhaaGreatFmtA25
/- Here stand lemmas and contracts, in the order in which they are used. -/
set_option linter.unusedVariables false
set_option linter.unusedVariables false
namespace Go.Eng
open Go
def awayB (w : Nat) (neg half rest qo : Bool) : Bool :=
  match w with
  | 0 => half && (rest || qo)
  | 1 => neg && (half || rest)
  | 2 => !neg && (half || rest)
  | _ => false
def dirI (w : Nat) (neg : Bool) (i : Nat) : Nat := if i < INF then i else if topW w neg then INF else INF - 1
theorem awayB_W (w : Nat) (neg : Bool) (M : Nat) (e : Int) : awayB w neg (halfB (cutX M e) (cutD M e)) (restB (cutX M e) (cutD M e)) (decide (cutX M e / 2 ^ cutD M e % 2 = 1)) = awayW w neg M e := by
  unfold awayB awayW odd
  rw [incN_bits, odd_bits]
  rcases w with _ | _ | _ | w <;> rfl
end Go.Eng
namespace Go.Proofs
open Go Go.Eng
variable {B : World} {R : Ending → Heap → Prop} {h : Heap}
theorem low_mod {M t m d : Nat} (h : M = 2 ^ t * (2 * m + 1)) : (M % 2 ^ d ≠ 0) ↔ t < d := by
  constructor
  · intro hne
    rcases Nat.lt_or_ge t d with h1 | h1
    · exact h1
    · exfalso; apply hne
      obtain ⟨k, rfl⟩ := Nat.exists_eq_add_of_le h1
      rw [h, Nat.pow_add, Nat.mul_assoc, Nat.mul_mod_right]
  · intro hlt h0
    obtain ⟨k, rfl⟩ := Nat.exists_eq_add_of_lt hlt
    have hdvd : 2 ^ (t + k + 1) ∣ M := Nat.dvd_of_mod_eq_zero h0
    rw [h, show t + k + 1 = t + (k + 1) by omega, Nat.pow_add] at hdvd
    have := Nat.dvd_of_mul_dvd_mul_left (Nat.pow_pos (by decide)) hdvd
    have h2 : 2 ∣ 2 ^ (k + 1) := ⟨2 ^ k, by rw [Nat.pow_succ, Nat.mul_comm]⟩
    have := Nat.dvd_trans h2 this
    omega
def CutI (h1 : Heap) (neg : Bool) (e w sgn lw : Int) (r : Nat) (pk : Option Addr) (nk ck : Nat) (ek : List Nat) (half rest : Bool) (m : Nat) (vs : List Value) (h' : Heap) : Prop :=
  match vs with
  | [.bool ng, .int _ ex, .int _ wy, .pointer rr, .int _ sg, .int _ l, .slice pp np cp, .bool hf, .bool rs, .int _ mm, .int _ i] => neg = ng ∧ e = ex ∧ w = wy ∧ rr = some (⟨r, 0, none⟩ : Addr) ∧ sgn = sg ∧ lw = l ∧ pk = pp ∧ nk = np ∧ ck = cp ∧ half = hf ∧ rest = rs ∧ h1 = h' ∧
      i = (m : Int) - 1 ∧ m ≤ nk ∧ mm = (val B30 (ek.drop m) : Int)
  | _ => False
theorem cutFin {h1 : Heap} {r Km w : Nat} {L e sgn : Int} {neg od : Bool} (o1 : Own h1 r #[.int .i64 (53 : Int), .int .i64 (-1074 : Int), .int .i64 (1024 : Int), .int .i64 (9218868437227405312 : Int), .int .i64 (-9223372036854775808 : Int)])
    (hw : w ≤ 3) (hs : sgn = if neg then -9223372036854775808 else 0) (k1 : Km ≤ 9007199254740992) (k2 : L = -1074 ∨ 4503599627370496 ≤ Km) (hLge : -1074 ≤ L) (hLle : L ≤ 10000000) (he : -10000000 ≤ e) (he2 : e ≤ 10000000)
    (H : ∀ h2, Ext h1 h2 → R (.returned (.tuple #[.int .i64 (pat neg (dirI w neg ((L + 1074).toNat * 4503599627370496 + Km))), .bool (od || decide (INF ≤ (L + 1074).toNat * 4503599627370496 + Km))])) h2) :
    F237_j29 B R neg e (w : Int) (some ⟨r, 0, none⟩) sgn (L - e) (Km : Int) od h1 := by
  have hINF : INF = 9218868437227405312 := rfl
  have e52 : IntKind.i64.wrap ((1 : Int) * 2 ^ min (Int.toNat (IntKind.i64.wrap ((53 : Int) - (1 : Int)))) IntKind.i64.bits) = 4503599627370496 := by decide
  have e52' : (0 : Int) ≤ IntKind.i64.wrap ((53 : Int) - (1 : Int)) := by decide
  have eL : IntKind.i64.wrap (L - e + e) = L := by rw [i64_in (by omega) (by omega)]; omega
  have hpat : ∀ P : Nat, P < 9223372036854775808 → IntKind.i64.wrap (sgn + (P : Int)) = pat neg P := by
    intro P hP
    rw [hs]
    unfold pat
    cases neg
    · simp only [Bool.false_eq_true, if_false]; rw [Int.zero_add, i64_nat hP]
    · simp only [if_true]; rw [i64_in (by omega) (by omega)]; omega
  have small : (L + 1074).toNat * 4503599627370496 + Km < INF → F237_j31 B R neg (w : Int) (some ⟨r, 0, none⟩) sgn (Km : Int) od (IntKind.i64.wrap (L - e + e)) false h1 := by
    intro hlt
    rw [eL]
    refine ⟨fun e => (by cases e), fun _ => ⟨r, 0, rfl, _, o1.cell _, _, o1.cell _, _, o1.cell _, _, o1.cell _, _, o1.cell _, K256 k1 hLge k2 hlt fun h2 f2 => ⟨_, rfl, ?_⟩⟩⟩
    rw [hpat _ (by omega)]
    have := H h2 f2
    have hd : decide (INF ≤ (L + 1074).toNat * 4503599627370496 + Km) = false := by rw [decide_eq_false_iff_not]; omega
    rw [hd, Bool.or_false] at this
    unfold dirI at this
    rw [if_pos hlt] at this
    exact this
  refine ⟨fun e0 => ⟨r, 0, rfl, r, 0, rfl, _, o1.cell _, e52', ?_⟩, fun e0 => ⟨fun e => (by cases e), fun _ => ?_⟩⟩
  · rw [e52]
    refine ⟨fun e1 => ⟨r, 0, rfl, r, 0 + 2, rfl, _, o1.cell _, K255 (by omega) ⟨_, rfl, same1 (S := fun _ => False) o1 Fr.rfl' id, ?_⟩⟩, fun e1 => ?_⟩
    · have hge : 4503599627370496 ≤ Km := by have := of_decide_eq_true e1; omega
      have hblk : bl Km = 53 ∧ Km < 9007199254740992 ∨ bl Km = 54 ∧ Km = 9007199254740992 := by
        by_cases hk : Km < 9007199254740992
        · exact .inl ⟨(bl_iff (k := 52) (by omega)).2 ⟨by omega, by omega⟩, hk⟩
        · exact .inr ⟨(bl_iff (k := 53) (by omega)).2 ⟨by omega, by omega⟩, by omega⟩
      have eb : IntKind.i64.wrap ((bl Km : Int) + L) = (bl Km : Int) + L := i64_in (by rcases hblk with h | h <;> omega) (by rcases hblk with h | h <;> omega)
      by_cases hinf : (L + 1074).toNat * 4503599627370496 + Km < INF
      · have : decide ((1024 : Int) < IntKind.i64.wrap ((bl Km : Int) + IntKind.i64.wrap (L - e + e))) = false := by
          rw [eL, eb, decide_eq_false_iff_not]
          rcases hblk with ⟨h, h'⟩ | ⟨h, h'⟩ <;> omega
        rw [this]
        exact small hinf
      · have : decide ((1024 : Int) < IntKind.i64.wrap ((bl Km : Int) + IntKind.i64.wrap (L - e + e))) = true := by
          rw [eL, eb, decide_eq_true_eq]
          rcases hblk with ⟨h, h'⟩ | ⟨h, h'⟩ <;> omega
        rw [this]
        have h2 := H h1 Fr.rfl'
        have hd : decide (INF ≤ (L + 1074).toNat * 4503599627370496 + Km) = true := by rw [decide_eq_true_eq]; omega
        rw [hd, Bool.or_true] at h2
        unfold dirI at h2
        rw [if_neg hinf] at h2
        have hp := hpat 9218868437227405312 (by omega)
        have hp1 : IntKind.i64.wrap (IntKind.i64.wrap (sgn + 9218868437227405312) - 1) = pat neg 9218868437227405311 := by
          rw [← hpat 9218868437227405311 (by omega)]
          rw [hs]
          cases neg <;> decide
        have yes : topW w neg = true → F237_j32 B R (some ⟨r, 0, none⟩) sgn true h1 := fun ht => ⟨fun _ => ⟨r, 0, rfl, r, 0 + 3, rfl, _, o1.cell _, by
          rw [ht, if_pos rfl] at h2
          rw [show ((9218868437227405312 : Int)) = ((9218868437227405312 : Nat) : Int) from rfl, hp]
          exact h2⟩, fun e => (by cases e)⟩
        have no : topW w neg = false → F237_j32 B R (some ⟨r, 0, none⟩) sgn false h1 := fun ht => ⟨fun e => (by cases e), fun _ => ⟨r, 0, rfl, r, 0 + 3, rfl, _, o1.cell _, by
          rw [ht, if_neg (by decide)] at h2
          rw [hp1]
          exact h2⟩⟩
        refine ⟨fun _ => ?_, fun e => (by cases e)⟩
        match w, hw with
        | 0, _ => exact ⟨fun _ => ⟨fun _ => yes rfl, fun e => (by cases e)⟩, fun e => by cases e⟩
        | 1, _ =>
          refine ⟨fun e => (by cases e), fun _ => ⟨fun e => (by cases e), fun _ => ⟨fun e => (by cases e), fun _ => ⟨fun _ => ?_, fun e => by cases e⟩⟩⟩⟩
          cases neg
          · exact no rfl
          · exact yes rfl
        | 2, _ =>
          refine ⟨fun e => (by cases e), fun _ => ⟨fun _ => ?_, fun e => by cases e⟩⟩
          cases neg
          · exact ⟨fun _ => yes rfl, fun e => by cases e⟩
          · exact ⟨fun e => (by cases e), fun _ => ⟨fun e => (by cases e), fun _ => no rfl⟩⟩
        | 3, _ => exact ⟨fun e => (by cases e), fun _ => ⟨fun e => (by cases e), fun _ => ⟨fun e => (by cases e), fun _ => ⟨fun e => (by cases e), fun _ => no rfl⟩⟩⟩⟩
    · have hlt : Km < 4503599627370496 := by have := of_decide_eq_false e1; omega
      exact small (by rcases k2 with h | h <;> omega)
  · have hlt : Km = 0 := by have := of_decide_eq_false e0; omega
    exact small (by rcases k2 with h | h <;> omega)
theorem cutLoop {h1 : Heap} {r nk ck Km w : Nat} {e sgn lw : Int} {neg half rest : Bool} {pk : Option Addr} {ek : List Nat} (hw : w ≤ 3) (Dk : DigI h1 pk nk ek) (hvk : val B30 ek ≤ 9007199254740992) (hnk : nk ≤ 2)
    (hm' : Km = val B30 ek + (awayB w neg half rest (decide (val B30 ek % 2 = 1))).toNat)
    (fin : F237_j29 B R neg e (w : Int) (some ⟨r, 0, none⟩) sgn lw (Km : Int) (half || rest) h1) :
    F237_j76 B R neg e (w : Int) (some ⟨r, 0, none⟩) sgn lw pk nk ck half rest h1 := by
  have lk := Dk.len
  refine ⟨CutI h1 neg e w sgn lw r pk nk ck ek half rest, nk, ⟨rfl, rfl, rfl, rfl, rfl, rfl, rfl, rfl, rfl, rfl, rfl, rfl, by rw [i64_in (by omega) (by omega)], Nat.le_refl _, ?_⟩, ?_⟩
  · rw [List.drop_of_length_le (by omega)]; rfl
  rintro m h2 _ _ _ _ _ _ _ _ _ _ _ _ _ ⟨rfl, rfl, rfl, rfl, rfl, rfl, rfl, rfl, rfl, rfl, rfl, rfl, rfl, hm, rfl⟩ _
  refine ⟨fun e0 => ⟨by decide, ?_⟩, fun e0 => ?_⟩
  · have hm0 : 0 < m := by have := of_decide_eq_true e0; omega
    have dm := Dk.dig.get (i := m - 1) (by omega)
    have hB : B30 = 1073741824 := rfl
    have hd := val_drop B30 ek (i := m - 1) (by omega)
    rw [show m - 1 + 1 = m by omega] at hd
    have hd2 : B30 * val B30 (ek.drop m) = 1073741824 * val B30 (ek.drop m) := rfl
    have hle : val B30 (ek.drop (m - 1)) ≤ val B30 ek := by
      have := val_split B30 ek (i := m - 1) (by omega)
      have h3 : val B30 (ek.drop (m - 1)) ≤ B30 ^ (m - 1) * val B30 (ek.drop (m - 1)) := Nat.le_mul_of_pos_left _ (Nat.pow_pos (by decide))
      omega
    refine Dk.sl.get (m - 1) (by omega) (by omega) (by omega) ⟨m - 1, by omega, rfl, rfl, rfl, rfl, rfl, rfl, rfl, rfl, rfl, rfl, rfl, rfl, by rw [i64_in (by omega) (by omega)]; omega, by omega, ?_⟩
    have e30 : (val B30 (ek.drop m) : Int) * 2 ^ min (Int.toNat (30 : Int)) IntKind.i64.bits = ((1073741824 * val B30 (ek.drop m) : Nat) : Int) := by
      have : min (Int.toNat (30 : Int)) IntKind.i64.bits = 30 := by decide
      rw [this]; omega
    rw [e30, i64_nat (by omega), ← Int.natCast_add, i64_nat (by omega), hd]
    omega
  · have hm0 : m = 0 := by have := of_decide_eq_false e0; omega
    subst hm0
    rw [List.drop_zero]
    have hj27 : ∀ (away : Bool), away = awayB w neg half rest (decide (val B30 ek % 2 = 1)) → F237_j27 B R neg e (w : Int) (some ⟨r, 0, none⟩) sgn lw (val B30 ek : Int) (half || rest) away h1 := by
      intro away ha
      rw [← ha] at hm'
      refine ⟨fun h => ?_, fun h => ?_⟩
      · rw [h] at hm'
        simp only [Bool.toNat_true] at hm'
        rw [i64_in (by omega) (by omega), show (val B30 ek : Int) + 1 = (Km : Int) by omega]
        exact fin
      · rw [h] at hm'
        simp only [Bool.toNat_false] at hm'
        rw [show (val B30 ek : Int) = (Km : Int) by omega]
        exact fin
    have hj19 : F237_j19 B R neg e (w : Int) (some ⟨r, 0, none⟩) sgn lw half rest (val B30 ek : Int) (half || rest) h1 := by
      have h2 : decide (Int.tmod (val B30 ek : Int) (2 : Int) = (1 : Int)) = decide (val B30 ek % 2 = 1) := by rw [tm2, decide_eq_decide]; omega
      match w, hw, hj27 with
      | 0, _, hj27 =>
        refine ⟨fun _ => ⟨fun hh => ⟨fun hr => hj27 true (by unfold awayB; rw [hh, hr]; rfl), fun hr => ⟨by decide, ?_⟩⟩, fun hh => hj27 false (by unfold awayB; rw [hh]; rfl)⟩, fun e => by cases e⟩
        rw [h2]
        exact hj27 _ (by unfold awayB; rw [hh, hr]; simp)
      | 1, _, hj27 => exact ⟨fun e => (by cases e), fun _ => ⟨fun _ => ⟨fun hn => hj27 _ (by unfold awayB; rw [hn]; rfl), fun hn => hj27 _ (by unfold awayB; rw [hn]; rfl)⟩, fun e => by cases e⟩⟩
      | 2, _, hj27 => exact ⟨fun e => (by cases e), fun _ => ⟨fun e => (by cases e), fun _ => ⟨fun _ => ⟨fun hn => hj27 _ (by unfold awayB; rw [hn]; rfl), fun hn => hj27 _ (by unfold awayB; rw [hn]; rfl)⟩, fun e => by cases e⟩⟩⟩
      | 3, _, hj27 => exact ⟨fun e => (by cases e), fun _ => ⟨fun e => (by cases e), fun _ => ⟨fun e => (by cases e), fun _ => hj27 _ rfl⟩⟩⟩
    refine ⟨fun hh => ?_, fun hh => ?_⟩
    · have e1 : (half || rest) = true := by rw [hh]; rfl
      rw [e1] at hj19; exact hj19
    · have e1 : (half || rest) = rest := by rw [hh]; rfl
      rw [e1] at hj19; exact hj19
theorem cutTail {h1 : Heap} {r nk ck n c M w : Nat} {L e sgn : Int} {neg more : Bool} {p pk : Option Addr} {ek : List Nat} (hw : w ≤ 3) (D : DigI h1 p n (digs B30 M)) (hM : 0 < M) (hn : n ≤ 100000) (hL1 : -10000000 ≤ L - e) (hL2 : L - e ≤ 10000000)
    (Dk : DigI h1 pk nk ek) (hvk : val B30 ek = (M * 2 ^ (e - L).toNat) / 2 ^ (L - e).toNat) (hkm : val B30 ek ≤ 9007199254740991)
    (fin : F237_j29 B R neg e (w : Int) (some ⟨r, 0, none⟩) sgn (L - e) ((val B30 ek + (awayB w neg (halfB (M * 2 ^ (e - L).toNat) (L - e).toNat) (more || restB (M * 2 ^ (e - L).toNat) (L - e).toNat) (decide (val B30 ek % 2 = 1))).toNat : Nat) : Int)
      (halfB (M * 2 ^ (e - L).toNat) (L - e).toNat || (more || restB (M * 2 ^ (e - L).toNat) (L - e).toNat)) h1) :
    F237_j11 B R neg p n c e more (w : Int) (some ⟨r, 0, none⟩) sgn (L - e) pk nk ck h1 := by
  have hv : val B30 (digs B30 M) = M := digs_val (by decide) M
  have hnk : nk ≤ 2 := Dk.short (by rw [bl_le_iff]; exact Nat.lt_of_le_of_lt hkm (by decide))
  have e1 : IntKind.i64.wrap (L - e - 1) = L - e - 1 := i64_in (by omega) (by omega)
  unfold F237_j11
  rw [e1]
  refine K254 D.u (by omega) (by omega) ⟨_, rfl, ?_⟩
  rw [hv]
  have hX : 0 < (L - e).toNat → M * 2 ^ (e - L).toNat = M := by
    intro h
    rw [show (e - L).toNat = 0 by omega, Nat.pow_zero, Nat.mul_one]
  have hhalf : (decide (0 ≤ L - e - 1) && decide (M / 2 ^ (L - e - 1).toNat % 2 = 1)) = halfB (M * 2 ^ (e - L).toNat) (L - e).toNat := by
    unfold halfB
    have e1 : decide (0 ≤ L - e - 1) = decide (0 < (L - e).toNat) := by rw [decide_eq_decide]; omega
    rw [e1]
    by_cases h0 : 0 < (L - e).toNat
    · rw [hX h0, show (L - e - 1).toNat = (L - e).toNat - 1 by omega]
    · rw [decide_eq_false h0]; rfl
  rw [hhalf]
  have end_ : ∀ rest : Bool, rest = (more || restB (M * 2 ^ (e - L).toNat) (L - e).toNat) →
      F237_j76 B R neg e (w : Int) (some ⟨r, 0, none⟩) sgn (L - e) pk nk ck (halfB (M * 2 ^ (e - L).toNat) (L - e).toNat) rest h1 := by
    intro rest hrest
    rw [← hrest] at fin
    exact cutLoop hw Dk (by omega) hnk rfl fin
  refine ⟨fun em => end_ true (by rw [em]; rfl), fun em => ⟨fun e0 => ?_, fun e0 => ⟨fun e => (by cases e), fun _ => end_ false ?_⟩⟩⟩
  · have hd1 : 0 < L - e - 1 := of_decide_eq_true e0
    refine K190 D.u (by omega) (fun h0 => by rw [hv] at h0; omega) fun t m ht => ⟨_, rfl, fun _ => K190 D.u (by omega) (fun h0 => by rw [hv] at h0; omega) fun t' m' ht' => ⟨_, rfl, ?_⟩, fun e1 => by have := of_decide_eq_false e1; omega⟩
    rw [hv] at ht'
    refine end_ _ ?_
    unfold restB
    rw [em, Bool.false_or, hX (by omega)]
    have h1' : decide (0 < (L - e).toNat - 1) = true := by rw [decide_eq_true_eq]; omega
    rw [h1', Bool.true_and, decide_eq_decide, low_mod ht']
    omega
  · have hd1 : ¬ 0 < L - e - 1 := of_decide_eq_false e0
    have h1' : decide (0 < (L - e).toNat - 1) = false := by rw [decide_eq_false_iff_not]; omega
    unfold restB
    rw [em, h1']; rfl
/-- plumbref4.Kind.Cut of a number other than 0, in each way; more: and a little more. -/
theorem K237g {neg more : Bool} {p : Option Addr} {n c M w : Nat} {e : Int} (hw : w ≤ 3) (D : DigI h p n (digs B30 M)) (hM : 0 < M) (hn : n ≤ 100000) (he : -2097152 ≤ e) (he2 : e ≤ 2097152)
    (H : ∀ h', Ext h h' → R (.returned (.tuple #[.int .i64 (pat neg (dirI w neg (flo M e + (awayB w neg (halfB (cutX M e) (cutD M e)) (more || restB (cutX M e) (cutD M e)) (decide (cutX M e / 2 ^ cutD M e % 2 = 1))).toNat))),
      .bool (halfB (cutX M e) (cutD M e) || (more || restB (cutX M e) (cutD M e)) || decide (INF ≤ flo M e + (awayB w neg (halfB (cutX M e) (cutD M e)) (more || restB (cutX M e) (cutD M e)) (decide (cutX M e / 2 ^ cutD M e % 2 = 1))).toNat))])) h') :
    Ent Tryz.prog B 108 #[K64V, .bool neg, .slice p n c, .int .i64 e, .bool more, .int .i64 (w : Int)] R h := by
  refine F237_ok _ _ _ _ _ _ _ _ _ _ _ _ (alK fun r h12 e11 f11 o11 z11 => ?_)
  have hv : val B30 (digs B30 M) = M := digs_val (by decide) M
  have hbl : bl M ≤ 3000000 := by
    have := bl_dig (k := 30) rfl D.dig
    rw [hv, D.len] at this; omega
  have hb1 : bl M = M.log2 + 1 := bl_eq (by omega)
  obtain ⟨k1, k2⟩ := flo_bd e (show M ≠ 0 by omega)
  have hLge := lastP_ge M e
  have hLdef : lastP M e = max (e + M.log2 - 52) (-1074) := rfl
  have hflo : flo M e = (lastP M e + 1074).toNat * 4503599627370496 + cutX M e / 2 ^ cutD M e := rfl
  rw [hflo] at H
  have hcX : cutX M e = M * 2 ^ (e - lastP M e).toNat := rfl
  have hcD : cutD M e = (lastP M e - e).toNat := rfl
  simp only [hcX, hcD] at H k1 k2
  clear hflo hcX hcD
  have main : ∀ sgn : Int, (sgn = if neg then -9223372036854775808 else 0) → F237_j4 B R neg p n c e more (w : Int) (some ⟨r, 0, none⟩) sgn h12 := by
    intro sgn hs
    refine K253 (D.ext f11) (by omega) ⟨_, rfl, fun e0 => ?_, fun _ => ⟨fun e => (by cases e), fun _ => ⟨r, 0, rfl, r, 0, rfl, _, o11.cell _, r, 0, rfl, r, 0 + 1, rfl, _, o11.cell _, ?_⟩⟩⟩
    · rw [hv] at e0; have := of_decide_eq_true e0; omega
    rw [hv]
    have ew : IntKind.i64.wrap ((if (-1074 : Int) > (IntKind.i64.wrap ((IntKind.i64.wrap ((bl M : Int) + e)) - (53 : Int))) then (-1074 : Int) else (IntKind.i64.wrap ((IntKind.i64.wrap ((bl M : Int) + e)) - (53 : Int)))) - e) = lastP M e - e := by
      rw [i64_in (x := (bl M : Int) + e) (by omega) (by omega), i64_in (x := (bl M : Int) + e - 53) (by omega) (by omega)]
      have : (if (-1074 : Int) > (bl M : Int) + e - 53 then (-1074 : Int) else (bl M : Int) + e - 53) = lastP M e := by split <;> omega
      rw [this]
      exact i64_in (by omega) (by omega)
    rw [ew]
    have hL1 : -10000000 ≤ lastP M e - e := by omega
    have hL2 : lastP M e - e ≤ 10000000 := by omega
    have hL3 : lastP M e ≤ 10000000 := by omega
    clear hLdef ew
    generalize lastP M e = L at *
    have fin : ∀ (h1 : Heap) (q : Nat), Ext h12 h1 → q = M * 2 ^ (e - L).toNat / 2 ^ (L - e).toNat → F237_j29 B R neg e (w : Int) (some ⟨r, 0, none⟩) sgn (L - e) ((q + (awayB w neg (halfB (M * 2 ^ (e - L).toNat) (L - e).toNat) (more || restB (M * 2 ^ (e - L).toNat) (L - e).toNat) (decide (q % 2 = 1))).toNat : Nat) : Int)
        (halfB (M * 2 ^ (e - L).toNat) (L - e).toNat || (more || restB (M * 2 ^ (e - L).toNat) (L - e).toNat)) h1 := by
      intro h1 q f1 hq
      rw [← hq] at H k1 k2
      generalize (awayB w neg (halfB (M * 2 ^ (e - L).toNat) (L - e).toNat) (more || restB (M * 2 ^ (e - L).toNat) (L - e).toNat) (decide (q % 2 = 1))) = a at *
      have ha : a.toNat ≤ 1 := by cases a <;> decide
      refine cutFin (o11.ext f1) hw hs (by omega) (by omega) hLge hL3 (by omega) (by omega) fun h2 f2 => ?_
      have := H h2 (Ext.trans f11 (Ext.trans f1 f2))
      rw [Nat.add_assoc] at this
      exact this
    have hif : ∀ x : Int, (if (0 : Int) > x then (0 : Int) else x) = ((x.toNat : Nat) : Int) := by intro x; split <;> omega
    rw [hif]
    refine K191 (D.u.ext f11) (by omega) (by omega) fun p57 n57 c57 e57 h54 f54 fr54 D57 h57 => ⟨_, _, _, rfl, fun e0 => ?_, fun e0 => ?_⟩
    · have hneg : L - e < 0 := of_decide_eq_true e0
      rw [i64_in (x := 0 - (L - e)) (by omega) (by omega), show 0 - (L - e) = (((e - L).toNat : Nat) : Int) by omega]
      refine K177 (D.u.ext (Ext.trans f11 f54)) (by omega) (by omega) fun p62 n62 c62 e62 h59 f59 fr59 D62 h62 => ⟨_, _, _, rfl, ?_⟩
      have hq : val B30 e62 = M * 2 ^ (e - L).toNat / 2 ^ (L - e).toNat := by
        rw [h62, hv, show (L - e).toNat = 0 by omega, Nat.pow_zero, Nat.div_one]
      exact cutTail hw (D.ext (Ext.trans f11 (Ext.trans f54 f59))) hM hn hL1 hL2 D62 hq (by omega) (fin _ _ (Ext.trans f54 f59) hq)
    · have hneg : ¬ L - e < 0 := of_decide_eq_false e0
      have hq : val B30 e57 = M * 2 ^ (e - L).toNat / 2 ^ (L - e).toNat := by
        rw [h57, hv, show (e - L).toNat = 0 by omega, Nat.pow_zero, Nat.mul_one]
      exact cutTail hw (D.ext (Ext.trans f11 f54)) hM hn hL1 hL2 D57 hq (by omega) (fin _ _ f54 hq)
  cases neg
  · exact ⟨fun e => (by cases e), fun _ => main 0 rfl⟩
  · exact ⟨fun _ => ⟨r, 0, rfl, r, 0 + 4, rfl, _, o11.cell _, main _ rfl⟩, fun e => (by cases e)⟩
/-- plumbref4.Kind.Cut of a number other than 0, in each way. -/
theorem K237w {neg : Bool} {p : Option Addr} {n c M w : Nat} {e : Int} (hw : w ≤ 3) (D : DigI h p n (digs B30 M)) (hM : 0 < M) (hn : n ≤ 100000) (he : -2097152 ≤ e) (he2 : e ≤ 2097152)
    (H : ∀ h', Ext h h' → R (.returned (.tuple #[.int .i64 (pat neg (dirP w neg M e)), .bool (inx w neg M e)])) h') :
    Ent Tryz.prog B 108 #[K64V, .bool neg, .slice p n c, .int .i64 e, .bool false, .int .i64 (w : Int)] R h := by
  refine K237g hw D hM hn he he2 fun h' f => ?_
  have := H h' f
  unfold dirP inx idxW odd at this
  rw [← awayB_W, odd_bits] at this
  exact this
end Go.Proofs
namespace Go.Proofs
open Go Go.Eng
variable {B : World} {R : Ending → Heap → Prop} {h : Heap}
/-- A cell of a block that is known, stored. -/
theorem _root_.Go.Eng.Own.stL {h : Heap} {b o : Nat} {l : List Value} {v : Value} {K : Heap → Prop} (H : Own h b l.toArray) (ho : o < l.length) (hv : oneCell v = true)
    (k : ∀ h', Own h' b (l.set o v).toArray → Fr (fun x => x = b) h h' → K h') : stC h b o v K :=
  H.stC (by simpa using ho) hv fun O f => k _ (by simpa using O) f
end Go.Proofs
namespace Go.Proofs
open Go Go.Eng
variable {B : World} {R : Ending → Heap → Prop} {h : Heap}
theorem sameN {h h' : Heap} {b o : Nat} {cs : Array Value} {S : Nat → Prop} (H : Own h b cs) (f : Fr S h h') (hb : ¬ S b) : ∀ n, sameCells h h' b o n
  | 0 => trivial
  | 1 => same1 H f hb
  | n + 2 => ⟨sameN H f hb (n + 1), by rw [H.cell, (H.fr f hb).cell]⟩
end Go.Proofs
namespace Go.Proofs
open Go Go.Eng
variable {B : World} {R : Ending → Heap → Prop} {h : Heap}
theorem NaNP_I64 : I64 NaNP := by unfold I64 NaNP; omega
theorem plusP_I64 (na ia sa : Bool) (va : Int) (nb ib sb : Bool) (vb : Int) : I64 (plusP na ia sa va nb ib sb vb) := by
  unfold plusP
  split
  · exact NaNP_I64
  · split
    · exact pat_I64 (by decide)
    · split
      · exact pat_I64 (by decide)
      · exact pat_I64 (by have := rung_lt (va + vb).natAbs (-1074); omega)
theorem addP_I64 (a b : Int) : I64 (addP a b) := plusP_I64 _ _ _ _ _ _ _ _
theorem subP_I64 (a b : Int) : I64 (subP a b) := plusP_I64 _ _ _ _ _ _ _ _
theorem mulP_I64 (a b : Int) : I64 (mulP a b) := by
  unfold mulP timesP
  split
  · exact NaNP_I64
  · split
    · exact pat_I64 (by decide)
    · exact pat_I64 (by have := rung_lt (fW a * fW b).natAbs (-2148); omega)
theorem NumS.up {K : Nat} {neg : Bool} {p : Option Addr} {n : Nat} {e v : Int} (N : NumS K h neg p n e v) (d : Nat) : NumS (K + d) h neg p n e (v * ((2 ^ d : Nat) : Int)) := by
  obtain ⟨M, I, a1, a2⟩ := N
  refine ⟨M, I, by omega, ?_⟩
  rw [show (e + ((K + d : Nat) : Int)).toNat = (e + (K : Int)).toNat + d by omega, signed_add, a2]
/-- Are h and l together just x, in units of 2^-K? -/
def justP (K : Nat) (h l x : Int) : Bool := isFin h && isFin l && decide ((fV h + fV l) * ((2 ^ (K - 1074) : Nat) : Int) = x)
/-- The parts of a sum, and of a product, by single operations. -/
def sumH (a b : Int) : Int := addP a b
def sumL (a b : Int) : Int := addP (subP a (subP (addP a b) (subP (addP a b) a))) (subP b (subP (addP a b) a))
def sumOk (h l a b : Int) : Bool := isFin a && isFin b && justP 1074 h l (fV a + fV b)
abbrev FAC : Int := 4728779608772575232
def splH (a : Int) : Int := subP (mulP FAC a) (subP (mulP FAC a) a)
def splL (a : Int) : Int := subP a (splH a)
def prdH (a b : Int) : Int := mulP a b
def prdL (a b : Int) : Int :=
  subP (mulP (splL a) (splL b)) (subP (subP (subP (mulP a b) (mulP (splH a) (splH b))) (mulP (splL a) (splH b))) (mulP (splH a) (splL b)))
def prdOk (a b : Int) : Bool := isFin a && isFin b && justP 2148 (prdH a b) (prdL a b) (fV a * fV b)
end Go.Proofs
namespace Go.Proofs
open Go Go.Eng
variable {B : World} {R : Ending → Heap → Prop} {h : Heap}
theorem and_i64 {x : Int} {m : Nat} (hm : m < 4611686018427387904) : bitsI .and .i64 x (m : Int) = (((x % 18446744073709551616).toNat &&& m : Nat) : Int) := by
  have h1 : bitsI .and .i64 x (m : Int) = IntKind.i64.wrap (((BitVec.ofInt 64 x &&& BitVec.ofInt 64 (m : Int)).toNat : Nat) : Int) := rfl
  rw [h1, BitVec.toNat_and, BitVec.toNat_ofInt, BitVec.toNat_ofInt]
  have e1 : ((m : Int) % ((2 ^ 64 : Nat) : Int)).toNat = m := by omega
  have e2 : (x % ((2 ^ 64 : Nat) : Int)).toNat = (x % 18446744073709551616).toNat := rfl
  rw [e1, e2]
  have : (x % 18446744073709551616).toNat &&& m ≤ m := Nat.and_le_right
  exact i64_nat (by omega)
theorem and_fT (b : Int) : bitsI .and .i64 b (4503599627370495 : Int) = (fT b : Int) := by
  have := and_i64 (x := b) (m := 4503599627370495) (by decide)
  rw [show ((4503599627370495 : Nat) : Int) = 4503599627370495 from rfl] at this
  rw [this, show (b % 18446744073709551616).toNat &&& 4503599627370495 = (b % 18446744073709551616).toNat % 2 ^ 52 from Nat.and_two_pow_sub_one_eq_mod _ 52]
  unfold fT; omega
theorem and_fE (b : Int) : bitsI .and .i64 (Int.fdiv b (2 ^ min (Int.toNat (52 : Int)) IntKind.i64.bits)) (2047 : Int) = (fE b : Int) := by
  have e0 : Int.fdiv b (2 ^ min (Int.toNat (52 : Int)) IntKind.i64.bits) = b / 4503599627370496 := by
    have : min (Int.toNat (52 : Int)) IntKind.i64.bits = 52 := by decide
    rw [this, Int.fdiv_eq_ediv_of_nonneg _ (by decide)]; rfl
  have := and_i64 (x := b / 4503599627370496) (m := 2047) (by decide)
  rw [show ((2047 : Nat) : Int) = 2047 from rfl] at this
  rw [e0, this, show (b / 4503599627370496 % 18446744073709551616).toNat &&& 2047 = (b / 4503599627370496 % 18446744073709551616).toNat % 2 ^ 11 from Nat.and_two_pow_sub_one_eq_mod _ 11]
  unfold fE; omega
theorem or_fM (t : Nat) (ht : t < 4503599627370496) : bitsI .or .i64 (t : Int) (4503599627370496 : Int) = ((4503599627370496 + t : Nat) : Int) := by
  have h1 : bitsI .or .i64 (t : Int) (4503599627370496 : Int) = IntKind.i64.wrap (((BitVec.ofInt 64 (t : Int) ||| BitVec.ofInt 64 ((4503599627370496 : Nat) : Int)).toNat : Nat) : Int) := rfl
  rw [h1, ofInt_nat, ofInt_nat, BitVec.toNat_or, BitVec.toNat_ofNat, BitVec.toNat_ofNat, Nat.mod_eq_of_lt (by omega : t < 2 ^ 64), Nat.mod_eq_of_lt (by omega : 4503599627370496 < 2 ^ 64)]
  have e : t ||| 4503599627370496 = 4503599627370496 + t := by
    rw [Nat.or_comm]
    have := or_add (a := 1) (b := t) (s := 52) ht
    rw [Nat.one_mul] at this
    exact this
  rw [e, i64_nat (by omega)]
/-- bits.Parts, of what is finite. -/
theorem K63 {b : Int} (hf : isFin b = true) (H : R (.returned (.tuple #[.bool (decide (b < 0)), .int .i64 (fM b : Int), .int .i64 (fX b), .bool true])) h) : Ent Tryz.prog B 24 #[.int .i64 b] R h := by
  refine F63_ok _ ?_
  unfold F63
  rw [and_fE, and_fT]
  have hE : fE b < 2047 := by unfold isFin at hf; exact of_decide_eq_true hf
  have hT := fT_lt b
  unfold fM fX at H
  refine ⟨by decide, fun e => by have := of_decide_eq_true e; omega, fun _ => ⟨fun e => ?_, fun e => ?_⟩⟩
  · have h0 : fE b = 0 := by have := of_decide_eq_true e; omega
    rw [if_pos h0, if_pos h0] at H
    exact H
  · have h0 : fE b ≠ 0 := by have := of_decide_eq_false e; omega
    rw [if_neg h0, if_neg h0] at H
    rw [or_fM _ hT, i64_in (by omega) (by omega)]
    exact H
theorem Ent62 : Enters Tryz.prog 52 := enters_of Tryz.func52 (by kernel_rfl) (by kernel_rfl)
/-- What a call of dyadic ends with: a number is laid, nothing is given up. -/
theorem numEnd {r2 r4 n c : Nat} {x0 x1 x2 y0 : Value} {neg : Bool} {p : Option Addr} {e : Int} (O2 : Own h r2 #[x0, x1, x2]) (O4 : Own h r4 #[y0]) (hne : r2 ≠ r4)
    (H : ∀ h', Fr (fun x => x = r2 ∨ x = r4) h h' → R (.returned (.tuple #[.agg #[.bool neg, .slice p n c, .int .i64 e], .int .i64 (0 : Int)])) h') :
    isP (some ⟨r2, 0, none⟩) fun b47 o48 => stC h b47 o48 (.bool neg) fun h49 =>
 stC h49 b47 (o48 + 1) (.slice p n c) fun h50 =>
 stC h50 b47 (o48 + 1 + 1) (.int .i64 e) fun h51 =>
 isP (some ⟨r4, 0, none⟩) fun b52 o53 => stC h51 b52 o53 (.int .i64 (0 : Int)) fun h54 =>
 Enters Tryz.prog 52 ∧ FnD Tryz.prog B 52 #[.pointer (some ⟨r4, 0, none⟩)] .returning (dfE fun u55 h56 => lvW (fun h57 => isP (some ⟨r2, 0, none⟩) fun b60 o61 =>
∃ x62, cell? h57 ⟨b60, o61, none⟩ = some (.bool x62) ∧
∃ x63 x63n x63c, cell? h57 ⟨b60, o61 + 1, none⟩ = some (.slice x63 x63n x63c) ∧
∃ x64, cell? h57 ⟨b60, o61 + 1 + 1, none⟩ = some (.int .i64 x64) ∧
 isP (some ⟨r4, 0, none⟩) fun b65 o66 => ∃ x67, cell? h57 ⟨b65, o66, none⟩ = some (.int .i64 x67) ∧
 R (.returned (.tuple #[.agg #[.bool x62, .slice x63 x63n x63c, .int .i64 x64], .int .i64 x67])) h57) (fun ch59 h58 => R (.panicked ch59) h58) u55 h56) h54 := by
  refine ⟨r2, 0, rfl, O2.stL (by simp) rfl fun _ a1 g1 => a1.stL (by simp) rfl fun _ a2 g2 => a2.stL (by simp) rfl fun h3 a3 g3 => ⟨r4, 0, rfl, ?_⟩⟩
  have k := Fr.trans (S := fun x => x = r2) (Fr.trans (S := fun x => x = r2) g1 g2 fun _ _ e => e) g3 fun _ _ e => e
  refine (O4.fr k (show ¬ r4 = r2 from fun e => hne e.symm)).stL (by simp) rfl fun h4 a4 g4 => ⟨Ent62, K62r ?_⟩
  have A3 : Own h4 r2 #[.bool neg, .slice p n c, .int .i64 e] := a3.fr g4 hne
  have A4 : Own h4 r4 #[.int .i64 (0 : Int)] := a4
  exact ⟨r2, 0, rfl, _, A3.cell _, _, _, _, A3.cell _, _, A3.cell _, r4, 0, rfl, _, A4.cell _, H h4 (Fr.trans (Fr.mono k fun _ _ e => .inl e) g4 fun _ _ e => .inr e)⟩
/-- dyadic.of, of finite parts. -/
theorem K64 {neg : Bool} {m : Nat} {e : Int} {K : Nat} (ht : TabH h) (hm : m < 4611686018427387904) (he : 0 ≤ e + (K : Int)) (hb : bl (Ieee.signed neg m (e + (K : Int)).toNat).natAbs ≤ 60000) (hK : K ≤ 1048576)
    (H : ∀ neg' p n c e' h', Ext h h' → Fresh h p → NumS K h' neg' p n e' (Ieee.signed neg m (e + (K : Int)).toNat) → R (.returned (.agg #[.bool neg', .slice p n c, .int .i64 e'])) h') :
    Ent Tryz.prog B 53 #[.bool neg, .int .i64 (m : Int), .int .i64 e, .bool true] R h := by
  refine F64_ok _ _ _ _ (alK fun r h6 e5 f5 o5 z5 => ⟨fun e => (by cases e), fun _ => ?_⟩)
  have main : ∀ v : Int, (v = if neg then -(m : Int) else (m : Int)) → F64_j7 B R v e (some ⟨r, 0, none⟩) h6 := by
    intro v hv
    have hs : v * 2 ^ (e + (K : Int)).toNat = Ieee.signed neg m (e + (K : Int)).toNat := by
      rw [hv]
      unfold Ieee.signed
      rw [Nat.shiftLeft_eq]
      have h1 : (2 : Int) ^ (e + (K : Int)).toNat = ((2 ^ (e + (K : Int)).toNat : Nat) : Int) := by rw [Int.natCast_pow]; rfl
      rw [h1]
      cases neg
      · simp only [Bool.false_eq_true, if_false, Int.natCast_mul]
      · simp only [if_true, Int.natCast_mul, Int.neg_mul]
    refine K120 (by rw [hv]; split <;> omega) (by rw [hv]; split <;> omega) fun r2 q2 h13 f13 g1 g2 g3 I => ⟨_, rfl, ?_⟩
    refine K65 (ht.ext (Ext.trans f5 f13)) I he hs.symm hb hK fun neg' p n c e' h18 f18 fr18 N => ⟨_, _, _, _, _, rfl, ?_⟩
    have s13 := f13.size
    refine ret3 ((o5.ext f13).ext f18) fun h' f => ?_
    exact H neg' p n c e' h' (Fr.trans (Ext.trans f5 (Ext.trans f13 f18)) f fun x hx e => by omega) (fr18.mono (by omega)) (N.fr f fun b o e e2 => by have := fr18 b o e; omega)
  cases neg
  · exact ⟨fun e => (by cases e), fun _ => main _ rfl⟩
  · refine ⟨fun _ => ?_, fun e => (by cases e)⟩
    rw [i64_in (by omega) (by omega)]
    exact main _ (by simp)
/-- dyadic.Of, of what is finite. -/
theorem K21 {b : Int} (ht : TabH h) (hf : isFin b = true) (H : ∀ neg p n c e h', Ext h h' → Fresh h p → NumS 1074 h' neg p n e (fV b) → R (.returned (.tuple #[.agg #[.bool neg, .slice p n c, .int .i64 e], .int .i64 (0 : Int)])) h') :
    Ent Tryz.prog B 30 #[.int .i64 b] R h := by
  refine F21_ok _ (alK fun r2 h3 e2 f2 o2 z2 => alK fun r4 h5 e4 f4 o4 z4 => K63 hf ⟨_, _, _, _, rfl, ?_⟩)
  have hX := fX_ge b
  have hM := fM_lt b
  have hv : Ieee.signed (decide (b < 0)) (fM b) (fX b + ((1074 : Nat) : Int)).toNat = fV b := rfl
  have hbl := fV_bl hf
  have F5 := Ext.trans f2 f4
  refine K64 (K := 1074) (ht.ext F5) (by omega) (by omega) (by rw [hv]; omega) (by decide) fun neg p n c e h28 f28 fr28 N => ⟨_, _, _, _, _, rfl, ?_⟩
  rw [hv] at N
  refine numEnd ((o2.ext f4).ext f28) (o4.ext f28) (by omega) fun h' f => ?_
  exact H neg p n c e h' (Fr.trans (Ext.trans F5 f28) f fun x hx e => by omega) (fr28.mono (by omega)) (N.fr f fun b o e e3 => by have := fr28 b o e; omega)
theorem numL2 {K b n c n2 c2 : Nat} {neg neg2 : Bool} {p p2 : Option Addr} {e e2 v w : Int} (O : Own h b #[.bool neg, .slice p n c, .int .i64 e, .bool neg2, .slice p2 n2 c2, .int .i64 e2]) (N1 : NumS K h neg p n e v) (N2 : NumS K h neg2 p2 n2 e2 w) :
    NumL K h (some ⟨b, 0, none⟩) [v, w] := by
  refine .inr ⟨b, 0, _, rfl, O, fun i hi => ?_⟩
  match i, hi with
  | 0, _ => exact ⟨_, _, _, _, _, rfl, rfl, rfl, N1⟩
  | 1, _ => exact ⟨_, _, _, _, _, rfl, rfl, rfl, N2⟩
theorem take2_bl {v w : Int} {L : Nat} (hv : bl v.natAbs ≤ L) (hw : bl w.natAbs ≤ L) (i : Nat) : bl (([v, w].take i).sum).natAbs ≤ L + 1 := by
  match i with
  | 0 => have : bl (([v, w].take 0).sum).natAbs = 0 := rfl
         omega
  | 1 => have : (([v, w].take 1).sum) = v := by simp
         rw [this]; omega
  | i + 2 => have : (([v, w].take (i + 2)).sum) = v + w := by simp
             rw [this]; exact bl_add hv hw
/-- dyadic.Add. -/
theorem K22 {K n c n2 c2 : Nat} {neg neg2 : Bool} {p p2 : Option Addr} {e e2 v w : Int} (ht : TabH h) (N1 : NumS K h neg p n e v) (N2 : NumS K h neg2 p2 n2 e2 w) (hK : K ≤ 1048576) (hv : bl v.natAbs ≤ 50000) (hw : bl w.natAbs ≤ 50000)
    (H : ∀ neg' p' n' c' e' h', Ext h h' → Fresh h p' → NumS K h' neg' p' n' e' (v + w) → R (.returned (.tuple #[.agg #[.bool neg', .slice p' n' c', .int .i64 e'], .int .i64 (0 : Int)])) h') :
    Ent Tryz.prog B 115 #[.agg #[.bool neg, .slice p n c, .int .i64 e], .agg #[.bool neg2, .slice p2 n2 c2, .int .i64 e2]] R h := by
  refine F22_ok _ _ _ _ _ _ _ _ _ _ (alK fun r7 h8 e7 f7 o7 z7 => alK fun r9 h10 e9 f9 o9 z9 => alK fun r11 h12 e11 f11 o11 z11 => alK fun r13 h14 e13 f13 o13 z13 => ?_)
  have O7 := ((o7.ext f9).ext f11).ext f13
  have O9 := (o9.ext f11).ext f13
  refine ⟨r7, 0, rfl, _, O7.cell _, _, _, _, O7.cell _, _, O7.cell _, r9, 0, rfl, _, O9.cell _, _, _, _, O9.cell _, _, O9.cell _, alK fun r25 h26 e25 f25 o25 z25 => ?_⟩
  have F := Ext.trans f7 (Ext.trans f9 (Ext.trans f11 (Ext.trans f13 f25)))
  refine K67 (numL2 o25 (N1.ext F) (N2.ext F)) rfl (by decide) fun xs h28 f28 X => ⟨_, _, _, rfl, ?_⟩
  refine K66 X rfl (by decide) hK (fun i _ => Nat.le_trans (take2_bl hv hw i) (by decide)) (fun x hx => ?_) fun r q m e' h46 f46 I he hs => ⟨_, _, rfl, ?_⟩
  · rcases List.mem_cons.1 hx with e | hx
    · rw [e]; omega
    · rw [List.mem_singleton.1 hx]; omega
  have hsum : [v, w].sum = v + w := by simp
  rw [hsum] at hs
  refine K65 (ht.ext (Ext.trans F (Ext.trans f28 f46))) I he hs (Nat.le_trans (bl_add hv hw) (by decide)) hK fun neg' p' n' c' e' h65 f65 fr65 N => ⟨_, _, _, _, _, rfl, ?_⟩
  have FX := Ext.trans f25 (Ext.trans f28 (Ext.trans f46 f65))
  have s46 := (Ext.trans f25 (Ext.trans f28 f46)).size
  refine numEnd ((o11.ext f13).ext FX) (o13.ext FX) (by omega) fun h' f => ?_
  exact H neg' p' n' c' e' h' (Fr.trans (Ext.trans f7 (Ext.trans f9 (Ext.trans f11 (Ext.trans f13 FX)))) f fun x hx e => by omega) (fr65.mono (by omega)) (N.fr f fun b o e e3 => by have := fr65 b o e; omega)
/-- dyadic.Sum, of two. -/
theorem K119 {K c : Nat} {p : Option Addr} {v w : Int} (ht : TabH h) (N : NumL K h p [v, w]) (hK : K ≤ 1048576) (hv : bl v.natAbs ≤ 50000) (hw : bl w.natAbs ≤ 50000)
    (H : ∀ neg' p' n' c' e' h', Ext h h' → Fresh h p' → NumS K h' neg' p' n' e' (v + w) → R (.returned (.tuple #[.agg #[.bool neg', .slice p' n' c', .int .i64 e'], .int .i64 (0 : Int)])) h') :
    Ent Tryz.prog B 117 #[.slice p 2 c] R h := by
  refine F119_ok _ _ _ (alK fun r2 h3 e2 f2 o2 z2 => alK fun r4 h5 e4 f4 o4 z4 => ?_)
  have F := Ext.trans f2 f4
  refine K67 (N.ext F) rfl (by decide) fun xs h28 f28 X => ⟨_, _, _, rfl, ?_⟩
  refine K66 X rfl (by decide) hK (fun i _ => Nat.le_trans (take2_bl hv hw i) (by decide)) (fun x hx => ?_) fun r q m e' h46 f46 I he hs => ⟨_, _, rfl, ?_⟩
  · rcases List.mem_cons.1 hx with e | hx
    · rw [e]; omega
    · rw [List.mem_singleton.1 hx]; omega
  have hsum : [v, w].sum = v + w := by simp
  rw [hsum] at hs
  refine K65 (ht.ext (Ext.trans F (Ext.trans f28 f46))) I he hs (Nat.le_trans (bl_add hv hw) (by decide)) hK fun neg' p' n' c' e' h65 f65 fr65 N => ⟨_, _, _, _, _, rfl, ?_⟩
  have FX := Ext.trans f28 (Ext.trans f46 f65)
  have s46 := (Ext.trans f28 f46).size
  refine numEnd ((o2.ext f4).ext FX) (o4.ext FX) (by omega) fun h' f => ?_
  exact H neg' p' n' c' e' h' (Fr.trans (Ext.trans F FX) f fun x hx e => by omega) (fr65.mono (by omega)) (N.fr f fun b o e e3 => by have := fr65 b o e; omega)
end Go.Proofs
namespace Go.Proofs
open Go Go.Eng
variable {B : World} {R : Ending → Heap → Prop} {h : Heap}
theorem two_of {α : Type} {l : List α} (h : l.length = 2) : ∃ a b, l = [a, b] := by
  match l, h with
  | [a, b], _ => exact ⟨a, b, rfl⟩
/-- dyadic.Cmp. -/
theorem K28 {K n c n2 c2 : Nat} {neg neg2 : Bool} {p p2 : Option Addr} {e e2 v w : Int} (N1 : NumS K h neg p n e v) (N2 : NumS K h neg2 p2 n2 e2 w) (hK : K ≤ 1048576) (hv : bl v.natAbs ≤ 50000) (hw : bl w.natAbs ≤ 50000)
    (H : ∀ h', Ext h h' → R (.returned (.tuple #[.int .i64 (v - w).sign, .int .i64 (0 : Int)])) h') :
    Ent Tryz.prog B 118 #[.agg #[.bool neg, .slice p n c, .int .i64 e], .agg #[.bool neg2, .slice p2 n2 c2, .int .i64 e2]] R h := by
  refine F28_ok _ _ _ _ _ _ _ _ _ _ (alK fun r7 h8 e7 f7 o7 z7 => alK fun r9 h10 e9 f9 o9 z9 => alK fun r11 h12 e11 f11 o11 z11 => ?_)
  have O7 := (o7.ext f9).ext f11
  have O9 := o9.ext f11
  refine ⟨r7, 0, rfl, _, O7.cell _, _, _, _, O7.cell _, _, O7.cell _, r9, 0, rfl, _, O9.cell _, _, _, _, O9.cell _, _, O9.cell _, alK fun r23 h24 e23 f23 o23 z23 => ?_⟩
  have F := Ext.trans f7 (Ext.trans f9 (Ext.trans f11 f23))
  refine K67 (numL2 o23 (N1.ext F) (N2.ext F)) rfl (by decide) fun xs h26 f26 X => ⟨_, _, _, rfl, ?_⟩
  obtain ⟨x0, x1, rfl⟩ := two_of X.len
  obtain ⟨cs, Ob, hc⟩ := X.own
  obtain ⟨c10, c11⟩ := hc 1 (by simp)
  obtain ⟨⟨I0, y1, y2, y3, y5⟩, b0, b1⟩ := X.at_ 0 (by simp) (by simp)
  obtain ⟨⟨I1, w1, w2, w3, w5⟩, d0, d1⟩ := X.at_ 1 (by simp) (by simp)
  obtain ⟨a1, a2, a3, a4⟩ := X.apart 0 1 (by decide) (by simp)
  simp only [List.getElem_cons_zero, List.getElem_cons_succ] at c10 c11 I0 y1 y2 y3 y5 b0 b1 I1 w1 w2 w3 w5 d0 d1 a1 a2 a3 a4
  refine ⟨h24.size, 0, rfl, by decide, by decide, h24.size, _, rfl, h24.size, _, rfl, _, by rw [Ob.cell]; exact c10, h24.size, 0, rfl, by decide, by decide, h24.size, _, rfl, h24.size, _, rfl, _, by rw [Ob.cell]; exact c10, ?_⟩
  refine K74i I1 fun q' h53 f53 d53 I53 => ⟨_, rfl, ?_⟩
  have l1 := I1.lt
  have lq := I1.lq
  have lb := Ob.lt
  have nS : ∀ x, x < x1.r → x < x1.q → ¬ (x = x1.r ∨ Rm x1.r x1.q x) := fun x h1 h2 hh => by
    rcases hh with hh | hh
    · omega
    · have := hh.1; omega
  have hq' : x1.r ≤ q' ∨ x1.q ≤ q' := by
    rcases d53 with e | e | e
    · omega
    · have := e.1; omega
    · omega
  have X' : ExL K h53 h24.size [x0, ⟨x1.r, q', -x1.m, x1.e⟩] [v, -w] := by
    refine ⟨rfl, ⟨cs, Ob.fr f53 (nS _ d0 d1), fun i hi => ?_⟩, fun i hi hv => ?_, fun i j hij hj => ?_⟩
    · have hi' : i < 2 := hi
      rcases (by omega : i = 0 ∨ i = 1) with rfl | rfl
      · exact hc 0 (by simp)
      · exact hc 1 (by simp)
    · have hi' : i < 2 := hi
      rcases (by omega : i = 0 ∨ i = 1) with rfl | rfl
      · exact ⟨⟨I0.fr f53 (nS _ a1 a3) (nS _ a2 a4), y1, y2, y3, y5⟩, b0, b1⟩
      · refine ⟨⟨I53, w1, w2, ?_, ?_⟩, d0, by show h24.size < q'; rcases hq' with e | e <;> omega⟩
        · show -w = -x1.m * 2 ^ (x1.e + (K : Int)).toNat
          rw [Int.neg_mul, ← w3]
        · show -x1.m = 0 ∨ (-x1.m).natAbs % 2 = 1
          rw [Int.natAbs_neg]; omega
    · have hj' : j < 2 := hj
      have hi0 : i = 0 := by omega
      have hj1 : j = 1 := by omega
      subst hi0 hj1
      exact ⟨a1, a2, by show x0.r < q'; rcases hq' with e | e <;> omega, by show x0.q < q'; rcases hq' with e | e <;> omega⟩
  refine K66 X' rfl (by decide) hK (fun i _ => Nat.le_trans (take2_bl hv (by rw [Int.natAbs_neg]; exact hw) i) (by decide)) (fun x hx => ?_) fun r q m e' h64 f64 I he hs => ⟨_, _, rfl, ?_⟩
  · rcases List.mem_cons.1 hx with e | hx
    · rw [e]; omega
    · rw [List.mem_singleton.1 hx, Int.natAbs_neg]; omega
  have hsum : [v, -w].sum = v - w := by simp; omega
  rw [hsum] at hs
  refine K75 I ⟨_, rfl, r11, 0, rfl, ?_⟩
  have s26 := f26.size
  have F53 : Ext h24 h53 := Fr.trans f26 f53 fun x hx e => nS x (by omega) (by omega) e
  have O11 := ((o11.ext f23).ext F53).ext f64
  refine O11.stL (by simp) rfl fun h4 a4 g4 => ⟨Ent62, K62r ?_⟩
  have A4 : Own h4 r11 #[.int .i64 (0 : Int)] := a4
  refine ⟨r11, 0, rfl, _, A4.cell _, ?_⟩
  have hsg : m.sign = (v - w).sign := by
    rw [hs, Int.sign_mul, Int.sign_eq_one_of_pos (Int.pow_pos (by decide) : (0 : Int) < 2 ^ (e' + (K : Int)).toNat), Int.mul_one]
  rw [hsg]
  exact H h4 (Fr.trans (Ext.trans F (Ext.trans F53 f64)) g4 fun x hx e => by omega)
/-- Its odd part has at most 64 bits. -/
def small64 (v : Int) : Prop := ∀ m k : Nat, v.natAbs = m * 2 ^ k → m % 2 = 1 → bl m ≤ 64
theorem fV_small (b : Int) : small64 (fV b) := by
  intro m k hv hm
  have hV : (fV b).natAbs = fM b * 2 ^ (fX b + 1074).toNat := by unfold fV; rw [signed_abs]
  have hM := fM_lt b
  rw [bl_le_iff]
  by_cases h0 : fM b = 0
  · rw [h0, Nat.zero_mul] at hV
    rw [hV] at hv
    have : 0 < m * 2 ^ k := Nat.mul_pos (by omega) (Nat.pow_pos (by decide))
    omega
  · have key : m ≤ fM b := by
      have e := hv.symm.trans hV
      rcases Nat.le_total k (fX b + 1074).toNat with hk | hk
      · obtain ⟨d, hd⟩ := Nat.exists_eq_add_of_le hk
        rw [hd, Nat.pow_add, Nat.mul_comm (2 ^ k), ← Nat.mul_assoc] at e
        have e2 := Nat.eq_of_mul_eq_mul_right (Nat.pow_pos (by decide)) e
        cases d with
        | zero => rw [Nat.pow_zero, Nat.mul_one] at e2; omega
        | succ d => rw [Nat.pow_succ, ← Nat.mul_assoc] at e2; omega
      · obtain ⟨d, hd⟩ := Nat.exists_eq_add_of_le hk
        rw [hd, Nat.pow_add, Nat.mul_comm (2 ^ _), ← Nat.mul_assoc] at e
        have e2 := Nat.eq_of_mul_eq_mul_right (Nat.pow_pos (by decide)) e
        rw [← e2]; exact Nat.le_mul_of_pos_right _ (Nat.pow_pos (by decide))
    omega
/-- dyadic.Mul, of two of one word. -/
theorem K23 {K n c n2 c2 : Nat} {neg neg2 : Bool} {p p2 : Option Addr} {e e2 v w : Int} (ht : TabH h) (N1 : NumS K h neg p n e v) (N2 : NumS K h neg2 p2 n2 e2 w) (hK : K ≤ 500000) (hv : bl v.natAbs ≤ 25000) (hw : bl w.natAbs ≤ 25000) (hs1 : small64 v)
    (H : ∀ neg' p' n' c' e' h', Ext h h' → Fresh h p' → NumS (K + K) h' neg' p' n' e' (v * w) → R (.returned (.tuple #[.agg #[.bool neg', .slice p' n' c', .int .i64 e'], .int .i64 (0 : Int)])) h') :
    Ent Tryz.prog B 72 #[.agg #[.bool neg, .slice p n c, .int .i64 e], .agg #[.bool neg2, .slice p2 n2 c2, .int .i64 e2]] R h := by
  refine F23_ok _ _ _ _ _ _ _ _ _ _ (alK fun r7 h8 e7 f7 o7 z7 => alK fun r9 h10 e9 f9 o9 z9 => alK fun r11 h12 e11 f11 o11 z11 => alK fun r13 h14 e13 f13 o13 z13 => ?_)
  have O7 := ((o7.ext f9).ext f11).ext f13
  have O9 := (o9.ext f11).ext f13
  refine ⟨r7, 0, rfl, _, O7.cell _, _, _, _, O7.cell _, _, O7.cell _, r9, 0, rfl, _, O9.cell _, _, _, _, O9.cell _, _, O9.cell _, alK fun r25 h26 e25 f25 o25 z25 => ?_⟩
  have F := Ext.trans f7 (Ext.trans f9 (Ext.trans f11 (Ext.trans f13 f25)))
  refine K67 (numL2 o25 (N1.ext F) (N2.ext F)) rfl (by decide) fun xs h28 f28 X => ⟨_, _, _, rfl, ?_⟩
  obtain ⟨x0, x1, rfl⟩ := two_of X.len
  obtain ⟨cs, Ob, hc⟩ := X.own
  obtain ⟨c00, c01⟩ := hc 0 (by simp)
  obtain ⟨c10, c11⟩ := hc 1 (by simp)
  obtain ⟨⟨I0, y1, y2, y3, y5⟩, b0, b1⟩ := X.at_ 0 (by simp) (by simp)
  obtain ⟨⟨I1, w1, w2, w3, w5⟩, d0, d1⟩ := X.at_ 1 (by simp) (by simp)
  obtain ⟨a1, a2, a3, a4⟩ := X.apart 0 1 (by decide) (by simp)
  simp only [List.getElem_cons_zero, List.getElem_cons_succ] at c00 c01 c10 c11 I0 y1 y2 y3 y5 b0 b1 I1 w1 w2 w3 w5 d0 d1 a1 a2 a3 a4
  refine ⟨h26.size, 0, rfl, by decide, by decide, h26.size, _, rfl, _, by rw [Ob.cell]; exact c00, _, by rw [Ob.cell]; exact c01, h26.size, 0, rfl, by decide, by decide, h26.size, _, rfl, _, by rw [Ob.cell]; exact c10, _, by rw [Ob.cell]; exact c11, ?_⟩
  have B0 := bl_part y3 hv
  have B1 := bl_part w3 hw
  refine K68 I0 I1 (by omega) (by omega) (by omega) ?_ (by omega) (by omega) fun rz qz h58 f58 gz gq I => ⟨_, _, rfl, ?_⟩
  · left
    rcases y5 with h0 | h0
    · rw [h0]; decide
    · exact hs1 _ _ (by rw [y3, abs_val]) h0
  have hvw : v * w = x0.m * x1.m * 2 ^ (x0.e + x1.e + ((K + K : Nat) : Int)).toNat := by
    rw [y3, w3, show (x0.e + x1.e + ((K + K : Nat) : Int)).toNat = (x0.e + (K : Int)).toNat + (x1.e + (K : Int)).toNat by omega, Int.pow_add]
    ac_rfl
  refine K65 (K := K + K) (ht.ext (Ext.trans F (Ext.trans f28 f58))) I (by omega) hvw (Nat.le_trans (bl_mul hv hw) (by decide)) (by omega) fun neg' p' n' c' e' h65 f65 fr65 N => ⟨_, _, _, _, _, rfl, ?_⟩
  have FX := Ext.trans f25 (Ext.trans f28 (Ext.trans f58 f65))
  have s46 := (Ext.trans f25 (Ext.trans f28 f58)).size
  refine numEnd ((o11.ext f13).ext FX) (o13.ext FX) (by omega) fun h' f => ?_
  exact H neg' p' n' c' e' h' (Fr.trans (Ext.trans f7 (Ext.trans f9 (Ext.trans f11 (Ext.trans f13 FX)))) f fun x hx e => by omega) (fr65.mono (by omega)) (N.fr f fun b o e e3 => by have := fr65 b o e; omega)
end Go.Proofs
