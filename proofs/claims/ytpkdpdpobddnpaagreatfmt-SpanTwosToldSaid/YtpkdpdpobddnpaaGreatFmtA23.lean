import Derived.Test.YtpkdpdpobddnpaaGreatFmtA19
/- Here stand lemmas: plumbref4: the cut. -/
set_option linter.unusedVariables false
set_option linter.unusedVariables false
namespace Go.Eng
open Go
def awayB (w : Nat) (neg half rest qo : Bool) : Bool :=
 match w with
 | 0 => half && (rest || qo)
 | 1 => neg && (half || rest)
 | 2 => !neg && (half || rest)
 | _ => false
def dirI (w : Nat) (neg : Bool) (i : Nat) : Nat := if i < INF then i else if topW w neg then INF else INF - 1
theorem awayB_W (w : Nat) (neg : Bool) (M : Nat) (e : Int) : awayB w neg (halfB (cutX M e) (cutD M e)) (restB (cutX M e) (cutD M e)) (decide (cutX M e / 2 ^ cutD M e % 2 = 1)) = awayW w neg M e := by
 unfold awayB awayW odd
 rw [incN_bits, odd_bits]
 rcases w with _ | _ | _ | w <;> rfl
end Go.Eng
namespace Go.Proofs
open Go Go.Eng
variable {B : World} {R : Ending -> Heap -> Prop} {h : Heap}
theorem low_mod {M t m d : Nat} (h : M = 2 ^ t * (2 * m + 1)) : (M % 2 ^ d ≠ 0) ↔ t < d := by
 constructor
 ·intro hne
  rcases Nat.lt_or_ge t d with h1 | h1
  ·exact h1
  ·exfalso; apply hne
   obtain ⟨k, rfl⟩ := Nat.exists_eq_add_of_le h1
   rw [h, Nat.pow_add, Nat.mul_assoc, Nat.mul_mod_right]
 ·intro hlt h0
  obtain ⟨k, rfl⟩ := Nat.exists_eq_add_of_lt hlt
  have hdvd : 2 ^ (t + k + 1) ∣ M := Nat.dvd_of_mod_eq_zero h0
  rw [h, show t + k + 1 = t + (k + 1) by omega, Nat.pow_add] at hdvd
  have := Nat.dvd_of_mul_dvd_mul_left (Nat.pow_pos (by decide)) hdvd
  have h2 : 2 ∣ 2 ^ (k + 1) := ⟨2 ^ k, by rw [Nat.pow_succ, Nat.mul_comm]⟩
  have := Nat.dvd_trans h2 this
  omega
def CutI (h1 : Heap) (neg : Bool) (e w sgn lw : Int) (r : Nat) (pk : Option Addr) (nk ck : Nat) (ek : List Nat) (half rest : Bool) (m : Nat) (vs : List Value) (h' : Heap) : Prop :=
 match vs with
 | [.bool ng, .int _ ex, .int _ wy, .pointer rr, .int _ sg, .int _ l, .slice pp np cp, .bool hf, .bool rs, .int _ mm, .int _ i] => neg = ng /\ e = ex /\ w = wy /\ rr = some (⟨r, 0, none⟩ : Addr) /\ sgn = sg /\ lw = l /\ pk = pp /\ nk = np /\ ck = cp /\ half = hf /\ rest = rs /\ h1 = h' /\
   i = (m : Int) - 1 /\ m <= nk /\ mm = (val B30 (ek.drop m) : Int)
 | _ => False
theorem cutFin {h1 : Heap} {r Km w : Nat} {L e sgn : Int} {neg od : Bool} (o1 : Own h1 r #[.int .i64 (53 : Int), .int .i64 (-1074 : Int), .int .i64 (1024 : Int), .int .i64 (9218868437227405312 : Int), .int .i64 (-9223372036854775808 : Int)])
  (hw : w <= 3) (hs : sgn = if neg then -9223372036854775808 else 0) (k1 : Km <= 9007199254740992) (k2 : L = -1074 \/ 4503599627370496 <= Km) (hLge : -1074 <= L) (hLle : L <= 10000000) (he : -10000000 <= e) (he2 : e <= 10000000)
  (H : ∀ h2, Ext h1 h2 -> R (.returned (.tuple #[.int .i64 (pat neg (dirI w neg ((L + 1074).toNat * 4503599627370496 + Km))), .bool (od || decide (INF <= (L + 1074).toNat * 4503599627370496 + Km))])) h2) :
  F237_j29 B R neg e (w : Int) (some ⟨r, 0, none⟩) sgn (L - e) (Km : Int) od h1 := by
 have hINF : INF = 9218868437227405312 := rfl
 have e52 : IntKind.i64.wrap ((1 : Int) * 2 ^ min (Int.toNat (IntKind.i64.wrap ((53 : Int) - (1 : Int)))) IntKind.i64.bits) = 4503599627370496 := by decide
 have e52' : (0 : Int) <= IntKind.i64.wrap ((53 : Int) - (1 : Int)) := by decide
 have eL : IntKind.i64.wrap (L - e + e) = L := by rw [i64_in (by omega) (by omega)]; omega
 have hpat : ∀ P : Nat, P < 9223372036854775808 -> IntKind.i64.wrap (sgn + (P : Int)) = pat neg P := by
  intro P hP
  rw [hs]
  unfold pat
  cases neg
  ·simp only [Bool.false_eq_true, if_false]; rw [Int.zero_add, i64_nat hP]
  ·simp only [if_true]; rw [i64_in (by omega) (by omega)]; omega
 have small : (L + 1074).toNat * 4503599627370496 + Km < INF -> F237_j31 B R neg (w : Int) (some ⟨r, 0, none⟩) sgn (Km : Int) od (IntKind.i64.wrap (L - e + e)) false h1 := by
  intro hlt
  rw [eL]
  refine ⟨nofun, fun _ => ⟨r, 0, rfl, _, o1.cell _, _, o1.cell _, _, o1.cell _, _, o1.cell _, _, o1.cell _, K256 k1 hLge k2 hlt fun h2 f2 => ⟨_, rfl, ?_⟩⟩⟩
  rw [hpat _ (by omega)]
  have := H h2 f2
  have hd : decide (INF <= (L + 1074).toNat * 4503599627370496 + Km) = false := by rw [decide_eq_false_iff_not]; omega
  rw [hd, Bool.or_false] at this
  unfold dirI at this
  rw [if_pos hlt] at this
  exact this
 refine ⟨fun e0 => ⟨r, 0, rfl, r, 0, rfl, _, o1.cell _, e52', ?_⟩, fun e0 => ⟨nofun, fun _ => ?_⟩⟩
 ·rw [e52]
  refine ⟨fun e1 => ⟨r, 0, rfl, r, 0 + 2, rfl, _, o1.cell _, K255 (by omega) ⟨_, rfl, same1 (S := fun _ => False) o1 Fr.rfl' id, ?_⟩⟩, fun e1 => ?_⟩
  ·have hge : 4503599627370496 <= Km := by have := of_decide_eq_true e1; omega
   have hblk : bl Km = 53 /\ Km < 9007199254740992 \/ bl Km = 54 /\ Km = 9007199254740992 := by
    by_cases hk : Km < 9007199254740992
    ·exact .inl ⟨(bl_iff (k := 52) (by omega)).2 ⟨by omega, by omega⟩, hk⟩
    ·exact .inr ⟨(bl_iff (k := 53) (by omega)).2 ⟨by omega, by omega⟩, by omega⟩
   have eb : IntKind.i64.wrap ((bl Km : Int) + L) = (bl Km : Int) + L := i64_in (by rcases hblk with h | h <;> omega) (by rcases hblk with h | h <;> omega)
   by_cases hinf : (L + 1074).toNat * 4503599627370496 + Km < INF
   ·have : decide ((1024 : Int) < IntKind.i64.wrap ((bl Km : Int) + IntKind.i64.wrap (L - e + e))) = false := by
     rw [eL, eb, decide_eq_false_iff_not]
     rcases hblk with ⟨h, h'⟩ | ⟨h, h'⟩ <;> omega
    rw [this]
    exact small hinf
   ·have : decide ((1024 : Int) < IntKind.i64.wrap ((bl Km : Int) + IntKind.i64.wrap (L - e + e))) = true := by
     rw [eL, eb, decide_eq_true_eq]
     rcases hblk with ⟨h, h'⟩ | ⟨h, h'⟩ <;> omega
    rw [this]
    have h2 := H h1 Fr.rfl'
    have hd : decide (INF <= (L + 1074).toNat * 4503599627370496 + Km) = true := by rw [decide_eq_true_eq]; omega
    rw [hd, Bool.or_true] at h2
    unfold dirI at h2
    rw [if_neg hinf] at h2
    have hp := hpat 9218868437227405312 (by omega)
    have hp1 : IntKind.i64.wrap (IntKind.i64.wrap (sgn + 9218868437227405312) - 1) = pat neg 9218868437227405311 := by
     rw [<- hpat 9218868437227405311 (by omega)]
     rw [hs]
     cases neg <;> decide
    have yes : topW w neg = true -> F237_j32 B R (some ⟨r, 0, none⟩) sgn true h1 := fun ht => ⟨fun _ => ⟨r, 0, rfl, r, 0 + 3, rfl, _, o1.cell _, by
     rw [ht, if_pos rfl] at h2
     rw [show ((9218868437227405312 : Int)) = ((9218868437227405312 : Nat) : Int) from rfl, hp]
     exact h2⟩, nofun⟩
    have no : topW w neg = false -> F237_j32 B R (some ⟨r, 0, none⟩) sgn false h1 := fun ht => ⟨nofun, fun _ => ⟨r, 0, rfl, r, 0 + 3, rfl, _, o1.cell _, by
     rw [ht, if_neg (by decide)] at h2
     rw [hp1]
     exact h2⟩⟩
    refine ⟨fun _ => ?_, nofun⟩
    match w, hw with
    | 0, _ => exact ⟨fun _ => ⟨fun _ => yes rfl, nofun⟩, fun e => by cases e⟩
    | 1, _ =>
     refine ⟨nofun, fun _ => ⟨nofun, fun _ => ⟨nofun, fun _ => ⟨fun _ => ?_, fun e => by cases e⟩⟩⟩⟩
     cases neg
     ·exact no rfl
     ·exact yes rfl
    | 2, _ =>
     refine ⟨nofun, fun _ => ⟨fun _ => ?_, fun e => by cases e⟩⟩
     cases neg
     ·exact ⟨fun _ => yes rfl, fun e => by cases e⟩
     ·exact ⟨nofun, fun _ => ⟨nofun, fun _ => no rfl⟩⟩
    | 3, _ => exact ⟨nofun, fun _ => ⟨nofun, fun _ => ⟨nofun, fun _ => ⟨nofun, fun _ => no rfl⟩⟩⟩⟩
  ·have hlt : Km < 4503599627370496 := by have := of_decide_eq_false e1; omega
   exact small (by rcases k2 with h | h <;> omega)
 ·have hlt : Km = 0 := by have := of_decide_eq_false e0; omega
  exact small (by rcases k2 with h | h <;> omega)
theorem cutLoop {h1 : Heap} {r nk ck Km w : Nat} {e sgn lw : Int} {neg half rest : Bool} {pk : Option Addr} {ek : List Nat} (hw : w <= 3) (Dk : DigI h1 pk nk ek) (hvk : val B30 ek <= 9007199254740992) (hnk : nk <= 2)
  (hm' : Km = val B30 ek + (awayB w neg half rest (decide (val B30 ek % 2 = 1))).toNat)
  (fin : F237_j29 B R neg e (w : Int) (some ⟨r, 0, none⟩) sgn lw (Km : Int) (half || rest) h1) :
  F237_j76 B R neg e (w : Int) (some ⟨r, 0, none⟩) sgn lw pk nk ck half rest h1 := by
 have lk := Dk.len
 refine ⟨CutI h1 neg e w sgn lw r pk nk ck ek half rest, nk, ⟨rfl, rfl, rfl, rfl, rfl, rfl, rfl, rfl, rfl, rfl, rfl, rfl, by rw [i64_in (by omega) (by omega)], Nat.le_refl _, ?_⟩, ?_⟩
 ·rw [List.drop_of_length_le (by omega)]; rfl
 rintro m h2 _ _ _ _ _ _ _ _ _ _ _ _ _ ⟨rfl, rfl, rfl, rfl, rfl, rfl, rfl, rfl, rfl, rfl, rfl, rfl, rfl, hm, rfl⟩ _
 refine ⟨fun e0 => ⟨by decide, ?_⟩, fun e0 => ?_⟩
 ·have hm0 : 0 < m := by have := of_decide_eq_true e0; omega
  have dm := Dk.dig.get (i := m - 1) (by omega)
  have hB : B30 = 1073741824 := rfl
  have hd := val_drop B30 ek (i := m - 1) (by omega)
  rw [show m - 1 + 1 = m by omega] at hd
  have hd2 : B30 * val B30 (ek.drop m) = 1073741824 * val B30 (ek.drop m) := rfl
  have hle : val B30 (ek.drop (m - 1)) <= val B30 ek := by
   have := val_split B30 ek (i := m - 1) (by omega)
   have h3 : val B30 (ek.drop (m - 1)) <= B30 ^ (m - 1) * val B30 (ek.drop (m - 1)) := Nat.le_mul_of_pos_left _ (Nat.pow_pos (by decide))
   omega
  refine Dk.sl.get (m - 1) (by omega) (by omega) (by omega) ⟨m - 1, by omega, rfl, rfl, rfl, rfl, rfl, rfl, rfl, rfl, rfl, rfl, rfl, rfl, by rw [i64_in (by omega) (by omega)]; omega, by omega, ?_⟩
  have e30 : (val B30 (ek.drop m) : Int) * 2 ^ min (Int.toNat (30 : Int)) IntKind.i64.bits = ((1073741824 * val B30 (ek.drop m) : Nat) : Int) := by
   have : min (Int.toNat (30 : Int)) IntKind.i64.bits = 30 := by decide
   rw [this]; omega
  rw [e30, i64_nat (by omega), <- Int.natCast_add, i64_nat (by omega), hd]
  omega
 ·have hm0 : m = 0 := by have := of_decide_eq_false e0; omega
  subst hm0
  rw [List.drop_zero]
  have hj27 : ∀ (away : Bool), away = awayB w neg half rest (decide (val B30 ek % 2 = 1)) -> F237_j27 B R neg e (w : Int) (some ⟨r, 0, none⟩) sgn lw (val B30 ek : Int) (half || rest) away h1 := by
   intro away ha
   rw [<- ha] at hm'
   refine ⟨fun h => ?_, fun h => ?_⟩
   ·rw [h] at hm'
    simp only [Bool.toNat_true] at hm'
    rw [i64_in (by omega) (by omega), show (val B30 ek : Int) + 1 = (Km : Int) by omega]
    exact fin
   ·rw [h] at hm'
    simp only [Bool.toNat_false] at hm'
    rw [show (val B30 ek : Int) = (Km : Int) by omega]
    exact fin
  have hj19 : F237_j19 B R neg e (w : Int) (some ⟨r, 0, none⟩) sgn lw half rest (val B30 ek : Int) (half || rest) h1 := by
   have h2 : decide (Int.tmod (val B30 ek : Int) (2 : Int) = (1 : Int)) = decide (val B30 ek % 2 = 1) := by rw [tm2, decide_eq_decide]; omega
   match w, hw, hj27 with
   | 0, _, hj27 =>
    refine ⟨fun _ => ⟨fun hh => ⟨fun hr => hj27 true (by unfold awayB; rw [hh, hr]; rfl), fun hr => ⟨by decide, ?_⟩⟩, fun hh => hj27 false (by unfold awayB; rw [hh]; rfl)⟩, fun e => by cases e⟩
    rw [h2]
    exact hj27 _ (by unfold awayB; rw [hh, hr]; simp)
   | 1, _, hj27 => exact ⟨nofun, fun _ => ⟨fun _ => ⟨fun hn => hj27 _ (by unfold awayB; rw [hn]; rfl), fun hn => hj27 _ (by unfold awayB; rw [hn]; rfl)⟩, fun e => by cases e⟩⟩
   | 2, _, hj27 => exact ⟨nofun, fun _ => ⟨nofun, fun _ => ⟨fun _ => ⟨fun hn => hj27 _ (by unfold awayB; rw [hn]; rfl), fun hn => hj27 _ (by unfold awayB; rw [hn]; rfl)⟩, fun e => by cases e⟩⟩⟩
   | 3, _, hj27 => exact ⟨nofun, fun _ => ⟨nofun, fun _ => ⟨nofun, fun _ => hj27 _ rfl⟩⟩⟩
  refine ⟨fun hh => ?_, fun hh => ?_⟩
  ·have e1 : (half || rest) = true := by rw [hh]; rfl
   rw [e1] at hj19; exact hj19
  ·have e1 : (half || rest) = rest := by rw [hh]; rfl
   rw [e1] at hj19; exact hj19
theorem cutTail {h1 : Heap} {r nk ck n c M w : Nat} {L e sgn : Int} {neg more : Bool} {p pk : Option Addr} {ek : List Nat} (hw : w <= 3) (D : DigI h1 p n (digs B30 M)) (hM : 0 < M) (hn : n <= 100000) (hL1 : -10000000 <= L - e) (hL2 : L - e <= 10000000)
  (Dk : DigI h1 pk nk ek) (hvk : val B30 ek = (M * 2 ^ (e - L).toNat) / 2 ^ (L - e).toNat) (hkm : val B30 ek <= 9007199254740991)
  (fin : F237_j29 B R neg e (w : Int) (some ⟨r, 0, none⟩) sgn (L - e) ((val B30 ek + (awayB w neg (halfB (M * 2 ^ (e - L).toNat) (L - e).toNat) (more || restB (M * 2 ^ (e - L).toNat) (L - e).toNat) (decide (val B30 ek % 2 = 1))).toNat : Nat) : Int)
   (halfB (M * 2 ^ (e - L).toNat) (L - e).toNat || (more || restB (M * 2 ^ (e - L).toNat) (L - e).toNat)) h1) :
  F237_j11 B R neg p n c e more (w : Int) (some ⟨r, 0, none⟩) sgn (L - e) pk nk ck h1 := by
 have hv : val B30 (digs B30 M) = M := digs_val (by decide) M
 have hnk : nk <= 2 := Dk.short (by rw [bl_le_iff]; exact Nat.lt_of_le_of_lt hkm (by decide))
 have e1 : IntKind.i64.wrap (L - e - 1) = L - e - 1 := i64_in (by omega) (by omega)
 unfold F237_j11
 rw [e1]
 refine K254 D.u (by omega) (by omega) ⟨_, rfl, ?_⟩
 rw [hv]
 have hX : 0 < (L - e).toNat -> M * 2 ^ (e - L).toNat = M := by
  intro h
  rw [show (e - L).toNat = 0 by omega, Nat.pow_zero, Nat.mul_one]
 have hhalf : (decide (0 <= L - e - 1) && decide (M / 2 ^ (L - e - 1).toNat % 2 = 1)) = halfB (M * 2 ^ (e - L).toNat) (L - e).toNat := by
  unfold halfB
  have e1 : decide (0 <= L - e - 1) = decide (0 < (L - e).toNat) := by rw [decide_eq_decide]; omega
  rw [e1]
  by_cases h0 : 0 < (L - e).toNat
  ·rw [hX h0, show (L - e - 1).toNat = (L - e).toNat - 1 by omega]
  ·rw [decide_eq_false h0]; rfl
 rw [hhalf]
 have end_ : ∀ rest : Bool, rest = (more || restB (M * 2 ^ (e - L).toNat) (L - e).toNat) ->
   F237_j76 B R neg e (w : Int) (some ⟨r, 0, none⟩) sgn (L - e) pk nk ck (halfB (M * 2 ^ (e - L).toNat) (L - e).toNat) rest h1 := by
  intro rest hrest
  rw [<- hrest] at fin
  exact cutLoop hw Dk (by omega) hnk rfl fin
 refine ⟨fun em => end_ true (by rw [em]; rfl), fun em => ⟨fun e0 => ?_, fun e0 => ⟨nofun, fun _ => end_ false ?_⟩⟩⟩
 ·have hd1 : 0 < L - e - 1 := of_decide_eq_true e0
  refine K190 D.u (by omega) (fun h0 => by rw [hv] at h0; omega) fun t m ht => ⟨_, rfl, fun _ => K190 D.u (by omega) (fun h0 => by rw [hv] at h0; omega) fun t' m' ht' => ⟨_, rfl, ?_⟩, fun e1 => by have := of_decide_eq_false e1; omega⟩
  rw [hv] at ht'
  refine end_ _ ?_
  unfold restB
  rw [em, Bool.false_or, hX (by omega)]
  have h1' : decide (0 < (L - e).toNat - 1) = true := by rw [decide_eq_true_eq]; omega
  rw [h1', Bool.true_and, decide_eq_decide, low_mod ht']
  omega
 ·have hd1 : ¬ 0 < L - e - 1 := of_decide_eq_false e0
  have h1' : decide (0 < (L - e).toNat - 1) = false := by rw [decide_eq_false_iff_not]; omega
  unfold restB
  rw [em, h1']; rfl
theorem K237g {neg more : Bool} {p : Option Addr} {n c M w : Nat} {e : Int} (hw : w <= 3) (D : DigI h p n (digs B30 M)) (hM : 0 < M) (hn : n <= 100000) (he : -2097152 <= e) (he2 : e <= 2097152)
  (H : ∀ h', Ext h h' -> R (.returned (.tuple #[.int .i64 (pat neg (dirI w neg (flo M e + (awayB w neg (halfB (cutX M e) (cutD M e)) (more || restB (cutX M e) (cutD M e)) (decide (cutX M e / 2 ^ cutD M e % 2 = 1))).toNat))),
   .bool (halfB (cutX M e) (cutD M e) || (more || restB (cutX M e) (cutD M e)) || decide (INF <= flo M e + (awayB w neg (halfB (cutX M e) (cutD M e)) (more || restB (cutX M e) (cutD M e)) (decide (cutX M e / 2 ^ cutD M e % 2 = 1))).toNat))])) h') :
  Ent Tryz.prog B 133 #[K64V, .bool neg, .slice p n c, .int .i64 e, .bool more, .int .i64 (w : Int)] R h := by
 refine F237_ok _ _ _ _ _ _ _ _ _ _ _ _ (alK fun r h12 e11 f11 o11 z11 => ?_)
 have hv : val B30 (digs B30 M) = M := digs_val (by decide) M
 have hbl : bl M <= 3000000 := by
  have := bl_dig (k := 30) rfl D.dig
  rw [hv, D.len] at this; omega
 have hb1 : bl M = M.log2 + 1 := bl_eq (by omega)
 obtain ⟨k1, k2⟩ := flo_bd e (show M ≠ 0 by omega)
 have hLge := lastP_ge M e
 have hLdef : lastP M e = max (e + M.log2 - 52) (-1074) := rfl
 have hflo : flo M e = (lastP M e + 1074).toNat * 4503599627370496 + cutX M e / 2 ^ cutD M e := rfl
 rw [hflo] at H
 have hcX : cutX M e = M * 2 ^ (e - lastP M e).toNat := rfl
 have hcD : cutD M e = (lastP M e - e).toNat := rfl
 simp only [hcX, hcD] at H k1 k2
 clear hflo hcX hcD
 have main : ∀ sgn : Int, (sgn = if neg then -9223372036854775808 else 0) -> F237_j4 B R neg p n c e more (w : Int) (some ⟨r, 0, none⟩) sgn h12 := by
  intro sgn hs
  refine K253 (D.ext f11) (by omega) ⟨_, rfl, fun e0 => ?_, fun _ => ⟨nofun, fun _ => ⟨r, 0, rfl, r, 0, rfl, _, o11.cell _, r, 0, rfl, r, 0 + 1, rfl, _, o11.cell _, ?_⟩⟩⟩
  ·rw [hv] at e0; have := of_decide_eq_true e0; omega
  rw [hv]
  have ew : IntKind.i64.wrap ((if (-1074 : Int) > (IntKind.i64.wrap ((IntKind.i64.wrap ((bl M : Int) + e)) - (53 : Int))) then (-1074 : Int) else (IntKind.i64.wrap ((IntKind.i64.wrap ((bl M : Int) + e)) - (53 : Int)))) - e) = lastP M e - e := by
   rw [i64_in (x := (bl M : Int) + e) (by omega) (by omega), i64_in (x := (bl M : Int) + e - 53) (by omega) (by omega)]
   have : (if (-1074 : Int) > (bl M : Int) + e - 53 then (-1074 : Int) else (bl M : Int) + e - 53) = lastP M e := by split <;> omega
   rw [this]
   exact i64_in (by omega) (by omega)
  rw [ew]
  have hL1 : -10000000 <= lastP M e - e := by omega
  have hL2 : lastP M e - e <= 10000000 := by omega
  have hL3 : lastP M e <= 10000000 := by omega
  clear hLdef ew
  generalize lastP M e = L at *
  have fin : ∀ (h1 : Heap) (q : Nat), Ext h12 h1 -> q = M * 2 ^ (e - L).toNat / 2 ^ (L - e).toNat -> F237_j29 B R neg e (w : Int) (some ⟨r, 0, none⟩) sgn (L - e) ((q + (awayB w neg (halfB (M * 2 ^ (e - L).toNat) (L - e).toNat) (more || restB (M * 2 ^ (e - L).toNat) (L - e).toNat) (decide (q % 2 = 1))).toNat : Nat) : Int)
    (halfB (M * 2 ^ (e - L).toNat) (L - e).toNat || (more || restB (M * 2 ^ (e - L).toNat) (L - e).toNat)) h1 := by
   intro h1 q f1 hq
   rw [<- hq] at H k1 k2
   generalize (awayB w neg (halfB (M * 2 ^ (e - L).toNat) (L - e).toNat) (more || restB (M * 2 ^ (e - L).toNat) (L - e).toNat) (decide (q % 2 = 1))) = a at *
   have ha : a.toNat <= 1 := by cases a <;> decide
   refine cutFin (o11.ext f1) hw hs (by omega) (by omega) hLge hL3 (by omega) (by omega) fun h2 f2 => ?_
   have := H h2 (Ext.trans f11 (Ext.trans f1 f2))
   rw [Nat.add_assoc] at this
   exact this
  have hif : ∀ x : Int, (if (0 : Int) > x then (0 : Int) else x) = ((x.toNat : Nat) : Int) := by intro x; split <;> omega
  rw [hif]
  refine K191 (D.u.ext f11) (by omega) (by omega) fun p57 n57 c57 e57 h54 f54 fr54 D57 h57 => ⟨_, _, _, rfl, fun e0 => ?_, fun e0 => ?_⟩
  ·have hneg : L - e < 0 := of_decide_eq_true e0
   rw [i64_in (x := 0 - (L - e)) (by omega) (by omega), show 0 - (L - e) = (((e - L).toNat : Nat) : Int) by omega]
   refine K177 (D.u.ext (Ext.trans f11 f54)) (by omega) (by omega) fun p62 n62 c62 e62 h59 f59 fr59 D62 h62 => ⟨_, _, _, rfl, ?_⟩
   have hq : val B30 e62 = M * 2 ^ (e - L).toNat / 2 ^ (L - e).toNat := by
    rw [h62, hv, show (L - e).toNat = 0 by omega, Nat.pow_zero, Nat.div_one]
   exact cutTail hw (D.ext (Ext.trans f11 (Ext.trans f54 f59))) hM hn hL1 hL2 D62 hq (by omega) (fin _ _ (Ext.trans f54 f59) hq)
  ·have hneg : ¬ L - e < 0 := of_decide_eq_false e0
   have hq : val B30 e57 = M * 2 ^ (e - L).toNat / 2 ^ (L - e).toNat := by
    rw [h57, hv, show (e - L).toNat = 0 by omega, Nat.pow_zero, Nat.mul_one]
   exact cutTail hw (D.ext (Ext.trans f11 f54)) hM hn hL1 hL2 D57 hq (by omega) (fin _ _ f54 hq)
 cases neg
 ·exact ⟨nofun, fun _ => main 0 rfl⟩
 ·exact ⟨fun _ => ⟨r, 0, rfl, r, 0 + 4, rfl, _, o11.cell _, main _ rfl⟩, nofun⟩
theorem K237w {neg : Bool} {p : Option Addr} {n c M w : Nat} {e : Int} (hw : w <= 3) (D : DigI h p n (digs B30 M)) (hM : 0 < M) (hn : n <= 100000) (he : -2097152 <= e) (he2 : e <= 2097152)
  (H : ∀ h', Ext h h' -> R (.returned (.tuple #[.int .i64 (pat neg (dirP w neg M e)), .bool (inx w neg M e)])) h') :
  Ent Tryz.prog B 133 #[K64V, .bool neg, .slice p n c, .int .i64 e, .bool false, .int .i64 (w : Int)] R h := by
 refine K237g hw D hM hn he he2 fun h' f => ?_
 have := H h' f
 unfold dirP inx idxW odd at this
 rw [<- awayB_W, odd_bits] at this
 exact this
end Go.Proofs
namespace Go.Proofs
open Go Go.Eng
variable {B : World} {R : Ending -> Heap -> Prop} {h : Heap}
theorem _root_.Go.Eng.Own.stL {h : Heap} {b o : Nat} {l : List Value} {v : Value} {K : Heap -> Prop} (H : Own h b l.toArray) (ho : o < l.length) (hv : oneCell v = true)
  (k : ∀ h', Own h' b (l.set o v).toArray -> Fr (fun x => x = b) h h' -> K h') : stC h b o v K :=
 H.stC (by simpa using ho) hv fun O f => k _ (by simpa using O) f
theorem NumS.zero_iff {K : Nat} {xneg : Bool} {p : Option Addr} {n : Nat} {e v : Int} (N : NumS K h xneg p n e v) : decide (((n : Nat) : Int) = (0 : Int)) = decide (v = 0) := by
 obtain ⟨M, I, a1, a2⟩ := N
 rw [decide_eq_decide]
 rcases numI_cases I with ⟨q, _⟩ | q
 ·have := I.d.len
  rw [q, digs_zero] at this
  have hv : v = 0 := by rw [a2, q]; unfold Ieee.signed; simp
  simp at this; omega
 ·have := I.d.len
  rw [digs_ne (by decide) (by omega)] at this
  have hv : v ≠ 0 := by rw [a2]; exact signed_ne (by omega)
  simp at this; omega
end Go.Proofs
namespace Go.Proofs
open Go Go.Eng
variable {B : World} {R : Ending -> Heap -> Prop} {h : Heap}
theorem sameN {h h' : Heap} {b o : Nat} {cs : Array Value} {S : Nat -> Prop} (H : Own h b cs) (f : Fr S h h') (hb : ¬ S b) : ∀ n, sameCells h h' b o n
 | 0 => trivial
 | 1 => same1 H f hb
 | n + 2 => ⟨sameN H f hb (n + 1), by rw [H.cell, (H.fr f hb).cell]⟩
end Go.Proofs
namespace Go.Proofs
open Go Go.Eng
variable {B : World} {R : Ending -> Heap -> Prop} {h : Heap}
theorem NaNP_I64 : I64 NaNP := by unfold I64 NaNP; omega
theorem plusP_I64 (na ia sa : Bool) (va : Int) (nb ib sb : Bool) (vb : Int) : I64 (plusP na ia sa va nb ib sb vb) := by
 unfold plusP
 split
 ·exact NaNP_I64
 ·split
  ·exact pat_I64 (by decide)
  ·split
   ·exact pat_I64 (by decide)
   ·exact pat_I64 (by have := rung_lt (va + vb).natAbs (-1074); omega)
theorem addP_I64 (a b : Int) : I64 (addP a b) := plusP_I64 _ _ _ _ _ _ _ _
theorem mulP_I64 (a b : Int) : I64 (mulP a b) := by
 unfold mulP timesP
 split
 ·exact NaNP_I64
 ·split
  ·exact pat_I64 (by decide)
  ·exact pat_I64 (by have := rung_lt (fW a * fW b).natAbs (-2148); omega)
end Go.Proofs
