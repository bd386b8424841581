import Derived.Test.YtcbcgggnmncbjaaGreatFmtA27
import Derived.Test.YtcbcgggnmncbjaaGreatFmtA23
/- Here stand lemmas and contracts, in the order in which they are used. -/
set_option linter.unusedVariables false
set_option linter.unusedVariables false
namespace Go.Eng
open Go
/-- A big.Float other than 0: V times 2^(E - 64 n), its mantissa's highest bit set. -/
def FltV (h : Heap) (r q : Nat) (pr ac : Int) (ng : Bool) (n V : Nat) (E : Int) : Prop :=
  ∃ o c ws, Flt h r pr ac 1 ng (some ⟨q, o, none⟩) n c E ∧ Mn h q o n c ws ∧ val 18446744073709551616 ws = V ∧ Top n V ∧ q ≠ r
theorem Mn.of {h : Heap} {p : Option Addr} {n c V : Nat} {S : Nat → Prop} (N : NatI h p n V) (D : Dst h p c S) (hc : n ≤ c) (h0 : 0 < n) :
    ∃ q o ws, p = some ⟨q, o, none⟩ ∧ Mn h q o n c ws ∧ val 18446744073709551616 ws = V ∧ ws.getD (n - 1) 0 ≠ 0 ∧ S q := by
  obtain ⟨ws, s1, s2, s3, s4, s5⟩ := N.ex
  rcases D.room with e | ⟨b, o, cs, e1, e2, e3, e4⟩
  · omega
  have hw : ws ≠ [] := fun e => by rw [e] at s2; simp at s2; omega
  rcases s1 with s1 | ⟨b', o', cs', f1, f2, f3⟩
  · exact absurd s1 hw
  · rw [e1] at f1
    cases f1
    have := e2.inj f2
    subst this
    refine ⟨b, o, ws, e1, ⟨⟨cs, e2, e3, f3⟩, s2, hc, D.lim, s3⟩, s5, ?_, e4⟩
    intro h0
    apply s4
    rw [List.getLast?_eq_some_getLast hw]
    have hl : ws.getLast hw = ws.getD (n - 1) 0 := by
      rw [List.getD_eq_getElem?_getD, List.getElem?_eq_getElem (by omega), Option.getD_some, List.getLast_eq_getElem]
      congr 1; omega
    rw [hl, h0]
end Go.Eng
namespace Go.Proofs
open Go Go.Eng
variable {B : World} {R : Ending → Heap → Prop} {h : Heap}
/-- setExpAndRound of what fits. -/
theorem K1094a {r q o n c V : Nat} {pr ac fo ex E : Int} {ng : Bool} {ws : List Nat} (F : Flt h r pr ac fo ng (some ⟨q, o, none⟩) n c ex) (M : Mn h q o n c ws) (hq : q ≠ r) (hV : val B64 ws = V)
    (hE : -2147483648 ≤ E) (hE2 : E ≤ 2147483647) (h0 : 0 < n) (hp : 64 * ((n : Int) - 1) < pr) (hp1 : 1 ≤ pr) (hn : n ≤ 30000000) (hz : V % 2 ^ (64 * n - pr).toNat = 0)
    (H : ∀ h', Flt h' r pr 0 1 ng (some ⟨q, o, none⟩) n c E → Mn h' q o n c ws → Fr (fun x => x = r ∨ x = q) h h' → R (.returned (.tuple #[])) h') :
    Ent Tryz.prog B 84 #[.pointer (some ⟨r, 0, none⟩), .int .i64 E, .int .u64 (0 : Int)] R h := by
  refine F1094_ok _ _ _ ⟨fun e => by have := of_decide_eq_true e; omega, fun _ => ⟨fun e => by have := of_decide_eq_true e; omega, fun _ => F.sfo fun h1 F1 f1 => F1.sex fun h2 F2 f2 => ?_⟩⟩
  rw [wrap_i32_in (by omega) (by omega)] at F2
  have f12 : Fr (fun x => x = r) h h2 := Fr.trans f1 f2 fun _ _ e => e
  refine K1110a F2 (M.fr f12 hq) hq hV h0 hp hp1 hn hz fun h3 F3 M3 f3 => ⟨rfl, ?_⟩
  exact H h3 F3 M3 (Fr.trans (f12.mono (T := fun x => x = r ∨ x = q) fun _ _ e => .inl e) f3 fun _ _ e => e)
theorem if_max (x : Int) : (if (64 : Int) > x then (64 : Int) else x) = max x 64 := by split <;> omega
/-- Float.SetInt of a number other than 0, into a blank one. -/
theorem K1079 {rf r qx : Nat} {v : Int} (F : Flt h rf 0 0 0 false none 0 0 0) (hx : IntAt h r qx v) (hr : rf ≠ r) (hqx : rf ≠ qx) (hv : v ≠ 0) (hb : bl v.natAbs ≤ 1000000)
    (H : ∀ q n h', Fr (fun x => x = rf) h h' → h.size ≤ q → bl v.natAbs ≤ 64 * n → n ≤ 20000 → 64 * n < bl v.natAbs + 64 → FltV h' rf q (max (bl v.natAbs : Int) 64) 0 (decide (v < 0)) n (v.natAbs * 2 ^ (64 * n - bl v.natAbs)) (bl v.natAbs : Int) → R (.returned (.pointer (some ⟨rf, 0, none⟩))) h') :
    Ent Tryz.prog B 42 #[.pointer (some ⟨rf, 0, none⟩), .pointer (some ⟨r, 0, none⟩)] R h := by
  obtain ⟨p, n, c, h1, h2, h3, h4⟩ := hx.ex
  have hl := h2.len hb
  have hz := h2.zero
  have hn0 : 0 < n := by omega
  have eb : IntKind.u32.wrap (bl v.natAbs : Int) = (bl v.natAbs : Int) := wrap_u32_in (by omega) (by omega)
  refine F1079_ok _ _ (K124 hx ⟨_, rfl, F.p0 ⟨fun _ => F.sp0 fun g1 F1 f1 => ?_, fun e => by simp at e⟩⟩)
  rw [eb, if_max] at F1
  have X1 : Own g1 r _ := h1.fr f1 (fun e => hr e.symm)
  refine F1.sac fun g2 F2 f2 => ?_
  have X2 : Own g2 r _ := X1.fr f2 (fun e => hr e.symm)
  refine ldB X2 (F2.sng fun g3 F3 f3 => ?_)
  have X3 : Own g3 r _ := X2.fr f3 (fun e => hr e.symm)
  have f13 : Fr (fun x => x = rf) h g3 := Fr.trans (Fr.trans f1 f2 fun _ _ e => e) f3 fun _ _ e => e
  have N3 : NatI g3 p n v.natAbs := h2.keep h4 h3 f13 fun b hb e => hqx (e.symm.trans hb.1)
  refine ldS X3 ⟨fun e => by have := of_decide_eq_true e; omega, fun _ => F3.ma (ldS X3 (K182 (S := fun _ => False) Dst.none N3 (by omega) fun q' c' g4 f4 hc4 N4 D4 => ⟨_, _, _, rfl, ?_⟩))⟩
  obtain ⟨q, o, ws, rfl, M4, v4, t4, hq4⟩ := Mn.of N4 D4 hc4 hn0
  have hq : q ≠ rf := by
    have := F3.lt
    rcases hq4 with e | e
    · exact e.elim
    · intro e2; subst e2; omega
  have F4 : Flt g4 rf _ _ _ _ _ _ _ _ := F3.fr f4 id
  refine F4.sma fun g5 F5 f5 => ?_
  have M5 : Mn g5 q o n c' ws := M4.fr f5 hq
  have hws : ws ≠ [] := fun e => by have := M4.len; rw [e] at this; simp at this; omega
  have hlast : ws.getLast hws = ws.getD (n - 1) 0 := by
    have := M4.len
    rw [List.getD_eq_getElem?_getD, List.getElem?_eq_getElem (by omega), Option.getD_some, List.getLast_eq_getElem]
    congr 1; omega
  have hbl : bl v.natAbs = 64 * (n - 1) + bl (ws.getD (n - 1) 0) := by
    rw [← v4, ← hlast, ← M4.len]; exact bl_val M4.dig hws (by rw [hlast]; exact t4)
  have hb1 := bl_pos t4
  have hb2 : bl (ws.getD (n - 1) 0) ≤ 64 := bl_le_iff.2 (by rw [← hlast]; exact M4.dig _ (List.getLast_mem hws))
  refine F5.ma (K1093 M5 hn0 t4 v4 fun zs g6 M6 f6 hv6 => ⟨_, rfl, ?_⟩)
  have F6 : Flt g6 rf _ _ _ _ _ _ _ _ := F5.fr f6 fun e => hq e.symm
  rw [eb, i64_in (x := (bl v.natAbs : Int)) (by omega) (by omega)]
  have hmod : (v.natAbs * 2 ^ (64 * n - bl v.natAbs)) % 2 ^ (64 * (n : Int) - max (bl v.natAbs : Int) 64).toNat = 0 := by
    by_cases hge : 64 ≤ bl v.natAbs
    · rw [show (64 * (n : Int) - max (bl v.natAbs : Int) 64).toNat = 64 * n - bl v.natAbs by omega, Nat.mul_mod_left]
    · rw [show (64 * (n : Int) - max (bl v.natAbs : Int) 64).toNat = 0 by omega, Nat.pow_zero, Nat.mod_one]
  refine K1094a F6 M6 hq hv6 (by omega) (by omega) hn0 (by omega) (by omega) (by omega) hmod fun g7 F7 M7 f7 => ⟨rfl, ?_⟩
  have hsz : h.size ≤ q := by
    rcases hq4 with e | e
    · exact e.elim
    · exact Nat.le_trans f13.size e
  refine H q n g7 ?_ hsz (by omega) (by omega) (by omega) ⟨o, c', zs, F7, M7, hv6, norm_top (by omega) (by omega), hq⟩
  have a1 : Fr (fun x => x = rf) h g5 := Fr.trans f13 (Fr.trans (Ext.to f4) f5 (S := fun x => x = rf) fun _ _ e => e) fun _ _ e => e
  exact ⟨Nat.le_trans a1.size (Nat.le_trans f6.size f7.size), fun b hb hs => by
    have b1 : b < g5.size := Nat.lt_of_lt_of_le hb a1.size
    have hbq : b ≠ q := by omega
    rw [f7.same b (Nat.lt_of_lt_of_le b1 f6.size) (fun e => e.elim hs hbq), f6.same b b1 hbq, a1.same b hb hs]⟩
end Go.Proofs
set_option linter.unusedVariables false
namespace Go.Eng
open Go
theorem bxor_eq (a b : Bool) : (!(a == b)) = (a != b) := by cases a <;> cases b <;> rfl
end Go.Eng
namespace Go.Proofs
open Go Go.Eng
variable {B : World} {R : Ending → Heap → Prop} {h : Heap}
/-- SetMantExp of a number, where it is. -/
theorem K1080 {r q n V : Nat} {pr ac E e : Int} {ng : Bool} (F : FltV h r q pr ac ng n V E) (hp : 64 * ((n : Int) - 1) < pr) (hp1 : 1 ≤ pr) (hn : n ≤ 30000000) (hz : V % 2 ^ (64 * n - pr).toNat = 0)
    (hE : -2147483648 ≤ E + e) (hE2 : E + e ≤ 2147483647) (hE3 : -2147483648 ≤ E) (hE4 : E ≤ 2147483647) (he : -4611686018427387904 ≤ e) (he2 : e ≤ 4611686018427387904)
    (H : ∀ h', FltV h' r q pr 0 ng n V (E + e) → Fr (fun x => x = r ∨ x = q) h h' → R (.returned (.pointer (some ⟨r, 0, none⟩))) h') :
    Ent Tryz.prog B 43 #[.pointer (some ⟨r, 0, none⟩), .pointer (some ⟨r, 0, none⟩), .int .i64 e] R h := by
  obtain ⟨o, c, ws, F1, M1, v1, t1, hq⟩ := F
  have hcopy : Ent Tryz.prog B 86 #[.pointer (some ⟨r, 0, none⟩), .pointer (some ⟨r, 0, none⟩)] (fun en h' => en = .returned (.pointer (some ⟨r, 0, none⟩)) ∧ h' = h) h :=
    F1096_ok _ _ ⟨fun e => (by cases e), fun _ => .inr (.inr ⟨_, _, _, _, rfl, rfl, .inl ⟨rfl, ⟨fun e => by simp at e, fun _ => ⟨rfl, rfl⟩⟩⟩⟩)⟩
  refine F1080_ok _ _ _ ⟨fun e => (by cases e), fun _ => hcopy.mono fun en h' hh => ?_⟩
  obtain ⟨rfl, rfl⟩ := hh
  refine ⟨_, rfl, F1.lfo ⟨fun _ => F1.lex ?_, fun e => by simp at e⟩⟩
  rw [i64_in (x := E) (by omega) (by omega), i64_in (by omega) (by omega)]
  exact K1094a F1 M1 hq v1 hE hE2 (top_pos t1).1 hp hp1 hn hz fun h2 F2 M2 f2 => ⟨rfl, H h2 ⟨o, c, ws, F2, M2, v1, t1, hq⟩ f2⟩
/-- What rounding to p bits leaves: one word and whether the exponent grows. -/
def rndW (rq p : Nat) : Nat := if rq < 2 ^ p then rq * 2 ^ (64 - p) else 9223372036854775808
def rndE (rq p : Nat) : Int := if rq < 2 ^ p then 0 else 1
/-- The last part of rounding, of one word. -/
theorem rnd_one {r q o c t p : Nat} {ac ex : Int} {ng : Bool} {sb rb : Nat} (F : Flt h r p ac 1 ng (some ⟨q, o, none⟩) 1 c ex) (M : Mn h q o 1 c [t]) (hq : q ≠ r)
    (hp : 1 ≤ p) (hp2 : p ≤ 53) (hsb : sb ≤ 1) (hrb : rb ≤ 1) (ht : 2 ^ 63 ≤ t) (hex : -2147483648 ≤ ex) (hex2 : ex < 2147483647)
    (inc : Bool) (hinc : inc = (decide (rb = 1) && (decide (sb = 1) || decide (t / 2 ^ (64 - p) % 2 = 1))))
    (H : ∀ h', Flt h' r p (if sb = 0 ∧ rb = 0 then ac else accI (inc != ng)) 1 ng (some ⟨q, o, none⟩) 1 c (ex + rndE (t / 2 ^ (64 - p) + inc.toNat) p) → Mn h' q o 1 c [rndW (t / 2 ^ (64 - p) + inc.toNat) p] → Fr (fun x => x = r ∨ x = q) h h' → R (.returned (.tuple #[])) h') :
    F1110_j15 B R (some ⟨r, 0, none⟩) (sb : Int) (rb : Int) 1 h := by
  have hB : B64 = 18446744073709551616 := rfl
  have ht64 : t < 2 ^ 64 := M.dig t (by simp)
  have e1 : IntKind.u32.wrap (1 * 64 : Int) = 64 := by decide
  have e2 : IntKind.u32.wrap ((64 : Int) - (p : Int)) = ((64 - p : Nat) : Int) := by rw [wrap_u32_in (by omega) (by omega)]; omega
  have hpp : 2 ^ p * 2 ^ (64 - p) = 2 ^ 64 := by rw [← Nat.pow_add, show p + (64 - p) = 64 by omega]
  have hj : 0 < 2 ^ (64 - p) := Nat.pow_pos (by decide)
  have hqlt : t / 2 ^ (64 - p) < 2 ^ p := by rw [Nat.div_lt_iff_lt_mul hj, hpp]; exact ht64
  unfold F1110_j15
  rw [e1]
  refine F.p0 ?_
  rw [e2, lsb_wrap (by omega)]
  refine ⟨by omega, fun e => ?_, fun e => ?_⟩
  · have hne : ¬ (sb = 0 ∧ rb = 0) := by
      intro h0
      have := (or_01 hrb hsb).2 ⟨h0.2, h0.1⟩
      rw [this] at e; simp at e
    simp only [if_neg hne] at H
    have main : F1110_j32 B R (some ⟨r, 0, none⟩) 1 ((2 ^ (64 - p) : Nat) : Int) inc h := by
      refine F.lng (K1109 ⟨_, rfl, F.sac fun h1 F1 f1 => ?_⟩)
      rw [bxor_eq] at F1
      have M1 : Mn h1 q o 1 c [t] := M.fr f1 hq
      refine ⟨fun hi => F1.ma (F1.ma (K203s M1 (y := 2 ^ (64 - p)) (by rw [hB, show (18446744073709551616 : Nat) = 2 ^ 64 from rfl]; exact Nat.pow_lt_pow_right (by decide) (by omega)) fun h2 M2 f2 => ⟨_, rfl, ?_⟩)), fun hi => ?_⟩
      · rw [hi] at F1 H hinc
        simp only [Bool.toNat_true] at H
        have F2 : Flt h2 r p _ 1 ng (some ⟨q, o, none⟩) 1 c ex := F1.fr f2 (fun e => hq e.symm)
        have f12 : Fr (fun x => x = r ∨ x = q) h h2 := Fr.trans (f1.mono (T := fun x => x = r ∨ x = q) fun _ _ e => .inl e) (f2.mono (T := fun x => x = r ∨ x = q) fun _ _ e => .inr e) fun _ _ e => e
        have hdm : t = t / 2 ^ (64 - p) * 2 ^ (64 - p) + t % 2 ^ (64 - p) := by rw [Nat.mul_comm]; exact (Nat.div_add_mod _ _).symm
        have hml : t % 2 ^ (64 - p) < 2 ^ (64 - p) := Nat.mod_lt _ hj
        by_cases hc : t / 2 ^ (64 - p) + 1 < 2 ^ p
        · have hle : (t / 2 ^ (64 - p) + 1 + 1) * 2 ^ (64 - p) ≤ 2 ^ p * 2 ^ (64 - p) := Nat.mul_le_mul_right _ hc
          rw [hpp, Nat.add_mul, Nat.add_mul, Nat.one_mul] at hle
          have hlt : t + 2 ^ (64 - p) < B64 := by rw [hB, show (18446744073709551616 : Nat) = 2 ^ 64 from rfl]; omega
          have h0 : (t + 2 ^ (64 - p)) / B64 = 0 := Nat.div_eq_of_lt hlt
          rw [h0]
          rw [Nat.mod_eq_of_lt hlt] at M2
          refine ⟨fun e => by simp at e, fun _ => rnd_end F2 M2 hq (by omega) fun h3 F3 M3 f3 => ?_⟩
          have hw : (t + 2 ^ (64 - p)) / 2 ^ (64 - p) * 2 ^ (64 - p) = rndW (t / 2 ^ (64 - p) + 1) p := by
            unfold rndW
            rw [if_pos hc, Nat.add_div_right _ hj]
          rw [hw] at M3
          refine H h3 ?_ M3 (Fr.trans f12 (f3.mono (T := fun x => x = r ∨ x = q) fun _ _ e => .inr e) fun _ _ e => e)
          unfold rndE
          rw [if_pos hc, Int.add_zero]
          exact F3
        · have hq1 : t / 2 ^ (64 - p) + 1 = 2 ^ p := by omega
          have hsum : t + 2 ^ (64 - p) = B64 + t % 2 ^ (64 - p) := by
            have : (t / 2 ^ (64 - p) + 1) * 2 ^ (64 - p) = B64 := by rw [hq1, hpp]
            rw [Nat.add_mul, Nat.one_mul] at this
            omega
          have hsm : t % 2 ^ (64 - p) < B64 := Nat.lt_of_le_of_lt (Nat.mod_le _ _) (by rw [hB]; exact ht64)
          have h1 : (t + 2 ^ (64 - p)) / B64 = 1 := by
            rw [hsum, Nat.add_div_left _ (by decide), Nat.div_eq_of_lt hsm]
          rw [h1]
          rw [hsum, Nat.add_mod_left, Nat.mod_eq_of_lt hsm] at M2
          refine ⟨fun _ => F2.lex ⟨fun e => by have := of_decide_eq_true e; omega, fun _ => F2.lex (F2.sex fun h3 F3 f3 => ?_)⟩, fun e => by simp at e⟩
          rw [wrap_i32_in (by omega) (by omega)] at F3
          have M3 : Mn h3 q o 1 c [t % 2 ^ (64 - p)] := M2.fr f3 hq
          obtain ⟨cs, c1, c2, c3⟩ := M3.own
          have hle := M3.le
          refine F3.ma (F3.ma (E201 (K141 rfl c1 (by omega) M3.sl pt_some rfl (by decide) M3.dig (fun b o' e => by cases e; exact .inr (Nat.le_refl _)) (s := 1) (by decide) fun zs cc h4 W lz dz hc4 hv4 => ⟨_, rfl, ?_⟩)))
          match zs, lz with
          | [z], _ =>
            have M4 : Mn h4 q o 1 c [z] := M3.wrote W rfl dz
            have F4 : Flt h4 r p _ 1 ng (some ⟨q, o, none⟩) 1 c (ex + 1) := F3.fr W.fr (fun e => hq e.symm)
            have hz : z = t % 2 ^ (64 - p) / 2 := by simpa [val] using hv4
            have hzlt : z < 2 ^ (63 - p + 0) := by
              have : 2 ^ (64 - p) = 2 ^ (63 - p) * 2 := by rw [← Nat.pow_succ]; congr 1; omega
              rw [hz, Nat.add_zero]; omega
            have hz63 : z < 2 ^ 63 := Nat.lt_of_lt_of_le hzlt (Nat.pow_le_pow_right (by decide) (by omega))
            have eix : IntKind.u32.wrap ((1 : Int) - 1) = 0 := by decide
            unfold F1110_j39
            rw [eix]
            refine F4.ma (M4.sl.get 0 rfl (by simp) (by simp) ?_)
            simp only [List.getElem_cons_zero]
            have hor : bitsI .or .u64 (z : Int) (9223372036854775808 : Int) = ((9223372036854775808 + z : Nat) : Int) := by
              have h := bitsI_or (a := z) (b := 9223372036854775808) (by omega) (by decide)
              rw [show ((9223372036854775808 : Nat) : Int) = 9223372036854775808 from rfl] at h
              rw [h, Nat.or_comm]
              have := or_add (a := 1) (b := z) (s := 63) hz63
              rw [Nat.one_mul] at this
              rw [show (9223372036854775808 : Nat) = 2 ^ 63 from rfl, this]
            rw [hor]
            obtain ⟨cs4, d1, d2, d3⟩ := M4.own
            have hbig : 9223372036854775808 + z < B64 := by omega
            refine Wrote.put (zs := []) (Wrote.nil d1) d1 (9223372036854775808 + z) rfl rfl (by decide) (by omega) fun W5 => ?_
            have M5 := M4.put0 W5 hbig
            have F5 : Flt _ r p _ 1 ng (some ⟨q, o, none⟩) 1 c (ex + 1) := F4.fr W5.fr (fun e => hq e.symm)
            refine rnd_end F5 M5 hq (by omega) fun h6 F6 M6 f6 => ?_
            have hw : (9223372036854775808 + z) / 2 ^ (64 - p) * 2 ^ (64 - p) = rndW (t / 2 ^ (64 - p) + 1) p := by
              unfold rndW
              rw [if_neg (by omega)]
              obtain ⟨a, ha⟩ : ∃ a : Nat, (9223372036854775808 : Nat) = a * 2 ^ (64 - p) := ⟨2 ^ (p - 1), by rw [← Nat.pow_add, show p - 1 + (64 - p) = 63 by omega]⟩
              have hzj : z < 2 ^ (64 - p) := Nat.lt_of_lt_of_le hzlt (Nat.pow_le_pow_right (by decide) (by omega))
              conv => lhs; rw [ha]
              rw [Nat.mul_comm a, Nat.mul_add_div hj, Nat.div_eq_of_lt hzj, Nat.add_zero, ← ha]
            rw [hw] at M6
            have a1 : Fr (fun x => x = r ∨ x = q) h h3 := Fr.trans f12 (f3.mono (T := fun x => x = r ∨ x = q) fun _ _ e => .inl e) fun _ _ e => e
            have a2 : Fr (fun x => x = r ∨ x = q) h h4 := Fr.trans a1 (W.fr.mono (T := fun x => x = r ∨ x = q) fun _ _ e => .inr e) fun _ _ e => e
            have a3 := Fr.trans a2 (W5.fr.mono (T := fun x => x = r ∨ x = q) fun _ _ e => .inr e) fun _ _ e => e
            refine H h6 ?_ M6 (Fr.trans a3 (f6.mono (T := fun x => x = r ∨ x = q) fun _ _ e => .inr e) fun _ _ e => e)
            unfold rndE
            rw [if_neg (by omega)]
            exact F6
      · rw [hi] at F1 H
        simp only [Bool.toNat_false, Nat.add_zero] at H
        refine rnd_end F1 M1 hq (by omega) fun h3 F3 M3 f3 => ?_
        have hw : t / 2 ^ (64 - p) * 2 ^ (64 - p) = rndW (t / 2 ^ (64 - p)) p := by unfold rndW; rw [if_pos hqlt]
        rw [hw] at M3
        refine H h3 ?_ M3 (Fr.trans (f1.mono (T := fun x => x = r ∨ x = q) fun _ _ e => .inl e) (f3.mono (T := fun x => x = r ∨ x = q) fun _ _ e => .inr e) fun _ _ e => e)
        unfold rndE
        rw [if_pos hqlt, Int.add_zero]
        exact F3
    refine F.mo ⟨fun e => by simp at e, fun _ => ⟨fun e => by simp at e, fun _ => ⟨fun _ => ⟨fun e1 => ⟨fun e2 => ?_, fun e2 => F.ma (M.sl.get 0 rfl (by simp) (by simp) ?_)⟩, fun e1 => ?_⟩, fun e => by simp at e⟩⟩⟩
    · have h1 : rb = 1 := by
        rcases (by omega : rb = 0 ∨ rb = 1) with h | h
        · rw [h] at e1; simp at e1
        · exact h
      have h2 : sb = 1 := by
        rcases (by omega : sb = 0 ∨ sb = 1) with h | h
        · rw [h] at e2; simp at e2
        · exact h
      have : inc = true := by rw [hinc, h1, h2]; rfl
      rw [this] at main; exact main
    · have h1 : rb = 1 := by
        rcases (by omega : rb = 0 ∨ rb = 1) with h | h
        · rw [h] at e1; simp at e1
        · exact h
      have h2 : sb = 0 := by
        rcases (by omega : sb = 0 ∨ sb = 1) with h | h
        · exact h
        · rw [h] at e2; simp at e2
      simp only [List.getElem_cons_zero]
      have hb : (!decide (bitsI .and .u64 (t : Int) ((2 ^ (64 - p) : Nat) : Int) = 0)) = inc := by
        rw [hinc, h1, h2]
        have key := and_bit (x := t) (k := 64 - p) (by rw [show (18446744073709551616 : Nat) = 2 ^ 64 from rfl]; exact ht64) (by omega)
        rcases Nat.mod_two_eq_zero_or_one (t / 2 ^ (64 - p)) with h | h
        · rw [decide_eq_true (key.2 h), h]; rfl
        · have : ¬ (bitsI .and .u64 (t : Int) ((2 ^ (64 - p) : Nat) : Int) = 0) := fun e => by have := key.1 e; omega
          rw [decide_eq_false this, h]; rfl
      rw [hb]; exact main
    · have h1 : rb = 0 := by
        rcases (by omega : rb = 0 ∨ rb = 1) with h | h
        · exact h
        · rw [h] at e1; simp at e1
      have : inc = false := by rw [hinc, h1]; rfl
      rw [this] at main; exact main
  · have h0 : rb = 0 ∧ sb = 0 := (or_01 hrb hsb).1 (by simpa using e)
    have hi : inc = false := by rw [hinc, h0.1]; rfl
    rw [hi] at H
    simp only [Bool.toNat_false, Nat.add_zero, if_pos (show sb = 0 ∧ rb = 0 from ⟨h0.2, h0.1⟩)] at H
    refine rnd_end F M hq (by omega) fun h3 F3 M3 f3 => ?_
    have hw : t / 2 ^ (64 - p) * 2 ^ (64 - p) = rndW (t / 2 ^ (64 - p)) p := by unfold rndW; rw [if_pos hqlt]
    rw [hw] at M3
    refine H h3 ?_ M3 (f3.mono (T := fun x => x = r ∨ x = q) fun _ _ e => .inr e)
    unfold rndE
    rw [if_pos hqlt, Int.add_zero]
    exact F3
end Go.Proofs
set_option linter.unusedVariables false
namespace Go.Eng
open Go
theorem div_top {ws : List Nat} {n p V : Nat} (hl : ws.length = n) (h0 : 0 < n) (d : Dig 18446744073709551616 ws) (hV : val 18446744073709551616 ws = V) (hp : p ≤ 64) : V / 2 ^ (64 * n - p) = ws.getD (n - 1) 0 / 2 ^ (64 - p) := by
  have hw : ws ≠ [] := fun e => by rw [e] at hl; simp at hl; omega
  have hlast : ws.getLast hw = ws.getD (n - 1) 0 := by
    rw [List.getD_eq_getElem?_getD, List.getElem?_eq_getElem (by omega), Option.getD_some, List.getLast_eq_getElem]
    congr 1; omega
  have h1 : val 18446744073709551616 ws.dropLast < 2 ^ (64 * (n - 1)) := by
    have := val_lt (b := 18446744073709551616) (x := ws.dropLast) (fun w hw' => d w (List.dropLast_subset _ hw'))
    rw [List.length_dropLast, hl, show (18446744073709551616 : Nat) = 2 ^ 64 from by decide, ← Nat.pow_mul] at this
    exact this
  rw [← hV, val_top hw, hlast, hl, show (18446744073709551616 : Nat) ^ (n - 1) = 2 ^ (64 * (n - 1)) by rw [show (18446744073709551616 : Nat) = 2 ^ 64 from by decide, ← Nat.pow_mul]]
  rw [show 64 * n - p = 64 * (n - 1) + (64 - p) by omega, Nat.pow_add, ← Nat.div_div_eq_div_mul, Nat.add_mul_div_left _ _ (Nat.pow_pos (by decide)), Nat.div_eq_of_lt h1, Nat.zero_add]
end Go.Eng
namespace Go.Proofs
open Go Go.Eng
variable {B : World} {R : Ending → Heap → Prop} {h : Heap}
/-- How a rounding was told: 0, or above or below. -/
def accR (V k : Nat) (ng : Bool) : Int := if V % 2 ^ k = 0 then 0 else accI (decide (V / 2 ^ k < rn V k) != ng)
/-- Float.round to at most 53 bits. -/
theorem K1110b {r q o n c V p : Nat} {ac ex : Int} {ng : Bool} {ws : List Nat} (F : Flt h r p ac 1 ng (some ⟨q, o, none⟩) n c ex) (M : Mn h q o n c ws) (hq : q ≠ r) (hV : val B64 ws = V) (hT : Top n V)
    (hp : 1 ≤ p) (hp2 : p ≤ 53) (hn : n ≤ 30000000) (hex : -2147483648 ≤ ex) (hex2 : ex < 2147483647)
    (H : ∀ h' c', Flt h' r p (accR V (64 * n - p) ng) 1 ng (some ⟨q, o, none⟩) 1 c' (ex + rndE (rn V (64 * n - p)) p) → Mn h' q o 1 c' [rndW (rn V (64 * n - p)) p] → Fr (fun x => x = r ∨ x = q) h h' → R (.returned (.tuple #[])) h') :
    Ent Tryz.prog B 122 #[.pointer (some ⟨r, 0, none⟩), .int .u64 (0 : Int)] R h := by
  have h0 := (top_pos hT).1
  have hle := M.le
  have hl := M.len
  obtain ⟨i, hi⟩ : ∃ i : Nat, i + 1 = 64 * n - p := ⟨64 * n - p - 1, by omega⟩
  have hdt := div_top (p := p) hl h0 M.dig hV (by omega)
  have htop : 2 ^ 63 ≤ ws.getD (n - 1) 0 := by
    have h1 := div_top (p := 1) hl h0 M.dig hV (by decide)
    have h2 : 1 ≤ V / 2 ^ (64 * n - 1) := (Nat.le_div_iff_mul_le (Nat.pow_pos (by decide))).2 (by rw [Nat.one_mul]; exact hT.1)
    rw [h1, show 64 - 1 = 63 from rfl, Nat.le_div_iff_mul_le (by decide)] at h2
    omega
  refine rnd_head (i := i) F M hq hV (by omega) (by omega) hn fun h1 F1 f1 => ?_
  have M1 : Mn h1 q o n c ws := M.fr f1 hq
  have htB : ws.getD (n - 1) 0 < 18446744073709551616 := by
    rw [List.getD_eq_getElem?_getD, List.getElem?_eq_getElem (by omega)]
    exact M.dig.get (by omega)
  -- what remains to be shown of the one word
  have key : ∀ (h2 : Heap) (c2 : Nat), Flt h2 r p 0 1 ng (some ⟨q, o, none⟩) 1 c2 ex → Mn h2 q o 1 c2 [ws.getD (n - 1) 0] → Fr (fun x => x = r ∨ x = q) h h2 →
      F1110_j15 B R (some ⟨r, 0, none⟩) (bitsI .and .u64 (if V % 2 ^ i = 0 then (0 : Int) else 1) (1 : Int)) ((V / 2 ^ i % 2 : Nat) : Int) 1 h2 := by
    intro h2 c2 F2 M2 f2
    have es : bitsI .and .u64 (if V % 2 ^ i = 0 then (0 : Int) else 1) (1 : Int) = ((if V % 2 ^ i = 0 then 0 else 1 : Nat) : Int) := by split <;> decide
    rw [es]
    have hrb : V / 2 ^ i % 2 ≤ 1 := Nat.le_of_lt_succ (Nat.mod_lt _ (by decide))
    have hhalf : halfB V (64 * n - p) = decide (V / 2 ^ i % 2 = 1) := by
      unfold halfB
      rw [← hi, decide_eq_true (show 0 < i + 1 by omega), Bool.true_and, Nat.add_sub_cancel]
    have hrest : restB V (64 * n - p) = decide ((if V % 2 ^ i = 0 then 0 else 1 : Nat) = 1) := by
      unfold restB
      rw [← hi, Nat.add_sub_cancel]
      by_cases hi0 : 0 < i
      · rw [decide_eq_true hi0, Bool.true_and, decide_eq_decide]
        split <;> omega
      · have : i = 0 := by omega
        subst this
        rw [Nat.pow_zero, Nat.mod_one]; rfl
    have hinc := rn_bits' V (64 * n - p)
    rw [hhalf, hrest, hdt] at hinc
    have hodd := odd_bits V (64 * n - p)
    rw [hhalf, hrest] at hodd
    refine rnd_one F2 M2 hq hp hp2 (by split <;> decide) hrb htop hex hex2 _ rfl fun h3 F3 M3 f3 => ?_
    have e1 : ws.getD (n - 1) 0 / 2 ^ (64 - p) + (decide (V / 2 ^ i % 2 = 1) && (decide ((if V % 2 ^ i = 0 then 0 else 1 : Nat) = 1) || decide (ws.getD (n - 1) 0 / 2 ^ (64 - p) % 2 = 1))).toNat = rn V (64 * n - p) := by
      rw [hinc]
      congr 1
      generalize (decide (V / 2 ^ i % 2 = 1) && (decide ((if V % 2 ^ i = 0 then 0 else 1 : Nat) = 1) || decide (ws.getD (n - 1) 0 / 2 ^ (64 - p) % 2 = 1))) = b
      cases b <;> rfl
    rw [e1] at F3 M3
    have e2 : (if (if V % 2 ^ i = 0 then 0 else 1 : Nat) = 0 ∧ V / 2 ^ i % 2 = 0 then (0 : Int) else accI ((decide (V / 2 ^ i % 2 = 1) && (decide ((if V % 2 ^ i = 0 then 0 else 1 : Nat) = 1) || decide (ws.getD (n - 1) 0 / 2 ^ (64 - p) % 2 = 1))) != ng)) = accR V (64 * n - p) ng := by
      unfold accR
      rw [hdt]
      have c1 : ((if V % 2 ^ i = 0 then 0 else 1 : Nat) = 0 ∧ V / 2 ^ i % 2 = 0) ↔ V % 2 ^ (64 * n - p) = 0 := by
        have hd : decide (V % 2 ^ (64 * n - p) ≠ 0) = true ↔ (V / 2 ^ i % 2 = 1 ∨ (if V % 2 ^ i = 0 then 0 else 1 : Nat) = 1) := by rw [hodd]; simp
        rw [decide_eq_true_eq] at hd
        constructor
        · rintro ⟨a, b⟩
          rcases Classical.em (V % 2 ^ (64 * n - p) = 0) with h | h
          · exact h
          · rcases hd.1 h with h | h <;> omega
        · intro a
          have hn : ¬ (V / 2 ^ i % 2 = 1 ∨ (if V % 2 ^ i = 0 then 0 else 1 : Nat) = 1) := fun h => hd.2 h a
          have h01 : (if V % 2 ^ i = 0 then 0 else 1 : Nat) ≤ 1 := by split <;> decide
          omega
      have c2 : decide (ws.getD (n - 1) 0 / 2 ^ (64 - p) < rn V (64 * n - p)) = (decide (V / 2 ^ i % 2 = 1) && (decide ((if V % 2 ^ i = 0 then 0 else 1 : Nat) = 1) || decide (ws.getD (n - 1) 0 / 2 ^ (64 - p) % 2 = 1))) := by
        rw [← e1]
        generalize (decide (V / 2 ^ i % 2 = 1) && (decide ((if V % 2 ^ i = 0 then 0 else 1 : Nat) = 1) || decide (ws.getD (n - 1) 0 / 2 ^ (64 - p) % 2 = 1))) = b
        cases b <;> simp
      rw [c2]
      by_cases hc : (if V % 2 ^ i = 0 then 0 else 1 : Nat) = 0 ∧ V / 2 ^ i % 2 = 0
      · rw [if_pos hc, if_pos (c1.1 hc)]
      · rw [if_neg hc, if_neg fun e => hc (c1.2 e)]
    rw [e2] at F3
    exact H h3 c2 F3 M3 (Fr.trans f2 f3 fun _ _ e => e)
  have e5 : IntKind.u32.wrap (Int.tdiv (IntKind.u32.wrap ((p : Int) + 63)) 64) = 1 := by
    rw [wrap_u32_in (x := (p : Int) + 63) (by omega) (by omega), Int.tdiv_eq_ediv_of_nonneg (by omega), wrap_u32_in (by omega) (by omega)]
    omega
  have f1' : Fr (fun x => x = r ∨ x = q) h h1 := f1.mono fun _ _ e => .inl e
  refine F1.p0 ⟨by decide, ?_⟩
  rw [e5]
  refine ⟨fun e => F1.ma (F1.ma ?_), fun e => ?_⟩
  · have hn1 : 1 < n := by have := of_decide_eq_true e; omega
    rw [wrap_u32_in (x := (n : Int) - 1) (by omega) (by omega)]
    refine sl_from (l := n - 1) (by omega) (by omega) ?_
    rw [slP_some (by omega)]
    obtain ⟨cs, c1, c2, c3⟩ := M1.own
    have hsl : Sl .u64 h1 (some ⟨q, o + (n - 1), none⟩) [ws.getD (n - 1) 0] := .inr ⟨q, o + (n - 1), cs, rfl, c1, fun j hj => by
      have : j = 0 := by simp at hj; exact hj
      subst this
      have := c3 (n - 1) (by omega)
      rw [Nat.add_zero, this]
      simp only [List.getElem_cons_zero, List.getD_eq_getElem?_getD, List.getElem?_eq_getElem (show n - 1 < ws.length by omega), Option.getD_some]⟩
    refine copyK hsl (show [ws.getD (n - 1) 0].length = n - (n - 1) by simp; omega) pt_some c1 (by omega) fun h2 W => ?_
    have hm : Nat.min (n - (n - 1)) n = 1 := by show min _ _ = 1; omega
    rw [hm] at W
    have F2 : Flt h2 r p 0 1 ng (some ⟨q, o, none⟩) n c ex := F1.fr W.fr (fun e => hq e.symm)
    refine F2.ma (sl_to (m := 1) rfl (by omega) ?_)
    rw [slP0 pt_some]
    refine F2.sma fun h3 F3 f3 => ?_
    obtain ⟨cs2, w1, w2, w3, w4⟩ := W.own c1
    have M2 : Mn h2 q o 1 c [ws.getD (n - 1) 0] := ⟨⟨cs2, w1, by omega, w4⟩, rfl, by omega, M1.lim, fun w hw => by simp at hw; subst hw; simpa using htB⟩
    have f13 : Fr (fun x => x = r ∨ x = q) h h3 := Fr.trans (Fr.trans f1' (W.fr.mono (T := fun x => x = r ∨ x = q) fun _ _ e => .inr e) fun _ _ e => e) (f3.mono (T := fun x => x = r ∨ x = q) fun _ _ e => .inl e) fun _ _ e => e
    exact key h3 c F3 (M2.fr f3 hq) f13
  · have hn1 : n = 1 := by have := of_decide_eq_false e; omega
    subst hn1
    match ws, hl, M1, key with
    | [t], _, M1, key => exact key h1 c F1 M1 f1'
/-- Float.Set into a blank one of at most 53 bits. -/
theorem K1098b {rz r q n V p : Nat} {pr ac E : Int} {ng : Bool} (Z : Flt h rz p 0 0 false none 0 0 0) (F : FltV h r q pr ac ng n V E) (hr : rz ≠ r) (hrq : rz ≠ q) (hpr : 53 < pr)
    (hp : 1 ≤ p) (hp2 : p ≤ 53) (hn : n ≤ 30000000) (hex : -2147483648 ≤ E) (hex2 : E < 2147483647)
    (H : ∀ h' q' o' c', Flt h' rz p (accR V (64 * n - p) ng) 1 ng (some ⟨q', o', none⟩) 1 c' (E + rndE (rn V (64 * n - p)) p) → Mn h' q' o' 1 c' [rndW (rn V (64 * n - p)) p] → Fr (fun x => x = rz) h h' → R (.returned (.pointer (some ⟨rz, 0, none⟩))) h') :
    Ent Tryz.prog B 88 #[.pointer (some ⟨rz, 0, none⟩), .pointer (some ⟨r, 0, none⟩)] R h := by
  obtain ⟨o, c, ws, F1, M1, v1, t1, hq⟩ := F
  have h0 := (top_pos t1).1
  have ne : rz ≠ r := hr
  refine F1098_ok _ _ ⟨fun e => (by cases e), fun _ => Z.sac fun g1 Z1 f1 => .inr (.inr ⟨_, _, _, _, rfl, rfl, .inr ⟨hr, ⟨_, Z1⟩, ⟨_, F1.fr f1 fun e => hr e.symm⟩, ?_⟩⟩)⟩
  have X1 : Flt g1 r _ _ _ _ _ _ _ _ := F1.fr f1 fun e => hr e.symm
  refine ⟨fun _ => X1.lfo (Z1.sfo fun g2 Z2 f2 => ?_), fun e => by simp at e⟩
  have X2 : Flt g2 r _ _ _ _ _ _ _ _ := X1.fr f2 fun e => hr e.symm
  refine X2.lng (Z2.sng fun g3 Z3 f3 => ?_)
  have X3 : Flt g3 r _ _ _ _ _ _ _ _ := X2.fr f3 fun e => hr e.symm
  refine X3.lfo ⟨fun _ => X3.lex (Z3.sex fun g4 Z4 f4 => ?_), fun e => by simp at e⟩
  have X4 : Flt g4 r _ _ _ _ _ _ _ _ := X3.fr f4 fun e => hr e.symm
  have f14 : Fr (fun x => x = rz) h g4 := Fr.trans (Fr.trans (Fr.trans f1 f2 fun _ _ e => e) f3 fun _ _ e => e) f4 fun _ _ e => e
  have M4 : Mn g4 q o n c ws := M1.fr f14 fun e => hrq e.symm
  have hl := M1.len
  have hle := M1.le
  have hlim := M1.lim
  have ntop : Trim ws := by
    intro hh
    have hw : ws ≠ [] := fun e => by rw [e] at hl; simp at hl; omega
    rw [List.getLast?_eq_some_getLast hw] at hh
    have hz : ws.getLast hw = 0 := Option.some.inj hh
    have hv := val_top (b := 18446744073709551616) hw
    rw [hz, Nat.mul_zero, Nat.add_zero] at hv
    have h1 : val 18446744073709551616 ws.dropLast < 2 ^ (64 * (n - 1)) := by
      have := val_lt (b := 18446744073709551616) (x := ws.dropLast) (fun w hw' => M1.dig w (List.dropLast_subset _ hw'))
      rw [List.length_dropLast, hl, show (18446744073709551616 : Nat) = 2 ^ 64 from by decide, ← Nat.pow_mul] at this
      exact this
    rw [← hv, v1] at h1
    have := t1.1
    have h2 : 2 ^ (64 * (n - 1)) ≤ 2 ^ (64 * n - 1) := Nat.pow_le_pow_right (by decide) (by omega)
    omega
  have N4 : NatI g4 (some ⟨q, o, none⟩) n V := ⟨pt_some, by omega, ws, M4.sl, hl, M4.dig, ntop, v1⟩
  refine Z4.ma (X4.ma (K182 (S := fun _ => False) Dst.none N4 (by omega) fun q' c' g5 f5 hc5 N5 D5 => ⟨_, _, _, rfl, ?_⟩))
  obtain ⟨q2, o2, ws2, rfl, M5, v5, t5, hq5⟩ := Mn.of N5 D5 hc5 h0
  have Z5 : Flt g5 rz _ _ _ _ _ _ _ _ := Z4.fr f5 id
  have hsz : g4.size ≤ q2 := by rcases hq5 with e | e; exact e.elim; exact e
  have hq2 : q2 ≠ rz := by have := Z4.lt; omega
  refine Z5.sma fun g6 Z6 f6 => ?_
  have M6 : Mn g6 q2 o2 n c' ws2 := M5.fr f6 hq2
  have X6 : Flt g6 r _ _ _ _ _ _ _ _ := (X4.fr f5 id).fr f6 fun e => hr e.symm
  refine Z6.p0 ⟨fun e => by have := of_decide_eq_true e; omega, fun _ => Z6.p0 (X6.p0 ⟨fun _ => ?_, fun e => by have := of_decide_eq_false e; omega⟩)⟩
  refine K1110b Z6 M6 hq2 v5 t1 hp hp2 hn hex hex2 fun h' c2 Z7 M7 f7 => ⟨rfl, ?_⟩
  have a1 : Fr (fun x => x = rz) h g6 := Fr.trans f14 (Fr.trans (Ext.to f5) f6 (S := fun x => x = rz) fun _ _ e => e) fun _ _ e => e
  refine H h' q2 o2 c2 Z7 M7 ⟨Nat.le_trans a1.size f7.size, fun b hb hs => ?_⟩
  have hb4 : b < g4.size := Nat.lt_of_lt_of_le hb f14.size
  rw [f7.same b (Nat.lt_of_lt_of_le hb a1.size) (fun e => e.elim hs (by omega)), a1.same b hb hs]
end Go.Proofs
