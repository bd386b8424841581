import Derived.Test.YtobkdplpkgikhaaGreatFmtA39
import Derived.Test.YtobkdplpkgikhaaGreatFmtA22
import Derived.Test.YtobkdplpkgikhaaGreatFmtA29
/- Here stand lemmas and contracts, in the order in which they are used. -/
set_option linter.unusedVariables false
set_option linter.unusedVariables false
namespace Go.Eng
open Go
theorem Mn.put0 {h h' : Heap} {q o n c w0 w : Nat} {rs : List Nat} (M : Mn h q o n c (w0 :: rs)) (W : Wrote .u64 h h' q o [w]) (hw : w < 18446744073709551616) : Mn h' q o n c (w :: rs) := by
  obtain ⟨cs, c1, c2, c3⟩ := M.own
  obtain ⟨cs', w1, w2, w3, w4⟩ := W.own c1
  refine ⟨⟨cs', w1, by omega, fun i hi => ?_⟩, M.len, M.le, M.lim, ?_⟩
  · cases i with
    | zero => exact w4 0 (by simp)
    | succ i =>
      rw [w3 _ (.inr (by simp))]
      have := c3 (i + 1) (by simpa using hi)
      simpa using this
  · intro v hv
    rcases List.mem_cons.1 hv with rfl | hv
    · exact hw
    · exact M.dig v (List.mem_cons_of_mem _ hv)
end Go.Eng
namespace Go.Proofs
open Go Go.Eng
variable {B : World} {R : Ending → Heap → Prop} {h : Heap}
theorem rnd_head {r q o n c V i : Nat} {pr ac ex : Int} {ng : Bool} {ws : List Nat} (F : Flt h r pr ac 1 ng (some ⟨q, o, none⟩) n c ex) (M : Mn h q o n c ws) (hq : q ≠ r) (hV : val B64 ws = V)
    (hp : 1 ≤ pr) (hi : (i : Int) = 64 * n - pr - 1) (hn : n ≤ 30000000)
    (K : ∀ h1, Flt h1 r pr 0 1 ng (some ⟨q, o, none⟩) n c ex → Fr (fun x => x = r) h h1 → F1110_j10 B R (some ⟨r, 0, none⟩) (if V % 2 ^ i = 0 then (0 : Int) else 1) (n : Int) ((V / 2 ^ i % 2 : Nat) : Int) h1) :
    Ent Tryz.prog B 156 #[.pointer (some ⟨r, 0, none⟩), .int .u64 (0 : Int)] R h := by
  have e0 : IntKind.u32.wrap (n : Int) = (n : Int) := wrap_u32_in (by omega) (by omega)
  have e1 : IntKind.u32.wrap ((n : Int) * 64) = (n : Int) * 64 := wrap_u32_in (by omega) (by omega)
  have e2 : IntKind.u32.wrap ((n : Int) * 64 - pr) = (n : Int) * 64 - pr := wrap_u32_in (by omega) (by omega)
  have e3 : IntKind.u32.wrap ((n : Int) * 64 - pr - 1) = (i : Int) := by rw [wrap_u32_in (by omega) (by omega)]; omega
  have e4 : IntKind.u64.wrap (i : Int) = (i : Int) := wrap_u64_in (by omega) (by omega)
  refine F1110_ok _ _ ⟨fun e => (by cases e), fun _ => F.sac fun h1 F1 f1 => F1.lfo ⟨fun e => by simp at e, fun _ => F1.ma (F1.p0 ?_)⟩⟩
  rw [e0, e1]
  refine ⟨fun e => by have := of_decide_eq_true e; omega, fun _ => F1.p0 (F1.ma ?_)⟩
  rw [e2, e3, e4]
  have M1 : Mn h1 q o n c ws := M.fr f1 hq
  have hlast : F1110_j9 B R (some ⟨r, 0, none⟩) 0 (n : Int) (i : Int) (bitsI .and .u64 ((val B64 ws / 2 ^ i % 2 : Nat) : Int) (1 : Int)) true h1 := by
    refine ⟨fun _ => F1.ma (K1097 M1 (by omega) ⟨_, rfl, ?_⟩), fun e => by cases e⟩
    rw [hV]
    have h2 : V / 2 ^ i % 2 < 2 := Nat.mod_lt _ (by decide)
    have e5 : bitsI .and .u64 ((V / 2 ^ i % 2 : Nat) : Int) (1 : Int) = ((V / 2 ^ i % 2 : Nat) : Int) := by
      have := bitsI_and (a := V / 2 ^ i % 2) (b := 1) (by omega)
      rw [show ((1 : Nat) : Int) = 1 from rfl] at this
      rw [this, Nat.mod_eq_of_lt (by decide : 1 < 18446744073709551616), Nat.and_one_is_mod, Nat.mod_mod]
    rw [e5]
    exact K h1 F1 f1
  refine K1128 M1.sl M1.len M1.dig (Nat.lt_of_le_of_lt M1.le M1.lim) (by omega) ⟨_, rfl, ⟨fun _ => ⟨fun _ => hlast, fun _ => F1.mo hlast⟩, fun e => by simp at e⟩⟩
/-- The low bits of the lowest word are cut off. -/
theorem rnd_end {r q o n c w0 k : Nat} {pr ac ex : Int} {ng : Bool} {rs : List Nat} (F : Flt h r pr ac 1 ng (some ⟨q, o, none⟩) n c ex) (M : Mn h q o n c (w0 :: rs)) (hq : q ≠ r) (hk : k < 64)
    (H : ∀ h', Flt h' r pr ac 1 ng (some ⟨q, o, none⟩) n c ex → Mn h' q o n c (w0 / 2 ^ k * 2 ^ k :: rs) → Fr (fun x => x = q) h h' → R (.returned (.tuple #[])) h') :
    F1110_j40 B R (some ⟨r, 0, none⟩) ((2 ^ k : Nat) : Int) h := by
  have hl := M.len
  have hle := M.le
  simp only [List.length_cons] at hl
  have hw0 : w0 < B64 := M.dig w0 (by simp)
  unfold F1110_j40
  rw [lsb_sub hk]
  refine F.ma (M.sl.get 0 rfl (by simp) (by simp; omega) ?_)
  simp only [List.getElem_cons_zero]
  rw [bitsI_andNot hw0 hk]
  obtain ⟨cs, c1, c2, c3⟩ := M.own
  have hlt : w0 / 2 ^ k * 2 ^ k < B64 := Nat.lt_of_le_of_lt (Nat.div_mul_le_self _ _) hw0
  refine Wrote.put (zs := []) (Wrote.nil c1) c1 (w0 / 2 ^ k * 2 ^ k) rfl rfl (show 0 < n by omega) (by omega) fun W => ⟨fun e => (by cases e), fun _ => ?_⟩
  exact H _ (F.fr W.fr (fun e => hq e.symm)) (M.put0 W hlt) W.fr
/-- Rounding what fits: nothing is lost. -/
theorem K1110a {r q o n c V : Nat} {pr ac ex : Int} {ng : Bool} {ws : List Nat} (F : Flt h r pr ac 1 ng (some ⟨q, o, none⟩) n c ex) (M : Mn h q o n c ws) (hq : q ≠ r) (hV : val B64 ws = V)
    (h0 : 0 < n) (hp : 64 * ((n : Int) - 1) < pr) (hp1 : 1 ≤ pr) (hn : n ≤ 30000000) (hz : V % 2 ^ (64 * n - pr).toNat = 0)
    (H : ∀ h', Flt h' r pr 0 1 ng (some ⟨q, o, none⟩) n c ex → Mn h' q o n c ws → Fr (fun x => x = r ∨ x = q) h h' → R (.returned (.tuple #[])) h') :
    Ent Tryz.prog B 156 #[.pointer (some ⟨r, 0, none⟩), .int .u64 (0 : Int)] R h := by
  have e0 : IntKind.u32.wrap (n : Int) = (n : Int) := wrap_u32_in (by omega) (by omega)
  have e1 : IntKind.u32.wrap ((n : Int) * 64) = (n : Int) * 64 := wrap_u32_in (by omega) (by omega)
  by_cases hfit : (n : Int) * 64 ≤ pr
  · refine F1110_ok _ _ ⟨fun e => (by cases e), fun _ => F.sac fun h1 F1 f1 => F1.lfo ⟨fun e => by simp at e, fun _ => F1.ma (F1.p0 ?_)⟩⟩
    rw [e0, e1]
    exact ⟨fun _ => H h1 F1 (M.fr f1 hq) (f1.mono fun _ _ e => .inl e), fun e => by have := of_decide_eq_false e; omega⟩
  · obtain ⟨i, hi⟩ : ∃ i : Nat, (i : Int) = 64 * n - pr - 1 := ⟨(64 * n - pr - 1).toNat, by omega⟩
    have hk : (64 * (n : Int) - pr).toNat = i + 1 := by omega
    rw [hk] at hz
    have hz1 : V / 2 ^ i % 2 = 0 := by
      have := Nat.mod_mul_right_div_self V (2 ^ i) 2
      rw [← Nat.pow_succ, hz, Nat.zero_div] at this
      exact this.symm
    have hz2 : V % 2 ^ i = 0 := by
      have := Nat.mod_mod_of_dvd V (show 2 ^ i ∣ 2 ^ (i + 1) from ⟨2, Nat.pow_succ ..⟩)
      rw [hz, Nat.zero_mod] at this
      exact this.symm
    refine rnd_head F M hq hV hp1 hi hn fun h1 F1 f1 => ?_
    have M1 : Mn h1 q o n c ws := M.fr f1 hq
    rw [if_pos hz2, hz1]
    have e5 : IntKind.u32.wrap (Int.tdiv (IntKind.u32.wrap (pr + 63)) 64) = (n : Int) := by
      rw [wrap_u32_in (x := pr + 63) (by omega) (by omega), Int.tdiv_eq_ediv_of_nonneg (by omega), wrap_u32_in (by omega) (by omega)]
      omega
    refine F1.p0 ⟨by decide, ?_⟩
    rw [e5]
    refine ⟨fun e => by have := of_decide_eq_true e; omega, fun _ => F1.p0 ?_⟩
    rw [e1, wrap_u32_in (x := (n : Int) * 64 - pr) (by omega) (by omega)]
    refine ⟨by omega, fun e => ?_, fun _ => ?_⟩
    · exact absurd e (by decide)
    obtain ⟨k, hk2⟩ : ∃ k : Nat, (k : Int) = (n : Int) * 64 - pr := ⟨((n : Int) * 64 - pr).toNat, by omega⟩
    rw [← hk2, lsb_wrap (by omega)]
    have hwl := M1.len
    match ws, M1, hV with
    | [], M1, _ => have := M1.len; simp at this; omega
    | w0 :: rs, M1, hV =>
      have hke : k = i + 1 := by omega
      have hw0 : w0 % 2 ^ k = 0 := by
        have hB : B64 = 2 ^ k * 2 ^ (64 - k) := by rw [← Nat.pow_add, show k + (64 - k) = 64 by omega]
        rw [← hV, val, hB, Nat.mul_assoc, ← hke, Nat.add_mul_mod_self_left] at hz
        exact hz
      have hw1 : w0 / 2 ^ k * 2 ^ k = w0 := Nat.div_mul_cancel (Nat.dvd_of_mod_eq_zero hw0)
      refine rnd_end F1 M1 hq (by omega) fun h2 F2 M2 f2 => ?_
      rw [hw1] at M2
      exact H h2 F2 M2 (Fr.trans (f1.mono fun _ _ e => .inl e) (f2.mono (T := fun x => x = r ∨ x = q) fun _ _ e => .inr e) fun _ _ e => e)
end Go.Proofs
set_option linter.unusedVariables false
namespace Go.Eng
open Go
/-- A big.Float other than 0: V times 2^(E - 64 n), its mantissa's highest bit set. -/
def FltV (h : Heap) (r q : Nat) (pr ac : Int) (ng : Bool) (n V : Nat) (E : Int) : Prop :=
  ∃ o c ws, Flt h r pr ac 1 ng (some ⟨q, o, none⟩) n c E ∧ Mn h q o n c ws ∧ val 18446744073709551616 ws = V ∧ Top n V ∧ q ≠ r
theorem Mn.of {h : Heap} {p : Option Addr} {n c V : Nat} {S : Nat → Prop} (N : NatI h p n V) (D : Dst h p c S) (hc : n ≤ c) (h0 : 0 < n) :
    ∃ q o ws, p = some ⟨q, o, none⟩ ∧ Mn h q o n c ws ∧ val 18446744073709551616 ws = V ∧ ws.getD (n - 1) 0 ≠ 0 ∧ S q := by
  obtain ⟨ws, s1, s2, s3, s4, s5⟩ := N.ex
  rcases D.room with e | ⟨b, o, cs, e1, e2, e3, e4⟩
  · omega
  have hw : ws ≠ [] := fun e => by rw [e] at s2; simp at s2; omega
  rcases s1 with s1 | ⟨b', o', cs', f1, f2, f3⟩
  · exact absurd s1 hw
  · rw [e1] at f1
    cases f1
    have := e2.inj f2
    subst this
    refine ⟨b, o, ws, e1, ⟨⟨cs, e2, e3, f3⟩, s2, hc, D.lim, s3⟩, s5, ?_, e4⟩
    intro h0
    apply s4
    rw [List.getLast?_eq_some_getLast hw]
    have hl : ws.getLast hw = ws.getD (n - 1) 0 := by
      rw [List.getD_eq_getElem?_getD, List.getElem?_eq_getElem (by omega), Option.getD_some, List.getLast_eq_getElem]
      congr 1; omega
    rw [hl, h0]
end Go.Eng
namespace Go.Proofs
open Go Go.Eng
variable {B : World} {R : Ending → Heap → Prop} {h : Heap}
/-- setExpAndRound of what fits. -/
theorem K1094a {r q o n c V : Nat} {pr ac fo ex E : Int} {ng : Bool} {ws : List Nat} (F : Flt h r pr ac fo ng (some ⟨q, o, none⟩) n c ex) (M : Mn h q o n c ws) (hq : q ≠ r) (hV : val B64 ws = V)
    (hE : -2147483648 ≤ E) (hE2 : E ≤ 2147483647) (h0 : 0 < n) (hp : 64 * ((n : Int) - 1) < pr) (hp1 : 1 ≤ pr) (hn : n ≤ 30000000) (hz : V % 2 ^ (64 * n - pr).toNat = 0)
    (H : ∀ h', Flt h' r pr 0 1 ng (some ⟨q, o, none⟩) n c E → Mn h' q o n c ws → Fr (fun x => x = r ∨ x = q) h h' → R (.returned (.tuple #[])) h') :
    Ent Tryz.prog B 123 #[.pointer (some ⟨r, 0, none⟩), .int .i64 E, .int .u64 (0 : Int)] R h := by
  refine F1094_ok _ _ _ ⟨fun e => by have := of_decide_eq_true e; omega, fun _ => ⟨fun e => by have := of_decide_eq_true e; omega, fun _ => F.sfo fun h1 F1 f1 => F1.sex fun h2 F2 f2 => ?_⟩⟩
  rw [wrap_i32_in (by omega) (by omega)] at F2
  have f12 : Fr (fun x => x = r) h h2 := Fr.trans f1 f2 fun _ _ e => e
  refine K1110a F2 (M.fr f12 hq) hq hV h0 hp hp1 hn hz fun h3 F3 M3 f3 => ⟨rfl, ?_⟩
  exact H h3 F3 M3 (Fr.trans (f12.mono (T := fun x => x = r ∨ x = q) fun _ _ e => .inl e) f3 fun _ _ e => e)
theorem if_max (x : Int) : (if (64 : Int) > x then (64 : Int) else x) = max x 64 := by split <;> omega
/-- Float.SetInt of a number other than 0, into a blank one. -/
theorem K1079 {rf r qx : Nat} {v : Int} (F : Flt h rf 0 0 0 false none 0 0 0) (hx : IntAt h r qx v) (hr : rf ≠ r) (hqx : rf ≠ qx) (hv : v ≠ 0) (hb : bl v.natAbs ≤ 1000000)
    (H : ∀ q n h', Fr (fun x => x = rf) h h' → h.size ≤ q → bl v.natAbs ≤ 64 * n → n ≤ 20000 → 64 * n < bl v.natAbs + 64 → FltV h' rf q (max (bl v.natAbs : Int) 64) 0 (decide (v < 0)) n (v.natAbs * 2 ^ (64 * n - bl v.natAbs)) (bl v.natAbs : Int) → R (.returned (.pointer (some ⟨rf, 0, none⟩))) h') :
    Ent Tryz.prog B 83 #[.pointer (some ⟨rf, 0, none⟩), .pointer (some ⟨r, 0, none⟩)] R h := by
  obtain ⟨p, n, c, h1, h2, h3, h4⟩ := hx.ex
  have hl := h2.len hb
  have hz := h2.zero
  have hn0 : 0 < n := by omega
  have eb : IntKind.u32.wrap (bl v.natAbs : Int) = (bl v.natAbs : Int) := wrap_u32_in (by omega) (by omega)
  refine F1079_ok _ _ (K124 hx ⟨_, rfl, F.p0 ⟨fun _ => F.sp0 fun g1 F1 f1 => ?_, fun e => by simp at e⟩⟩)
  rw [eb, if_max] at F1
  have X1 : Own g1 r _ := h1.fr f1 (fun e => hr e.symm)
  refine F1.sac fun g2 F2 f2 => ?_
  have X2 : Own g2 r _ := X1.fr f2 (fun e => hr e.symm)
  refine ldB X2 (F2.sng fun g3 F3 f3 => ?_)
  have X3 : Own g3 r _ := X2.fr f3 (fun e => hr e.symm)
  have f13 : Fr (fun x => x = rf) h g3 := Fr.trans (Fr.trans f1 f2 fun _ _ e => e) f3 fun _ _ e => e
  have N3 : NatI g3 p n v.natAbs := h2.keep h4 h3 f13 fun b hb e => hqx (e.symm.trans hb.1)
  refine ldS X3 ⟨fun e => by have := of_decide_eq_true e; omega, fun _ => F3.ma (ldS X3 (K182 (S := fun _ => False) Dst.none N3 (by omega) fun q' c' g4 f4 hc4 N4 D4 => ⟨_, _, _, rfl, ?_⟩))⟩
  obtain ⟨q, o, ws, rfl, M4, v4, t4, hq4⟩ := Mn.of N4 D4 hc4 hn0
  have hq : q ≠ rf := by
    have := F3.lt
    rcases hq4 with e | e
    · exact e.elim
    · intro e2; subst e2; omega
  have F4 : Flt g4 rf _ _ _ _ _ _ _ _ := F3.fr f4 id
  refine F4.sma fun g5 F5 f5 => ?_
  have M5 : Mn g5 q o n c' ws := M4.fr f5 hq
  have hws : ws ≠ [] := fun e => by have := M4.len; rw [e] at this; simp at this; omega
  have hlast : ws.getLast hws = ws.getD (n - 1) 0 := by
    have := M4.len
    rw [List.getD_eq_getElem?_getD, List.getElem?_eq_getElem (by omega), Option.getD_some, List.getLast_eq_getElem]
    congr 1; omega
  have hbl : bl v.natAbs = 64 * (n - 1) + bl (ws.getD (n - 1) 0) := by
    rw [← v4, ← hlast, ← M4.len]; exact bl_val M4.dig hws (by rw [hlast]; exact t4)
  have hb1 := bl_pos t4
  have hb2 : bl (ws.getD (n - 1) 0) ≤ 64 := bl_le_iff.2 (by rw [← hlast]; exact M4.dig _ (List.getLast_mem hws))
  refine F5.ma (K1093 M5 hn0 t4 v4 fun zs g6 M6 f6 hv6 => ⟨_, rfl, ?_⟩)
  have F6 : Flt g6 rf _ _ _ _ _ _ _ _ := F5.fr f6 fun e => hq e.symm
  rw [eb, i64_in (x := (bl v.natAbs : Int)) (by omega) (by omega)]
  have hmod : (v.natAbs * 2 ^ (64 * n - bl v.natAbs)) % 2 ^ (64 * (n : Int) - max (bl v.natAbs : Int) 64).toNat = 0 := by
    by_cases hge : 64 ≤ bl v.natAbs
    · rw [show (64 * (n : Int) - max (bl v.natAbs : Int) 64).toNat = 64 * n - bl v.natAbs by omega, Nat.mul_mod_left]
    · rw [show (64 * (n : Int) - max (bl v.natAbs : Int) 64).toNat = 0 by omega, Nat.pow_zero, Nat.mod_one]
  refine K1094a F6 M6 hq hv6 (by omega) (by omega) hn0 (by omega) (by omega) (by omega) hmod fun g7 F7 M7 f7 => ⟨rfl, ?_⟩
  have hsz : h.size ≤ q := by
    rcases hq4 with e | e
    · exact e.elim
    · exact Nat.le_trans f13.size e
  refine H q n g7 ?_ hsz (by omega) (by omega) (by omega) ⟨o, c', zs, F7, M7, hv6, norm_top (by omega) (by omega), hq⟩
  have a1 : Fr (fun x => x = rf) h g5 := Fr.trans f13 (Fr.trans (Ext.to f4) f5 (S := fun x => x = rf) fun _ _ e => e) fun _ _ e => e
  exact ⟨Nat.le_trans a1.size (Nat.le_trans f6.size f7.size), fun b hb hs => by
    have b1 : b < g5.size := Nat.lt_of_lt_of_le hb a1.size
    have hbq : b ≠ q := by omega
    rw [f7.same b (Nat.lt_of_lt_of_le b1 f6.size) (fun e => e.elim hs hbq), f6.same b b1 hbq, a1.same b hb hs]⟩
end Go.Proofs
set_option linter.unusedVariables false
namespace Go.Eng
open Go
theorem bxor_eq (a b : Bool) : (!(a == b)) = (a != b) := by cases a <;> cases b <;> rfl
end Go.Eng
namespace Go.Proofs
open Go Go.Eng
variable {B : World} {R : Ending → Heap → Prop} {h : Heap}
/-- SetMantExp of a number, where it is. -/
theorem K1080 {r q n V : Nat} {pr ac E e : Int} {ng : Bool} (F : FltV h r q pr ac ng n V E) (hp : 64 * ((n : Int) - 1) < pr) (hp1 : 1 ≤ pr) (hn : n ≤ 30000000) (hz : V % 2 ^ (64 * n - pr).toNat = 0)
    (hE : -2147483648 ≤ E + e) (hE2 : E + e ≤ 2147483647) (hE3 : -2147483648 ≤ E) (hE4 : E ≤ 2147483647) (he : -4611686018427387904 ≤ e) (he2 : e ≤ 4611686018427387904)
    (H : ∀ h', FltV h' r q pr 0 ng n V (E + e) → Fr (fun x => x = r ∨ x = q) h h' → R (.returned (.pointer (some ⟨r, 0, none⟩))) h') :
    Ent Tryz.prog B 84 #[.pointer (some ⟨r, 0, none⟩), .pointer (some ⟨r, 0, none⟩), .int .i64 e] R h := by
  obtain ⟨o, c, ws, F1, M1, v1, t1, hq⟩ := F
  have hcopy : Ent Tryz.prog B 125 #[.pointer (some ⟨r, 0, none⟩), .pointer (some ⟨r, 0, none⟩)] (fun en h' => en = .returned (.pointer (some ⟨r, 0, none⟩)) ∧ h' = h) h :=
    F1096_ok _ _ ⟨fun e => (by cases e), fun _ => .inr (.inr ⟨_, _, _, _, rfl, rfl, .inl ⟨rfl, ⟨fun e => by simp at e, fun _ => ⟨rfl, rfl⟩⟩⟩⟩)⟩
  refine F1080_ok _ _ _ ⟨fun e => (by cases e), fun _ => hcopy.mono fun en h' hh => ?_⟩
  obtain ⟨rfl, rfl⟩ := hh
  refine ⟨_, rfl, F1.lfo ⟨fun _ => F1.lex ?_, fun e => by simp at e⟩⟩
  rw [i64_in (x := E) (by omega) (by omega), i64_in (by omega) (by omega)]
  exact K1094a F1 M1 hq v1 hE hE2 (top_pos t1).1 hp hp1 hn hz fun h2 F2 M2 f2 => ⟨rfl, H h2 ⟨o, c, ws, F2, M2, v1, t1, hq⟩ f2⟩
/-- What rounding to p bits leaves: one word and whether the exponent grows. -/
def rndW (rq p : Nat) : Nat := if rq < 2 ^ p then rq * 2 ^ (64 - p) else 9223372036854775808
def rndE (rq p : Nat) : Int := if rq < 2 ^ p then 0 else 1
/-- The last part of rounding, of one word. -/
theorem rnd_one {r q o c t p : Nat} {ac ex : Int} {ng : Bool} {sb rb : Nat} (F : Flt h r p ac 1 ng (some ⟨q, o, none⟩) 1 c ex) (M : Mn h q o 1 c [t]) (hq : q ≠ r)
    (hp : 1 ≤ p) (hp2 : p ≤ 53) (hsb : sb ≤ 1) (hrb : rb ≤ 1) (ht : 2 ^ 63 ≤ t) (hex : -2147483648 ≤ ex) (hex2 : ex < 2147483647)
    (inc : Bool) (hinc : inc = (decide (rb = 1) && (decide (sb = 1) || decide (t / 2 ^ (64 - p) % 2 = 1))))
    (H : ∀ h', Flt h' r p (if sb = 0 ∧ rb = 0 then ac else accI (inc != ng)) 1 ng (some ⟨q, o, none⟩) 1 c (ex + rndE (t / 2 ^ (64 - p) + inc.toNat) p) → Mn h' q o 1 c [rndW (t / 2 ^ (64 - p) + inc.toNat) p] → Fr (fun x => x = r ∨ x = q) h h' → R (.returned (.tuple #[])) h') :
    F1110_j15 B R (some ⟨r, 0, none⟩) (sb : Int) (rb : Int) 1 h := by
  have hB : B64 = 18446744073709551616 := rfl
  have ht64 : t < 2 ^ 64 := M.dig t (by simp)
  have e1 : IntKind.u32.wrap (1 * 64 : Int) = 64 := by decide
  have e2 : IntKind.u32.wrap ((64 : Int) - (p : Int)) = ((64 - p : Nat) : Int) := by rw [wrap_u32_in (by omega) (by omega)]; omega
  have hpp : 2 ^ p * 2 ^ (64 - p) = 2 ^ 64 := by rw [← Nat.pow_add, show p + (64 - p) = 64 by omega]
  have hj : 0 < 2 ^ (64 - p) := Nat.pow_pos (by decide)
  have hqlt : t / 2 ^ (64 - p) < 2 ^ p := by rw [Nat.div_lt_iff_lt_mul hj, hpp]; exact ht64
  unfold F1110_j15
  rw [e1]
  refine F.p0 ?_
  rw [e2, lsb_wrap (by omega)]
  refine ⟨by omega, fun e => ?_, fun e => ?_⟩
  · have hne : ¬ (sb = 0 ∧ rb = 0) := by
      intro h0
      have := (or_01 hrb hsb).2 ⟨h0.2, h0.1⟩
      rw [this] at e; simp at e
    simp only [if_neg hne] at H
    have main : F1110_j32 B R (some ⟨r, 0, none⟩) 1 ((2 ^ (64 - p) : Nat) : Int) inc h := by
      refine F.lng (K1109 ⟨_, rfl, F.sac fun h1 F1 f1 => ?_⟩)
      rw [bxor_eq] at F1
      have M1 : Mn h1 q o 1 c [t] := M.fr f1 hq
      refine ⟨fun hi => F1.ma (F1.ma (K203s M1 (y := 2 ^ (64 - p)) (by rw [hB, show (18446744073709551616 : Nat) = 2 ^ 64 from rfl]; exact Nat.pow_lt_pow_right (by decide) (by omega)) fun h2 M2 f2 => ⟨_, rfl, ?_⟩)), fun hi => ?_⟩
      · rw [hi] at F1 H hinc
        simp only [Bool.toNat_true] at H
        have F2 : Flt h2 r p _ 1 ng (some ⟨q, o, none⟩) 1 c ex := F1.fr f2 (fun e => hq e.symm)
        have f12 : Fr (fun x => x = r ∨ x = q) h h2 := Fr.trans (f1.mono (T := fun x => x = r ∨ x = q) fun _ _ e => .inl e) (f2.mono (T := fun x => x = r ∨ x = q) fun _ _ e => .inr e) fun _ _ e => e
        have hdm : t = t / 2 ^ (64 - p) * 2 ^ (64 - p) + t % 2 ^ (64 - p) := by rw [Nat.mul_comm]; exact (Nat.div_add_mod _ _).symm
        have hml : t % 2 ^ (64 - p) < 2 ^ (64 - p) := Nat.mod_lt _ hj
        by_cases hc : t / 2 ^ (64 - p) + 1 < 2 ^ p
        · have hle : (t / 2 ^ (64 - p) + 1 + 1) * 2 ^ (64 - p) ≤ 2 ^ p * 2 ^ (64 - p) := Nat.mul_le_mul_right _ hc
          rw [hpp, Nat.add_mul, Nat.add_mul, Nat.one_mul] at hle
          have hlt : t + 2 ^ (64 - p) < B64 := by rw [hB, show (18446744073709551616 : Nat) = 2 ^ 64 from rfl]; omega
          have h0 : (t + 2 ^ (64 - p)) / B64 = 0 := Nat.div_eq_of_lt hlt
          rw [h0]
          rw [Nat.mod_eq_of_lt hlt] at M2
          refine ⟨fun e => by simp at e, fun _ => rnd_end F2 M2 hq (by omega) fun h3 F3 M3 f3 => ?_⟩
          have hw : (t + 2 ^ (64 - p)) / 2 ^ (64 - p) * 2 ^ (64 - p) = rndW (t / 2 ^ (64 - p) + 1) p := by
            unfold rndW
            rw [if_pos hc, Nat.add_div_right _ hj]
          rw [hw] at M3
          refine H h3 ?_ M3 (Fr.trans f12 (f3.mono (T := fun x => x = r ∨ x = q) fun _ _ e => .inr e) fun _ _ e => e)
          unfold rndE
          rw [if_pos hc, Int.add_zero]
          exact F3
        · have hq1 : t / 2 ^ (64 - p) + 1 = 2 ^ p := by omega
          have hsum : t + 2 ^ (64 - p) = B64 + t % 2 ^ (64 - p) := by
            have : (t / 2 ^ (64 - p) + 1) * 2 ^ (64 - p) = B64 := by rw [hq1, hpp]
            rw [Nat.add_mul, Nat.one_mul] at this
            omega
          have hsm : t % 2 ^ (64 - p) < B64 := Nat.lt_of_le_of_lt (Nat.mod_le _ _) (by rw [hB]; exact ht64)
          have h1 : (t + 2 ^ (64 - p)) / B64 = 1 := by
            rw [hsum, Nat.add_div_left _ (by decide), Nat.div_eq_of_lt hsm]
          rw [h1]
          rw [hsum, Nat.add_mod_left, Nat.mod_eq_of_lt hsm] at M2
          refine ⟨fun _ => F2.lex ⟨fun e => by have := of_decide_eq_true e; omega, fun _ => F2.lex (F2.sex fun h3 F3 f3 => ?_)⟩, fun e => by simp at e⟩
          rw [wrap_i32_in (by omega) (by omega)] at F3
          have M3 : Mn h3 q o 1 c [t % 2 ^ (64 - p)] := M2.fr f3 hq
          obtain ⟨cs, c1, c2, c3⟩ := M3.own
          have hle := M3.le
          refine F3.ma (F3.ma (E201 (K141 rfl c1 (by omega) M3.sl pt_some rfl (by decide) M3.dig (fun b o' e => by cases e; exact .inr (Nat.le_refl _)) (s := 1) (by decide) fun zs cc h4 W lz dz hc4 hv4 => ⟨_, rfl, ?_⟩)))
          match zs, lz with
          | [z], _ =>
            have M4 : Mn h4 q o 1 c [z] := M3.wrote W rfl dz
            have F4 : Flt h4 r p _ 1 ng (some ⟨q, o, none⟩) 1 c (ex + 1) := F3.fr W.fr (fun e => hq e.symm)
            have hz : z = t % 2 ^ (64 - p) / 2 := by simpa [val] using hv4
            have hzlt : z < 2 ^ (63 - p + 0) := by
              have : 2 ^ (64 - p) = 2 ^ (63 - p) * 2 := by rw [← Nat.pow_succ]; congr 1; omega
              rw [hz, Nat.add_zero]; omega
            have hz63 : z < 2 ^ 63 := Nat.lt_of_lt_of_le hzlt (Nat.pow_le_pow_right (by decide) (by omega))
            have eix : IntKind.u32.wrap ((1 : Int) - 1) = 0 := by decide
            unfold F1110_j39
            rw [eix]
            refine F4.ma (M4.sl.get 0 rfl (by simp) (by simp) ?_)
            simp only [List.getElem_cons_zero]
            have hor : bitsI .or .u64 (z : Int) (9223372036854775808 : Int) = ((9223372036854775808 + z : Nat) : Int) := by
              have h := bitsI_or (a := z) (b := 9223372036854775808) (by omega) (by decide)
              rw [show ((9223372036854775808 : Nat) : Int) = 9223372036854775808 from rfl] at h
              rw [h, Nat.or_comm]
              have := or_add (a := 1) (b := z) (s := 63) hz63
              rw [Nat.one_mul] at this
              rw [show (9223372036854775808 : Nat) = 2 ^ 63 from rfl, this]
            rw [hor]
            obtain ⟨cs4, d1, d2, d3⟩ := M4.own
            have hbig : 9223372036854775808 + z < B64 := by omega
            refine Wrote.put (zs := []) (Wrote.nil d1) d1 (9223372036854775808 + z) rfl rfl (by decide) (by omega) fun W5 => ?_
            have M5 := M4.put0 W5 hbig
            have F5 : Flt _ r p _ 1 ng (some ⟨q, o, none⟩) 1 c (ex + 1) := F4.fr W5.fr (fun e => hq e.symm)
            refine rnd_end F5 M5 hq (by omega) fun h6 F6 M6 f6 => ?_
            have hw : (9223372036854775808 + z) / 2 ^ (64 - p) * 2 ^ (64 - p) = rndW (t / 2 ^ (64 - p) + 1) p := by
              unfold rndW
              rw [if_neg (by omega)]
              obtain ⟨a, ha⟩ : ∃ a : Nat, (9223372036854775808 : Nat) = a * 2 ^ (64 - p) := ⟨2 ^ (p - 1), by rw [← Nat.pow_add, show p - 1 + (64 - p) = 63 by omega]⟩
              have hzj : z < 2 ^ (64 - p) := Nat.lt_of_lt_of_le hzlt (Nat.pow_le_pow_right (by decide) (by omega))
              conv => lhs; rw [ha]
              rw [Nat.mul_comm a, Nat.mul_add_div hj, Nat.div_eq_of_lt hzj, Nat.add_zero, ← ha]
            rw [hw] at M6
            have a1 : Fr (fun x => x = r ∨ x = q) h h3 := Fr.trans f12 (f3.mono (T := fun x => x = r ∨ x = q) fun _ _ e => .inl e) fun _ _ e => e
            have a2 : Fr (fun x => x = r ∨ x = q) h h4 := Fr.trans a1 (W.fr.mono (T := fun x => x = r ∨ x = q) fun _ _ e => .inr e) fun _ _ e => e
            have a3 := Fr.trans a2 (W5.fr.mono (T := fun x => x = r ∨ x = q) fun _ _ e => .inr e) fun _ _ e => e
            refine H h6 ?_ M6 (Fr.trans a3 (f6.mono (T := fun x => x = r ∨ x = q) fun _ _ e => .inr e) fun _ _ e => e)
            unfold rndE
            rw [if_neg (by omega)]
            exact F6
      · rw [hi] at F1 H
        simp only [Bool.toNat_false, Nat.add_zero] at H
        refine rnd_end F1 M1 hq (by omega) fun h3 F3 M3 f3 => ?_
        have hw : t / 2 ^ (64 - p) * 2 ^ (64 - p) = rndW (t / 2 ^ (64 - p)) p := by unfold rndW; rw [if_pos hqlt]
        rw [hw] at M3
        refine H h3 ?_ M3 (Fr.trans (f1.mono (T := fun x => x = r ∨ x = q) fun _ _ e => .inl e) (f3.mono (T := fun x => x = r ∨ x = q) fun _ _ e => .inr e) fun _ _ e => e)
        unfold rndE
        rw [if_pos hqlt, Int.add_zero]
        exact F3
    refine F.mo ⟨fun e => by simp at e, fun _ => ⟨fun e => by simp at e, fun _ => ⟨fun _ => ⟨fun e1 => ⟨fun e2 => ?_, fun e2 => F.ma (M.sl.get 0 rfl (by simp) (by simp) ?_)⟩, fun e1 => ?_⟩, fun e => by simp at e⟩⟩⟩
    · have h1 : rb = 1 := by
        rcases (by omega : rb = 0 ∨ rb = 1) with h | h
        · rw [h] at e1; simp at e1
        · exact h
      have h2 : sb = 1 := by
        rcases (by omega : sb = 0 ∨ sb = 1) with h | h
        · rw [h] at e2; simp at e2
        · exact h
      have : inc = true := by rw [hinc, h1, h2]; rfl
      rw [this] at main; exact main
    · have h1 : rb = 1 := by
        rcases (by omega : rb = 0 ∨ rb = 1) with h | h
        · rw [h] at e1; simp at e1
        · exact h
      have h2 : sb = 0 := by
        rcases (by omega : sb = 0 ∨ sb = 1) with h | h
        · exact h
        · rw [h] at e2; simp at e2
      simp only [List.getElem_cons_zero]
      have hb : (!decide (bitsI .and .u64 (t : Int) ((2 ^ (64 - p) : Nat) : Int) = 0)) = inc := by
        rw [hinc, h1, h2]
        have key := and_bit (x := t) (k := 64 - p) (by rw [show (18446744073709551616 : Nat) = 2 ^ 64 from rfl]; exact ht64) (by omega)
        rcases Nat.mod_two_eq_zero_or_one (t / 2 ^ (64 - p)) with h | h
        · rw [decide_eq_true (key.2 h), h]; rfl
        · have : ¬ (bitsI .and .u64 (t : Int) ((2 ^ (64 - p) : Nat) : Int) = 0) := fun e => by have := key.1 e; omega
          rw [decide_eq_false this, h]; rfl
      rw [hb]; exact main
    · have h1 : rb = 0 := by
        rcases (by omega : rb = 0 ∨ rb = 1) with h | h
        · exact h
        · rw [h] at e1; simp at e1
      have : inc = false := by rw [hinc, h1]; rfl
      rw [this] at main; exact main
  · have h0 : rb = 0 ∧ sb = 0 := (or_01 hrb hsb).1 (by simpa using e)
    have hi : inc = false := by rw [hinc, h0.1]; rfl
    rw [hi] at H
    simp only [Bool.toNat_false, Nat.add_zero, if_pos (show sb = 0 ∧ rb = 0 from ⟨h0.2, h0.1⟩)] at H
    refine rnd_end F M hq (by omega) fun h3 F3 M3 f3 => ?_
    have hw : t / 2 ^ (64 - p) * 2 ^ (64 - p) = rndW (t / 2 ^ (64 - p)) p := by unfold rndW; rw [if_pos hqlt]
    rw [hw] at M3
    refine H h3 ?_ M3 (f3.mono (T := fun x => x = r ∨ x = q) fun _ _ e => .inr e)
    unfold rndE
    rw [if_pos hqlt, Int.add_zero]
    exact F3
end Go.Proofs
