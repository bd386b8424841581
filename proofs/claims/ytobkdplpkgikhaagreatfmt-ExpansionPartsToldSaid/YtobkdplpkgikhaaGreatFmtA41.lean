import Derived.Test.YtobkdplpkgikhaaGreatFmtA40
import Derived.Test.YtobkdplpkgikhaaGreatFmtA32
import Derived.Test.YtobkdplpkgikhaaGreatFmtA24
/- Here stand lemmas and contracts, in the order in which they are used. -/
set_option linter.unusedVariables false
set_option linter.unusedVariables false
namespace Go.Eng
open Go
theorem div_top {ws : List Nat} {n p V : Nat} (hl : ws.length = n) (h0 : 0 < n) (d : Dig 18446744073709551616 ws) (hV : val 18446744073709551616 ws = V) (hp : p ≤ 64) : V / 2 ^ (64 * n - p) = ws.getD (n - 1) 0 / 2 ^ (64 - p) := by
  have hw : ws ≠ [] := fun e => by rw [e] at hl; simp at hl; omega
  have hlast : ws.getLast hw = ws.getD (n - 1) 0 := by
    rw [List.getD_eq_getElem?_getD, List.getElem?_eq_getElem (by omega), Option.getD_some, List.getLast_eq_getElem]
    congr 1; omega
  have h1 : val 18446744073709551616 ws.dropLast < 2 ^ (64 * (n - 1)) := by
    have := val_lt (b := 18446744073709551616) (x := ws.dropLast) (fun w hw' => d w (List.dropLast_subset _ hw'))
    rw [List.length_dropLast, hl, show (18446744073709551616 : Nat) = 2 ^ 64 from by decide, ← Nat.pow_mul] at this
    exact this
  rw [← hV, val_top hw, hlast, hl, show (18446744073709551616 : Nat) ^ (n - 1) = 2 ^ (64 * (n - 1)) by rw [show (18446744073709551616 : Nat) = 2 ^ 64 from by decide, ← Nat.pow_mul]]
  rw [show 64 * n - p = 64 * (n - 1) + (64 - p) by omega, Nat.pow_add, ← Nat.div_div_eq_div_mul, Nat.add_mul_div_left _ _ (Nat.pow_pos (by decide)), Nat.div_eq_of_lt h1, Nat.zero_add]
end Go.Eng
namespace Go.Proofs
open Go Go.Eng
variable {B : World} {R : Ending → Heap → Prop} {h : Heap}
/-- How a rounding was told: 0, or above or below. -/
def accR (V k : Nat) (ng : Bool) : Int := if V % 2 ^ k = 0 then 0 else accI (decide (V / 2 ^ k < rn V k) != ng)
/-- Float.round to at most 53 bits. -/
theorem K1110b {r q o n c V p : Nat} {ac ex : Int} {ng : Bool} {ws : List Nat} (F : Flt h r p ac 1 ng (some ⟨q, o, none⟩) n c ex) (M : Mn h q o n c ws) (hq : q ≠ r) (hV : val B64 ws = V) (hT : Top n V)
    (hp : 1 ≤ p) (hp2 : p ≤ 53) (hn : n ≤ 30000000) (hex : -2147483648 ≤ ex) (hex2 : ex < 2147483647)
    (H : ∀ h' c', Flt h' r p (accR V (64 * n - p) ng) 1 ng (some ⟨q, o, none⟩) 1 c' (ex + rndE (rn V (64 * n - p)) p) → Mn h' q o 1 c' [rndW (rn V (64 * n - p)) p] → Fr (fun x => x = r ∨ x = q) h h' → R (.returned (.tuple #[])) h') :
    Ent Tryz.prog B 156 #[.pointer (some ⟨r, 0, none⟩), .int .u64 (0 : Int)] R h := by
  have h0 := (top_pos hT).1
  have hle := M.le
  have hl := M.len
  obtain ⟨i, hi⟩ : ∃ i : Nat, i + 1 = 64 * n - p := ⟨64 * n - p - 1, by omega⟩
  have hdt := div_top (p := p) hl h0 M.dig hV (by omega)
  have htop : 2 ^ 63 ≤ ws.getD (n - 1) 0 := by
    have h1 := div_top (p := 1) hl h0 M.dig hV (by decide)
    have h2 : 1 ≤ V / 2 ^ (64 * n - 1) := (Nat.le_div_iff_mul_le (Nat.pow_pos (by decide))).2 (by rw [Nat.one_mul]; exact hT.1)
    rw [h1, show 64 - 1 = 63 from rfl, Nat.le_div_iff_mul_le (by decide)] at h2
    omega
  refine rnd_head (i := i) F M hq hV (by omega) (by omega) hn fun h1 F1 f1 => ?_
  have M1 : Mn h1 q o n c ws := M.fr f1 hq
  have htB : ws.getD (n - 1) 0 < 18446744073709551616 := by
    rw [List.getD_eq_getElem?_getD, List.getElem?_eq_getElem (by omega)]
    exact M.dig.get (by omega)
  -- what remains to be shown of the one word
  have key : ∀ (h2 : Heap) (c2 : Nat), Flt h2 r p 0 1 ng (some ⟨q, o, none⟩) 1 c2 ex → Mn h2 q o 1 c2 [ws.getD (n - 1) 0] → Fr (fun x => x = r ∨ x = q) h h2 →
      F1110_j15 B R (some ⟨r, 0, none⟩) (bitsI .and .u64 (if V % 2 ^ i = 0 then (0 : Int) else 1) (1 : Int)) ((V / 2 ^ i % 2 : Nat) : Int) 1 h2 := by
    intro h2 c2 F2 M2 f2
    have es : bitsI .and .u64 (if V % 2 ^ i = 0 then (0 : Int) else 1) (1 : Int) = ((if V % 2 ^ i = 0 then 0 else 1 : Nat) : Int) := by split <;> decide
    rw [es]
    have hrb : V / 2 ^ i % 2 ≤ 1 := Nat.le_of_lt_succ (Nat.mod_lt _ (by decide))
    have hhalf : halfB V (64 * n - p) = decide (V / 2 ^ i % 2 = 1) := by
      unfold halfB
      rw [← hi, decide_eq_true (show 0 < i + 1 by omega), Bool.true_and, Nat.add_sub_cancel]
    have hrest : restB V (64 * n - p) = decide ((if V % 2 ^ i = 0 then 0 else 1 : Nat) = 1) := by
      unfold restB
      rw [← hi, Nat.add_sub_cancel]
      by_cases hi0 : 0 < i
      · rw [decide_eq_true hi0, Bool.true_and, decide_eq_decide]
        split <;> omega
      · have : i = 0 := by omega
        subst this
        rw [Nat.pow_zero, Nat.mod_one]; rfl
    have hinc := rn_bits' V (64 * n - p)
    rw [hhalf, hrest, hdt] at hinc
    have hodd := odd_bits V (64 * n - p)
    rw [hhalf, hrest] at hodd
    refine rnd_one F2 M2 hq hp hp2 (by split <;> decide) hrb htop hex hex2 _ rfl fun h3 F3 M3 f3 => ?_
    have e1 : ws.getD (n - 1) 0 / 2 ^ (64 - p) + (decide (V / 2 ^ i % 2 = 1) && (decide ((if V % 2 ^ i = 0 then 0 else 1 : Nat) = 1) || decide (ws.getD (n - 1) 0 / 2 ^ (64 - p) % 2 = 1))).toNat = rn V (64 * n - p) := by
      rw [hinc]
      congr 1
      generalize (decide (V / 2 ^ i % 2 = 1) && (decide ((if V % 2 ^ i = 0 then 0 else 1 : Nat) = 1) || decide (ws.getD (n - 1) 0 / 2 ^ (64 - p) % 2 = 1))) = b
      cases b <;> rfl
    rw [e1] at F3 M3
    have e2 : (if (if V % 2 ^ i = 0 then 0 else 1 : Nat) = 0 ∧ V / 2 ^ i % 2 = 0 then (0 : Int) else accI ((decide (V / 2 ^ i % 2 = 1) && (decide ((if V % 2 ^ i = 0 then 0 else 1 : Nat) = 1) || decide (ws.getD (n - 1) 0 / 2 ^ (64 - p) % 2 = 1))) != ng)) = accR V (64 * n - p) ng := by
      unfold accR
      rw [hdt]
      have c1 : ((if V % 2 ^ i = 0 then 0 else 1 : Nat) = 0 ∧ V / 2 ^ i % 2 = 0) ↔ V % 2 ^ (64 * n - p) = 0 := by
        have hd : decide (V % 2 ^ (64 * n - p) ≠ 0) = true ↔ (V / 2 ^ i % 2 = 1 ∨ (if V % 2 ^ i = 0 then 0 else 1 : Nat) = 1) := by rw [hodd]; simp
        rw [decide_eq_true_eq] at hd
        constructor
        · rintro ⟨a, b⟩
          rcases Classical.em (V % 2 ^ (64 * n - p) = 0) with h | h
          · exact h
          · rcases hd.1 h with h | h <;> omega
        · intro a
          have hn : ¬ (V / 2 ^ i % 2 = 1 ∨ (if V % 2 ^ i = 0 then 0 else 1 : Nat) = 1) := fun h => hd.2 h a
          have h01 : (if V % 2 ^ i = 0 then 0 else 1 : Nat) ≤ 1 := by split <;> decide
          omega
      have c2 : decide (ws.getD (n - 1) 0 / 2 ^ (64 - p) < rn V (64 * n - p)) = (decide (V / 2 ^ i % 2 = 1) && (decide ((if V % 2 ^ i = 0 then 0 else 1 : Nat) = 1) || decide (ws.getD (n - 1) 0 / 2 ^ (64 - p) % 2 = 1))) := by
        rw [← e1]
        generalize (decide (V / 2 ^ i % 2 = 1) && (decide ((if V % 2 ^ i = 0 then 0 else 1 : Nat) = 1) || decide (ws.getD (n - 1) 0 / 2 ^ (64 - p) % 2 = 1))) = b
        cases b <;> simp
      rw [c2]
      by_cases hc : (if V % 2 ^ i = 0 then 0 else 1 : Nat) = 0 ∧ V / 2 ^ i % 2 = 0
      · rw [if_pos hc, if_pos (c1.1 hc)]
      · rw [if_neg hc, if_neg fun e => hc (c1.2 e)]
    rw [e2] at F3
    exact H h3 c2 F3 M3 (Fr.trans f2 f3 fun _ _ e => e)
  have e5 : IntKind.u32.wrap (Int.tdiv (IntKind.u32.wrap ((p : Int) + 63)) 64) = 1 := by
    rw [wrap_u32_in (x := (p : Int) + 63) (by omega) (by omega), Int.tdiv_eq_ediv_of_nonneg (by omega), wrap_u32_in (by omega) (by omega)]
    omega
  have f1' : Fr (fun x => x = r ∨ x = q) h h1 := f1.mono fun _ _ e => .inl e
  refine F1.p0 ⟨by decide, ?_⟩
  rw [e5]
  refine ⟨fun e => F1.ma (F1.ma ?_), fun e => ?_⟩
  · have hn1 : 1 < n := by have := of_decide_eq_true e; omega
    rw [wrap_u32_in (x := (n : Int) - 1) (by omega) (by omega)]
    refine sl_from (l := n - 1) (by omega) (by omega) ?_
    rw [slP_some (by omega)]
    obtain ⟨cs, c1, c2, c3⟩ := M1.own
    have hsl : Sl .u64 h1 (some ⟨q, o + (n - 1), none⟩) [ws.getD (n - 1) 0] := .inr ⟨q, o + (n - 1), cs, rfl, c1, fun j hj => by
      have : j = 0 := by simp at hj; exact hj
      subst this
      have := c3 (n - 1) (by omega)
      rw [Nat.add_zero, this]
      simp only [List.getElem_cons_zero, List.getD_eq_getElem?_getD, List.getElem?_eq_getElem (show n - 1 < ws.length by omega), Option.getD_some]⟩
    refine copyK hsl (show [ws.getD (n - 1) 0].length = n - (n - 1) by simp; omega) pt_some c1 (by omega) fun h2 W => ?_
    have hm : Nat.min (n - (n - 1)) n = 1 := by show min _ _ = 1; omega
    rw [hm] at W
    have F2 : Flt h2 r p 0 1 ng (some ⟨q, o, none⟩) n c ex := F1.fr W.fr (fun e => hq e.symm)
    refine F2.ma (sl_to (m := 1) rfl (by omega) ?_)
    rw [slP0 pt_some]
    refine F2.sma fun h3 F3 f3 => ?_
    obtain ⟨cs2, w1, w2, w3, w4⟩ := W.own c1
    have M2 : Mn h2 q o 1 c [ws.getD (n - 1) 0] := ⟨⟨cs2, w1, by omega, w4⟩, rfl, by omega, M1.lim, fun w hw => by simp at hw; subst hw; simpa using htB⟩
    have f13 : Fr (fun x => x = r ∨ x = q) h h3 := Fr.trans (Fr.trans f1' (W.fr.mono (T := fun x => x = r ∨ x = q) fun _ _ e => .inr e) fun _ _ e => e) (f3.mono (T := fun x => x = r ∨ x = q) fun _ _ e => .inl e) fun _ _ e => e
    exact key h3 c F3 (M2.fr f3 hq) f13
  · have hn1 : n = 1 := by have := of_decide_eq_false e; omega
    subst hn1
    match ws, hl, M1, key with
    | [t], _, M1, key => exact key h1 c F1 M1 f1'
/-- Float.Set into a blank one of at most 53 bits. -/
theorem K1098b {rz r q n V p : Nat} {pr ac E : Int} {ng : Bool} (Z : Flt h rz p 0 0 false none 0 0 0) (F : FltV h r q pr ac ng n V E) (hr : rz ≠ r) (hrq : rz ≠ q) (hpr : 53 < pr)
    (hp : 1 ≤ p) (hp2 : p ≤ 53) (hn : n ≤ 30000000) (hex : -2147483648 ≤ E) (hex2 : E < 2147483647)
    (H : ∀ h' q' o' c', Flt h' rz p (accR V (64 * n - p) ng) 1 ng (some ⟨q', o', none⟩) 1 c' (E + rndE (rn V (64 * n - p)) p) → Mn h' q' o' 1 c' [rndW (rn V (64 * n - p)) p] → Fr (fun x => x = rz) h h' → R (.returned (.pointer (some ⟨rz, 0, none⟩))) h') :
    Ent Tryz.prog B 127 #[.pointer (some ⟨rz, 0, none⟩), .pointer (some ⟨r, 0, none⟩)] R h := by
  obtain ⟨o, c, ws, F1, M1, v1, t1, hq⟩ := F
  have h0 := (top_pos t1).1
  have ne : rz ≠ r := hr
  refine F1098_ok _ _ ⟨fun e => (by cases e), fun _ => Z.sac fun g1 Z1 f1 => .inr (.inr ⟨_, _, _, _, rfl, rfl, .inr ⟨hr, ⟨_, Z1⟩, ⟨_, F1.fr f1 fun e => hr e.symm⟩, ?_⟩⟩)⟩
  have X1 : Flt g1 r _ _ _ _ _ _ _ _ := F1.fr f1 fun e => hr e.symm
  refine ⟨fun _ => X1.lfo (Z1.sfo fun g2 Z2 f2 => ?_), fun e => by simp at e⟩
  have X2 : Flt g2 r _ _ _ _ _ _ _ _ := X1.fr f2 fun e => hr e.symm
  refine X2.lng (Z2.sng fun g3 Z3 f3 => ?_)
  have X3 : Flt g3 r _ _ _ _ _ _ _ _ := X2.fr f3 fun e => hr e.symm
  refine X3.lfo ⟨fun _ => X3.lex (Z3.sex fun g4 Z4 f4 => ?_), fun e => by simp at e⟩
  have X4 : Flt g4 r _ _ _ _ _ _ _ _ := X3.fr f4 fun e => hr e.symm
  have f14 : Fr (fun x => x = rz) h g4 := Fr.trans (Fr.trans (Fr.trans f1 f2 fun _ _ e => e) f3 fun _ _ e => e) f4 fun _ _ e => e
  have M4 : Mn g4 q o n c ws := M1.fr f14 fun e => hrq e.symm
  have hl := M1.len
  have hle := M1.le
  have hlim := M1.lim
  have ntop : Trim ws := by
    intro hh
    have hw : ws ≠ [] := fun e => by rw [e] at hl; simp at hl; omega
    rw [List.getLast?_eq_some_getLast hw] at hh
    have hz : ws.getLast hw = 0 := Option.some.inj hh
    have hv := val_top (b := 18446744073709551616) hw
    rw [hz, Nat.mul_zero, Nat.add_zero] at hv
    have h1 : val 18446744073709551616 ws.dropLast < 2 ^ (64 * (n - 1)) := by
      have := val_lt (b := 18446744073709551616) (x := ws.dropLast) (fun w hw' => M1.dig w (List.dropLast_subset _ hw'))
      rw [List.length_dropLast, hl, show (18446744073709551616 : Nat) = 2 ^ 64 from by decide, ← Nat.pow_mul] at this
      exact this
    rw [← hv, v1] at h1
    have := t1.1
    have h2 : 2 ^ (64 * (n - 1)) ≤ 2 ^ (64 * n - 1) := Nat.pow_le_pow_right (by decide) (by omega)
    omega
  have N4 : NatI g4 (some ⟨q, o, none⟩) n V := ⟨pt_some, by omega, ws, M4.sl, hl, M4.dig, ntop, v1⟩
  refine Z4.ma (X4.ma (K182 (S := fun _ => False) Dst.none N4 (by omega) fun q' c' g5 f5 hc5 N5 D5 => ⟨_, _, _, rfl, ?_⟩))
  obtain ⟨q2, o2, ws2, rfl, M5, v5, t5, hq5⟩ := Mn.of N5 D5 hc5 h0
  have Z5 : Flt g5 rz _ _ _ _ _ _ _ _ := Z4.fr f5 id
  have hsz : g4.size ≤ q2 := by rcases hq5 with e | e; exact e.elim; exact e
  have hq2 : q2 ≠ rz := by have := Z4.lt; omega
  refine Z5.sma fun g6 Z6 f6 => ?_
  have M6 : Mn g6 q2 o2 n c' ws2 := M5.fr f6 hq2
  have X6 : Flt g6 r _ _ _ _ _ _ _ _ := (X4.fr f5 id).fr f6 fun e => hr e.symm
  refine Z6.p0 ⟨fun e => by have := of_decide_eq_true e; omega, fun _ => Z6.p0 (X6.p0 ⟨fun _ => ?_, fun e => by have := of_decide_eq_false e; omega⟩)⟩
  refine K1110b Z6 M6 hq2 v5 t1 hp hp2 hn hex hex2 fun h' c2 Z7 M7 f7 => ⟨rfl, ?_⟩
  have a1 : Fr (fun x => x = rz) h g6 := Fr.trans f14 (Fr.trans (Ext.to f5) f6 (S := fun x => x = rz) fun _ _ e => e) fun _ _ e => e
  refine H h' q2 o2 c2 Z7 M7 ⟨Nat.le_trans a1.size f7.size, fun b hb hs => ?_⟩
  have hb4 : b < g4.size := Nat.lt_of_lt_of_le hb f14.size
  rw [f7.same b (Nat.lt_of_lt_of_le hb a1.size) (fun e => e.elim hs (by omega)), a1.same b hb hs]
end Go.Proofs
set_option linter.unusedVariables false
namespace Go.Eng
open Go
/-- The word of a rung with a sign. -/
def wordN (ng : Bool) (k : Nat) : Nat := k + (if ng then 9223372036854775808 else 0)
theorem wordN_sg {ng : Bool} {k : Nat} (h : k < 9223372036854775808) : sg (wordN ng k) = pat ng k := by
  unfold wordN sg pat
  cases ng
  · simp only [Bool.false_eq_true, if_false, Nat.add_zero]; rw [if_pos h]
  · simp only [if_true]; rw [if_neg (by omega)]; omega
section
variable {V n : Nat} {E : Int}
theorem top_last (hT : Top n V) : lastP V (E - 64 * n) = max (E - 53) (-1074) := by
  have := (top_pos hT).1
  unfold lastP
  rw [top_log hT]
  omega
theorem top_cutX (hT : Top n V) : cutX V (E - 64 * n) = V := by
  have := (top_pos hT).1
  unfold cutX
  rw [top_last hT, show (E - 64 * (n : Int) - max (E - 53) (-1074)).toNat = 0 by omega, Nat.pow_zero, Nat.mul_one]
theorem top_cutD (hT : Top n V) : cutD V (E - 64 * n) = (max (E - 53) (-1074) - (E - 64 * n)).toNat := by
  unfold cutD
  rw [top_last hT]
theorem incN_rn (m : Nat) (e : Int) : incN m e = decide (cutX m e / 2 ^ cutD m e < rn (cutX m e) (cutD m e)) := by
  unfold incN rn
  by_cases h : 2 ^ cutD m e < 2 * (cutX m e % 2 ^ cutD m e) ∨ (2 ^ cutD m e = 2 * (cutX m e % 2 ^ cutD m e) ∧ cutX m e / 2 ^ cutD m e % 2 = 1)
  · rw [if_pos h, decide_eq_true h]; simp
  · rw [if_neg h, decide_eq_false h]; simp
theorem rung_rn (m : Nat) (e : Int) : rung m e = min ((lastP m e + 1074).toNat * 4503599627370496 + rn (cutX m e) (cutD m e)) 9218868437227405312 := rfl
/-- How the nearest float is told. -/
def accN (m : Nat) (e : Int) (ng : Bool) : Int := if inxN m e then (if upN m e != ng then 1 else -1) else 0
end
end Go.Eng
namespace Go.Proofs
open Go Go.Eng
variable {B : World} {R : Ending → Heap → Prop} {h : Heap}
theorem accR_N {V k : Nat} (ng : Bool) {m : Nat} {e : Int} (hX : cutX m e = V) (hD : cutD m e = k) (hf : flo m e < INF) : accR V k ng = accN m e ng := by
  unfold accR accN inxN upN
  rw [incN_rn, hX, hD]
  have h1 : decide (INF ≤ flo m e) = false := by rw [decide_eq_false_iff_not]; omega
  rw [h1, Bool.or_false, Bool.or_false]
  unfold odd
  rw [hX, hD]
  by_cases h : V % 2 ^ k = 0
  · rw [if_pos h, decide_eq_false (by omega)]; rfl
  · rw [if_neg h, decide_eq_true h]; rfl
/-- math.Inf. -/
theorem wordN_f (k : Nat) : wordN false k = k := by unfold wordN; simp
theorem wordN_t (k : Nat) : wordN true k = k + 9223372036854775808 := by unfold wordN; simp
theorem K185 {s : Int} {ng : Bool} (hs : decide ((0 : Int) ≤ s) = !ng) (H : R (.returned (.float .f64 (wordN ng 9218868437227405312))) h) : Ent Tryz.prog B 79 #[.int .i64 s] R h := by
  have k : ∀ w : Nat, ∀ x : Int, x = (w : Int) → R (.returned (.float .f64 w)) h → F185_j2 B R x h := fun w x hx hr => by
    subst hx
    exact E116 (n := w) ⟨_, rfl, hr⟩
  refine F185_ok _ ⟨fun e => k 9218868437227405312 _ (by omega) ?_, fun e => k 18442240474082181120 _ (by omega) ?_⟩
  · rw [e] at hs
    have : ng = false := by cases ng <;> simp at hs ⊢
    subst this
    rw [wordN_f] at H; exact H
  · rw [e] at hs
    have : ng = true := by cases ng <;> simp at hs ⊢
    subst this
    rw [wordN_t] at H; exact H
theorem or_sign (ng : Bool) {m : Nat} (hm : m < 9223372036854775808) : bitsI .or .u64 (if ng then (9223372036854775808 : Int) else 0) (m : Int) = (wordN ng m : Int) := by
  unfold wordN
  cases ng
  · have h := bitsI_or (a := 0) (b := m) (by omega) (by omega)
    rw [Nat.zero_or] at h
    exact h
  · have h := bitsI_or (a := 9223372036854775808) (b := m) (by omega) (by omega)
    have h2 := or_add (a := 1) (b := m) (s := 63) hm
    rw [Nat.one_mul] at h2
    have h3 : (9223372036854775808 : Nat) ||| m = m + 9223372036854775808 := by rw [Nat.add_comm]; exact h2
    rw [h3] at h
    exact h
/-- The end of Float64: sign, exponent and fraction put together. -/
theorem f64_end {rz q o c w : Nat} {p ac E : Int} {ng : Bool} (Z : Flt h rz p ac 1 ng (some ⟨q, o, none⟩) 1 c E) {a b : Nat} (hb : b < 4503599627370496) (hab : a * 4503599627370496 + b < 9223372036854775808)
    (H : R (.returned (.tuple #[.float .f64 (wordN ng (a * 4503599627370496 + b)), .int .i8 ac])) h) :
    F1081_j33 B R (some ⟨rz, 0, none⟩) (if ng then (9223372036854775808 : Int) else 0) ((a * 4503599627370496 : Nat) : Int) (b : Int) h := by
  have e1 : bitsI .or .u64 (bitsI .or .u64 (if ng then (9223372036854775808 : Int) else 0) ((a * 4503599627370496 : Nat) : Int)) (b : Int) = (wordN ng (a * 4503599627370496 + b) : Int) := by
    have ha : a * 4503599627370496 < 9223372036854775808 := Nat.lt_of_le_of_lt (Nat.le_add_right _ b) hab
    rw [or_sign ng (m := a * 4503599627370496) ha]
    have hw : wordN ng (a * 4503599627370496) < 18446744073709551616 := by
      cases ng
      · rw [wordN_f]; exact Nat.lt_trans ha (by decide)
      · rw [wordN_t]; exact Nat.lt_of_lt_of_eq (Nat.add_lt_add_right ha _) (by decide)
    rw [bitsI_or hw (by omega)]
    congr 1
    unfold wordN
    have e52 : (2 : Nat) ^ 52 = 4503599627370496 := by decide
    have h2 : ∀ x : Nat, x * 4503599627370496 ||| b = x * 4503599627370496 + b := fun x => by
      have := or_add (a := x) (b := b) (s := 52) (by rw [e52]; exact hb)
      rwa [e52] at this
    cases ng
    · simp only [Bool.false_eq_true, if_false, Nat.add_zero]; exact h2 a
    · simp only [if_true]
      rw [show a * 4503599627370496 + 9223372036854775808 = (a + 2048) * 4503599627370496 by omega, h2]
      omega
  refine ⟨rz, 0, rfl, rz, 0 + 2, rfl, ac, Own.cell Z _, ?_⟩
  rw [e1]
  exact E116 ⟨_, rfl, rfl, H⟩
end Go.Proofs
set_option linter.unusedVariables false
namespace Go.Proofs
open Go Go.Eng
variable {B : World} {R : Ending → Heap → Prop} {h : Heap}
theorem rndE_01 (rq p : Nat) : rndE rq p = 0 ∨ rndE rq p = 1 := by unfold rndE; split; exact .inl rfl; exact .inr rfl
/-- Float64's end, of what is below the normal ones. -/
theorem f64_den {rz q o c p rq : Nat} {pr ac E X : Int} {ng : Bool} (Z : Flt h rz pr ac 1 ng (some ⟨q, o, none⟩) 1 c X) (M : Mn h q o 1 c [rndW rq p]) (hp1 : 1 ≤ p) (hp2 : p ≤ 52) (hpE : (p : Int) = E + 1074)
    (hrq : rq ≤ 2 ^ p) (h52 : rq < 4503599627370496) (hlt : E + rndE rq p - 1 < -1022) (HH : R (.returned (.tuple #[.float .f64 (wordN ng rq), .int .i8 ac])) h) :
    F1081_j28 B R (E + rndE rq p - 1) (some ⟨rz, 0, none⟩) (if ng then (9223372036854775808 : Int) else 0) 0 h := by
  have h01 := rndE_01 rq p
  refine ⟨fun e => ⟨rz, 0, rfl, rz, 0 + 5, rfl, _, _, _, Own.cell Z _, K1099 M (by decide) ⟨_, rfl, ?_⟩⟩, fun e => absurd hlt (of_decide_eq_false e)⟩
  have esh : IntKind.u64.wrap (IntKind.i64.wrap ((64 : Int) - (IntKind.i64.wrap ((1075 : Int) + (IntKind.i64.wrap (E + rndE rq p - 1)))))) = ((64 - p - (rndE rq p).toNat : Nat) : Int) := by
    generalize rndE rq p = x at *
    rw [i64_in (x := E + x - 1) (by omega) (by omega), i64_in (x := 1075 + (E + x - 1)) (by omega) (by omega), i64_in (by omega) (by omega), wrap_u64_in (by omega) (by omega)]
    omega
  rw [esh]
  refine ⟨Int.natCast_nonneg _, ?_⟩
  rw [fdiv_pow (by omega)]
  have hw : ([rndW rq p].getD (1 - 1) 0) / 2 ^ (64 - p - (rndE rq p).toNat) = rq := by
    show rndW rq p / _ = _
    unfold rndW rndE
    by_cases hlt2 : rq < 2 ^ p
    · rw [if_pos hlt2, if_pos hlt2, Int.toNat_zero, Nat.sub_zero, Nat.mul_div_cancel _ (Nat.pow_pos (by decide))]
    · rw [if_neg hlt2, if_neg hlt2, show (1 : Int).toNat = 1 from rfl, show rq = 2 ^ p by omega]
      rw [show (9223372036854775808 : Nat) = 2 ^ p * 2 ^ (64 - p - 1) by rw [← Nat.pow_add, show p + (64 - p - 1) = 63 by omega], Nat.mul_div_cancel _ (Nat.pow_pos (by decide))]
  rw [hw]
  have := f64_end (w := 0) (B := B) (R := R) Z (a := 0) (b := rq) h52 (by rw [Nat.zero_mul, Nat.zero_add]; exact Nat.lt_trans h52 (by decide)) (by rw [Nat.zero_mul, Nat.zero_add]; exact HH)
  rw [Nat.zero_mul] at this
  exact this
/-- Float64's end, of normal ones. -/
theorem f64_nor {rz q o c p rq k : Nat} {pr ac E X : Int} {ng : Bool} (Z : Flt h rz pr ac 1 ng (some ⟨q, o, none⟩) 1 c X) (M : Mn h q o 1 c [rndW rq p])
    (hge : ¬ E + rndE rq p - 1 < -1022) (hle : E + rndE rq p ≤ 1024) (hk : k = (E + rndE rq p + 1022).toNat * 4503599627370496 + rndW rq p / 2048 % 4503599627370496) (hk2 : k < 9223372036854775808)
    (HH : R (.returned (.tuple #[.float .f64 (wordN ng k), .int .i8 ac])) h) :
    F1081_j28 B R (E + rndE rq p - 1) (some ⟨rz, 0, none⟩) (if ng then (9223372036854775808 : Int) else 0) 0 h := by
  refine ⟨fun e => absurd (of_decide_eq_true e) hge, fun e => ⟨by decide, rz, 0, rfl, rz, 0 + 5, rfl, _, _, _, Own.cell Z _, K1099 M (by decide) ⟨_, rfl, by decide, ?_⟩⟩⟩
  have hbx : IntKind.u64.wrap ((IntKind.u64.wrap (IntKind.i32.wrap ((E + rndE rq p - 1) + (1023 : Int)))) * 2 ^ min (Int.toNat (52 : Int)) IntKind.u64.bits) = (((E + rndE rq p + 1022).toNat * 4503599627370496 : Nat) : Int) := by
    generalize rndE rq p = x at *
    rw [wrap_i32_in (by omega) (by omega), wrap_u64_in (x := (E + x - 1) + 1023) (by omega) (by omega), show (E + x - 1) + 1023 = (((E + x + 1022).toNat : Nat) : Int) by omega]
    have := shl_pow (x := (E + x + 1022).toNat) (s := 52) (by decide)
    rw [show ((52 : Nat) : Int) = 52 from rfl] at this
    rw [this, show (2 : Nat) ^ 52 = 4503599627370496 by decide, Nat.mod_eq_of_lt (by omega)]
  have h3 : rndW rq p < 18446744073709551616 := M.dig _ (by simp)
  have hmt : bitsI .and .u64 (Int.fdiv (([rndW rq p].getD (1 - 1) 0 : Nat) : Int) (2 ^ min (Int.toNat (11 : Int)) IntKind.u64.bits)) (4503599627370495 : Int) = ((rndW rq p / 2048 % 4503599627370496 : Nat) : Int) := by
    show bitsI .and .u64 (Int.fdiv ((rndW rq p : Nat) : Int) _) _ = _
    generalize rndW rq p = w at *
    have h1 := fdiv_pow (x := w) (s := 11) (by decide)
    rw [show ((11 : Nat) : Int) = 11 from rfl, show (2 : Nat) ^ 11 = 2048 by decide] at h1
    have h2 := bitsI_and (a := w / 2048) (b := 4503599627370495) (by omega)
    rw [show ((4503599627370495 : Nat) : Int) = 4503599627370495 from rfl] at h2
    rw [h1, h2, Nat.mod_eq_of_lt (by decide : 4503599627370495 < 18446744073709551616)]
    have h4 := Nat.and_two_pow_sub_one_eq_mod (w / 2048) 52
    rw [show (2 : Nat) ^ 52 - 1 = 4503599627370495 by decide, show (2 : Nat) ^ 52 = 4503599627370496 by decide] at h4
    rw [h4]
  rw [hbx, hmt]
  refine f64_end (w := 0) Z (Nat.mod_lt _ (by decide)) (by rw [← hk]; exact hk2) ?_
  rw [← hk]; exact HH
end Go.Proofs
set_option linter.unusedVariables false
namespace Go.Eng
open Go
/-- Of a number that has p places in binary64: the rung, and how the nearest is told. -/
theorem mid_num {V n p : Nat} {E : Int} (hT : Top n V) (hp : (p = 53 ∧ -1021 ≤ E ∧ E ≤ 2147483600) ∨ (1 ≤ p ∧ p ≤ 52 ∧ (p : Int) = E + 1074)) :
    cutX V (E - 64 * n) = V ∧ cutD V (E - 64 * n) = 64 * n - p ∧ flo V (E - 64 * n) = (max (E - 53) (-1074) + 1074).toNat * 4503599627370496 + V / 2 ^ (64 * n - p) ∧
    rung V (E - 64 * n) = min ((max (E - 53) (-1074) + 1074).toNat * 4503599627370496 + rn V (64 * n - p)) INF ∧
    rn V (64 * n - p) ≤ 2 ^ p ∧ (p = 53 → 4503599627370496 ≤ V / 2 ^ (64 * n - p)) ∧ V / 2 ^ (64 * n - p) ≤ rn V (64 * n - p) ∧ V / 2 ^ (64 * n - p) < 2 ^ p := by
  have hn0 := (top_pos hT).1
  have hX := top_cutX (E := E) hT
  have hD : cutD V (E - 64 * n) = 64 * n - p := by rw [top_cutD hT]; omega
  have hL := top_last (E := E) hT
  have hrr := rung_rn V (E - 64 * n)
  rw [hX, hD, hL] at hrr
  have hfl : flo V (E - 64 * n) = (max (E - 53) (-1074) + 1074).toNat * 4503599627370496 + V / 2 ^ (64 * n - p) := by unfold flo; rw [hX, hD, hL]
  have hle := rn_le V (64 * n - p)
  have hdp : V / 2 ^ (64 * n - p) < 2 ^ p := by
    rw [Nat.div_lt_iff_lt_mul (Nat.pow_pos (by decide)), ← Nat.pow_add, show p + (64 * n - p) = 64 * n by omega]
    exact hT.2
  refine ⟨hX, hD, hfl, hrr, Nat.le_trans hle.2 hdp, fun h53 => ?_, hle.1, hdp⟩
  rw [h53, Nat.le_div_iff_mul_le (Nat.pow_pos (by decide)), show (4503599627370496 : Nat) = 2 ^ 52 by decide, ← Nat.pow_add, show 52 + (64 * n - 53) = 64 * n - 1 by omega]
  exact hT.1
theorem acc_over {m : Nat} {e : Int} (ng : Bool) (hu : upN m e = true) (hi : inxN m e = true) : accN m e ng = if ng then -1 else 1 := by
  unfold accN
  rw [hu, hi, if_pos rfl]
  cases ng <;> rfl
theorem pow_53 : (2 : Nat) ^ 53 = 9007199254740992 := by decide
theorem pow_52 : (2 : Nat) ^ 52 = 4503599627370496 := by decide
theorem n_base {E : Int} (h : -1021 ≤ E) : ((max (E - 53) (-1074) + 1074).toNat : Int) = E + 1021 := by omega
theorem n_base0 {E : Int} (h : E ≤ -1022) : (max (E - 53) (-1074) + 1074).toNat = 0 := by omega
theorem n_over {E x : Int} {rq : Nat} (h : -1021 ≤ E) (hx : x = if rq < 9007199254740992 then 0 else 1) (hq : rq ≤ 9007199254740992) (hl : 4503599627370496 ≤ rq) (ho : (1023 : Int) < E + x - 1) :
    9218868437227405312 ≤ (max (E - 53) (-1074) + 1074).toNat * 4503599627370496 + rq := by
  have hb := n_base h
  generalize (max (E - 53) (-1074) + 1074).toNat = y at *
  by_cases hc : rq < 9007199254740992
  · rw [if_pos hc] at hx; omega
  · rw [if_neg hc] at hx; omega
theorem n_up {E x : Int} {rq a : Nat} (h : -1021 ≤ E) (hx : x = if rq < 9007199254740992 then 0 else 1) (hq : rq ≤ 9007199254740992) (hl : 4503599627370496 ≤ a) (ho : (1023 : Int) < E + x - 1)
    (ha : a < 9007199254740992) (hg : ¬ 9218868437227405312 ≤ (max (E - 53) (-1074) + 1074).toNat * 4503599627370496 + a) : a < rq := by
  have hb := n_base h
  generalize (max (E - 53) (-1074) + 1074).toNat = y at *
  by_cases hc : rq < 9007199254740992
  · rw [if_pos hc] at hx; omega
  · omega
theorem n_in {E x : Int} {rq a : Nat} (h : -1021 ≤ E) (hx : x = if rq < 9007199254740992 then 0 else 1) (ho : ¬ (1023 : Int) < E + x - 1) (ha : a < 9007199254740992) : (max (E - 53) (-1074) + 1074).toNat * 4503599627370496 + a < 9218868437227405312 := by
  have hb := n_base h
  generalize (max (E - 53) (-1074) + 1074).toNat = y at *
  have : 0 ≤ x := by rw [hx]; split <;> decide
  omega
theorem n_nor {E x : Int} {rq : Nat} (h : -1021 ≤ E) (hx : x = if rq < 9007199254740992 then 0 else 1) (hq : rq ≤ 9007199254740992) (hl : 4503599627370496 ≤ rq) (ho : ¬ (1023 : Int) < E + x - 1) :
    min ((max (E - 53) (-1074) + 1074).toNat * 4503599627370496 + rq) 9218868437227405312 = (E + x + 1022).toNat * 4503599627370496 + (if rq < 9007199254740992 then rq * 2048 else 9223372036854775808) / 2048 % 4503599627370496 ∧
    min ((max (E - 53) (-1074) + 1074).toNat * 4503599627370496 + rq) 9218868437227405312 < 9223372036854775808 := by
  have hb := n_base h
  generalize (max (E - 53) (-1074) + 1074).toNat = y at *
  by_cases hc : rq < 9007199254740992
  · rw [if_pos hc] at hx ⊢
    rw [Nat.mul_div_cancel _ (by decide)]
    omega
  · rw [if_neg hc] at hx ⊢
    omega
theorem n_one {E x : Int} {rq p : Nat} (hE : E ≤ -1022) (hx : x = if rq < 2 ^ p then 0 else 1) (hge : ¬ E + x - 1 < -1022) : E = -1022 ∧ x = 1 ∧ ¬ rq < 2 ^ p := by
  by_cases hc : rq < 2 ^ p
  · rw [if_pos hc] at hx; omega
  · rw [if_neg hc] at hx; exact ⟨by omega, hx, hc⟩
end Go.Eng
namespace Go.Proofs
open Go Go.Eng
variable {B : World} {R : Ending → Heap → Prop} {h : Heap}
theorem rndW53 (rq : Nat) : rndW rq 53 = if rq < 9007199254740992 then rq * 2048 else 9223372036854775808 := by
  unfold rndW; rw [pow_53, show (2 : Nat) ^ (64 - 53) = 2048 by decide]
/-- Float64 of what has at least one place. -/
theorem f64_mid {r q n V p : Nat} {pr ac E : Int} {ng : Bool} (F : FltV h r q pr ac ng n V E) (hpr : 53 < pr) (hn : n ≤ 30000000)
    (hp : (p = 53 ∧ -1021 ≤ E ∧ E ≤ 2147483600) ∨ (1 ≤ p ∧ p ≤ 52 ∧ (p : Int) = E + 1074))
    (H : ∀ h', Ext h h' → R (.returned (.tuple #[.float .f64 (wordN ng (rung V (E - 64 * n))), .int .i8 (accN V (E - 64 * n) ng)])) h') :
    F1081_j17 B R (some ⟨r, 0, none⟩) (p : Int) h := by
  obtain ⟨o, c, ws, F1, M1, v1, hT, hq⟩ := F
  obtain ⟨hX, hD, hfl, hrr, hrp, hq53, hfr, hdp⟩ := mid_num hT hp
  have hp1 : 1 ≤ p := by omega
  have hp2 : p ≤ 53 := by omega
  have hEl : -2147483648 ≤ E ∧ E < 2147483647 := by omega
  refine alK fun rz g1 erz f1 o1 z1 => ?_
  have Z1 : Flt g1 rz 0 0 0 false none 0 0 0 := o1
  have hrz : rz ≠ r := by have := F1.lt; omega
  have hrq : rz ≠ q := by have := M1.lt; omega
  refine ⟨rz, 0, rfl, rz, 0, rfl, Own.stC Z1 (by simp) rfl fun a2 f2 => ?_⟩
  rw [wrap_u32_in (x := (p : Int)) (by omega) (by omega)] at a2 f2 ⊢
  generalize setCell g1 ⟨rz, 0, none⟩ (.int .u32 (p : Int)) = g2 at a2 f2 ⊢
  have Z2 : Flt g2 rz p 0 0 false none 0 0 0 := a2
  have F2 : FltV g2 r q pr ac ng n V E := ⟨o, c, ws, (F1.fr f1 id).fr f2 (fun e => hrz e.symm), (M1.fr f1 id).fr f2 (fun e => hrq e.symm), v1, hT, hq⟩
  refine K1098b Z2 F2 hrz hrq hpr hp1 hp2 hn hEl.1 hEl.2 fun g3 q3 o3 c3 Z3 M3 f3 => ⟨_, rfl, ?_⟩
  have fx : Ext h g3 := by
    have a := Fr.trans (Fr.trans (S := fun x => x = rz) (Ext.to f1) f2 fun _ _ e => e) f3 fun _ _ e => e
    exact Fr.toExt a fun x hx e => by omega
  have Fx : Flt g3 r pr ac 1 ng (some ⟨q, o, none⟩) n c E := ((F1.fr f1 id).fr f2 (fun e => hrz e.symm)).fr f3 (fun e => hrz e.symm)
  have HH := H g3 fx
  clear H F2 Z2 a2 f2 f3 M1 F1 f1 o1 z1 Z1
  generalize hrqd : rn V (64 * n - p) = rq at *
  have h01 := rndE_01 rq p
  refine ⟨rz, 0, rfl, rz, 0 + 6, rfl, _, Own.cell Z3 _, rz, 0, rfl, rz, 0 + 3, rfl, _, Own.cell Z3 _, fun e => by simp at e, fun _ => ?_⟩
  have hEd : rndE rq p = if rq < 2 ^ p then 0 else 1 := rfl
  rw [wrap_i32_in (by omega) (by omega)]
  by_cases hover : (1023 : Int) < E + rndE rq p - 1
  · rw [decide_eq_true hover]
    have hp53 : p = 53 := by omega
    subst hp53
    have hq52 := hq53 rfl
    rw [pow_53] at hEd hrp hdp
    have hE : -1021 ≤ E := by omega
    have hr : rung V (E - 64 * n) = 9218868437227405312 := by rw [hrr]; exact Nat.min_eq_right (n_over hE hEd hrp (Nat.le_trans hq52 hfr) hover)
    have hup : upN V (E - 64 * n) = true ∧ inxN V (E - 64 * n) = true := by
      by_cases hge : INF ≤ flo V (E - 64 * n)
      · unfold upN inxN
        rw [decide_eq_true hge]; simp
      · have hi : incN V (E - 64 * n) = true := by
          rw [incN_rn, hX, hD, hrqd, decide_eq_true_eq]
          rw [hfl] at hge
          exact n_up hE hEd hrp hq52 hover hdp hge
        unfold upN inxN
        rw [incN_odd hi, hi]; simp
    rw [hr, acc_over ng hup.1 hup.2] at HH
    refine ⟨fun _ => Fx.lng ⟨fun e => ?_, fun e => ?_⟩, fun e => by cases e⟩
    · subst e
      exact K185 (ng := true) rfl ⟨_, rfl, HH⟩
    · subst e
      exact K185 (ng := false) rfl ⟨_, rfl, HH⟩
  · rw [decide_eq_false hover]
    have hfI : flo V (E - 64 * n) < INF := by
      rw [hfl]
      rcases hp with ⟨rfl, h1, h2⟩ | ⟨h1, h2, h3⟩
      · rw [pow_53] at hEd hdp
        exact n_in h1 hEd hover hdp
      · rw [n_base0 (by omega), Nat.zero_mul, Nat.zero_add]
        have h4 : 2 ^ p ≤ 2 ^ 52 := Nat.pow_le_pow_right (by decide) h2
        rw [pow_52] at h4
        exact Nat.lt_of_lt_of_le hdp (Nat.le_trans h4 (by decide))
    rw [accR_N ng hX hD hfI] at Z3
    have hj28 : F1081_j28 B R (E + rndE rq p - 1) (some ⟨rz, 0, none⟩) (if ng then (9223372036854775808 : Int) else 0) 0 g3 := by
      rcases hp with ⟨rfl, h1, h2⟩ | ⟨h1, h2, h3⟩
      · rw [pow_53] at hEd hrp
        have hn := n_nor h1 hEd hrp (Nat.le_trans (hq53 rfl) hfr) hover
        rw [← rndW53, ← hrr] at hn
        have hk := hn.1
        have hk2 := hn.2
        clear hrr hn hfl hX hD hfI
        generalize rung V (E - 64 * n) = k at *
        generalize accN V (E - 64 * n) ng = ac2 at *
        exact f64_nor Z3 M3 (by omega) (by omega) hk hk2 HH
      · have hr : rung V (E - 64 * n) = rq := by
          rw [hrr, n_base0 (by omega), Nat.zero_mul, Nat.zero_add]
          have h4 : 2 ^ p ≤ 2 ^ 52 := Nat.pow_le_pow_right (by decide) h2
          rw [pow_52] at h4
          exact Nat.min_eq_left (Nat.le_trans hrp (Nat.le_trans h4 (by decide)))
        rw [hr] at HH
        by_cases hlt : E + rndE rq p - 1 < -1022
        · have h52 : rq < 4503599627370496 := by
            by_cases hc : rq < 2 ^ p
            · have h4 : 2 ^ p ≤ 2 ^ 52 := Nat.pow_le_pow_right (by decide) h2
              rw [pow_52] at h4
              exact Nat.lt_of_lt_of_le hc h4
            · rw [if_neg hc] at hEd
              have h51 : p ≤ 51 := by omega
              have h4 : 2 ^ p ≤ 2 ^ 51 := Nat.pow_le_pow_right (by decide) h51
              exact Nat.lt_of_le_of_lt (Nat.le_trans hrp h4) (by decide)
          exact f64_den Z3 M3 h1 h2 h3 hrp h52 hlt HH
        · obtain ⟨e1, e2, e3⟩ := n_one (show E ≤ -1022 by omega) hEd hlt
          have hp52 : p = 52 := by omega
          subst hp52
          have hrq' : rq = 4503599627370496 := by rw [pow_52] at hrp e3; omega
          have hw : rndW rq 52 = 9223372036854775808 := by unfold rndW; rw [if_neg e3]
          refine f64_nor Z3 M3 hlt (by omega) (k := 4503599627370496) ?_ (by decide) (by rw [← hrq']; exact HH)
          rw [hw, e1, e2]; decide
    refine ⟨fun e => (by cases e), fun _ => Fx.lng ⟨fun e => ?_, fun e => ?_⟩⟩
    · rw [e] at hj28; exact hj28
    · rw [e] at hj28; exact hj28
end Go.Proofs
