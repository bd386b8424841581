import Derived.Test.YtobkdplpkgikhaaGreatFmtA38
import Derived.Test.YtobkdplpkgikhaaGreatFmtA23
import Derived.Test.YtobkdplpkgikhaaGreatFmtA29
/- Here stand lemmas and contracts, in the order in which they are used. -/
set_option linter.unusedVariables false
set_option linter.unusedVariables false
/-! big.Float: words of its memory, and what the small functions on its mantissa answer. -/
namespace Go.Eng
open Go
theorem wrap_u32_in {x : Int} (h1 : 0 ≤ x) (h2 : x < 4294967296) : IntKind.u32.wrap x = x := by
  have e : IntKind.u32.wrap x = if (false && decide (x % 4294967296 ≥ 2147483648)) = true then x % 4294967296 - 4294967296 else x % 4294967296 := rfl
  rw [e, if_neg (by simp)]
  omega
theorem wrap_i32_in {x : Int} (h1 : -2147483648 ≤ x) (h2 : x < 2147483648) : IntKind.i32.wrap x = x := by
  have e : IntKind.i32.wrap x = if (true && decide (x % 4294967296 ≥ 2147483648)) = true then x % 4294967296 - 4294967296 else x % 4294967296 := rfl
  rw [e]
  simp only [Bool.true_and, decide_eq_true_eq]
  split <;> omega
/-- A big.Float's block. -/
def Flt (h : Heap) (r : Nat) (pr : Int) (ac : Int) (fo : Int) (ng : Bool) (p : Option Addr) (n c : Nat) (ex : Int) : Prop :=
  Own h r #[.int .u32 pr, .int .u8 0, .int .i8 ac, .int .u8 fo, .bool ng, .slice p n c, .int .i32 ex]
section
variable {h : Heap} {r : Nat} {pr ac fo ex : Int} {ng : Bool} {p : Option Addr} {n c : Nat}
theorem Flt.lt (O : Flt h r pr ac fo ng p n c ex) : r < h.size := Own.lt O
theorem Flt.fr {h' : Heap} {S : Nat → Prop} (O : Flt h r pr ac fo ng p n c ex) (f : Fr S h h') (hr : ¬ S r) : Flt h' r pr ac fo ng p n c ex := Own.fr O f hr
theorem Flt.p0 {K : Int → Prop} (O : Flt h r pr ac fo ng p n c ex) (k : K pr) :
    isP (some ⟨r, 0, none⟩) fun b2 o3 => isP (some ⟨b2, o3, none⟩) fun b4 o5 => isP (some ⟨b4, o5, none⟩) fun b6 o7 => ∃ x, cell? h ⟨b6, o7, none⟩ = some (.int .u32 x) ∧ K x :=
  ⟨r, 0, rfl, r, 0, rfl, r, 0, rfl, pr, Own.cell O _, k⟩
theorem Flt.mo {K : Int → Prop} (O : Flt h r pr ac fo ng p n c ex) (k : K 0) :
    isP (some ⟨r, 0, none⟩) fun b2 o3 => isP (some ⟨b2, o3, none⟩) fun b4 o5 => isP (some ⟨b4, o5 + 1, none⟩) fun b6 o7 => ∃ x, cell? h ⟨b6, o7, none⟩ = some (.int .u8 x) ∧ K x :=
  ⟨r, 0, rfl, r, 0, rfl, r, 0 + 1, rfl, 0, Own.cell O _, k⟩
theorem Flt.lfo {K : Int → Prop} (O : Flt h r pr ac fo ng p n c ex) (k : K fo) :
    isP (some ⟨r, 0, none⟩) fun b2 o3 => isP (some ⟨b2, o3, none⟩) fun b4 o5 => isP (some ⟨b4, o5 + 3, none⟩) fun b6 o7 => ∃ x, cell? h ⟨b6, o7, none⟩ = some (.int .u8 x) ∧ K x :=
  ⟨r, 0, rfl, r, 0, rfl, r, 0 + 3, rfl, fo, Own.cell O _, k⟩
theorem Flt.lng {K : Bool → Prop} (O : Flt h r pr ac fo ng p n c ex) (k : K ng) :
    isP (some ⟨r, 0, none⟩) fun b2 o3 => isP (some ⟨b2, o3, none⟩) fun b4 o5 => isP (some ⟨b4, o5 + 4, none⟩) fun b6 o7 => ∃ x, cell? h ⟨b6, o7, none⟩ = some (.bool x) ∧ K x :=
  ⟨r, 0, rfl, r, 0, rfl, r, 0 + 4, rfl, ng, Own.cell O _, k⟩
theorem Flt.ma {K : Option Addr → Nat → Nat → Prop} (O : Flt h r pr ac fo ng p n c ex) (k : K p n c) :
    isP (some ⟨r, 0, none⟩) fun b2 o3 => isP (some ⟨b2, o3, none⟩) fun b4 o5 => isP (some ⟨b4, o5 + 5, none⟩) fun b6 o7 => ∃ x xn xc, cell? h ⟨b6, o7, none⟩ = some (.slice x xn xc) ∧ K x xn xc :=
  ⟨r, 0, rfl, r, 0, rfl, r, 0 + 5, rfl, p, n, c, Own.cell O _, k⟩
theorem Flt.lex {K : Int → Prop} (O : Flt h r pr ac fo ng p n c ex) (k : K ex) :
    isP (some ⟨r, 0, none⟩) fun b2 o3 => isP (some ⟨b2, o3, none⟩) fun b4 o5 => isP (some ⟨b4, o5 + 6, none⟩) fun b6 o7 => ∃ x, cell? h ⟨b6, o7, none⟩ = some (.int .i32 x) ∧ K x :=
  ⟨r, 0, rfl, r, 0, rfl, r, 0 + 6, rfl, ex, Own.cell O _, k⟩
theorem Flt.sp0 {K : Heap → Prop} {pr' : Int} (O : Flt h r pr ac fo ng p n c ex) (k : ∀ h', Flt h' r pr' ac fo ng p n c ex → Fr (fun x => x = r) h h' → K h') :
    isP (some ⟨r, 0, none⟩) fun b2 o3 => isP (some ⟨b2, o3, none⟩) fun b4 o5 => isP (some ⟨b4, o5, none⟩) fun b6 o7 => stC h b6 o7 (.int .u32 pr') K :=
  ⟨r, 0, rfl, r, 0, rfl, r, 0, rfl, Own.stC O (by simp) rfl fun a b => k _ a b⟩
theorem Flt.sac {K : Heap → Prop} {ac' : Int} (O : Flt h r pr ac fo ng p n c ex) (k : ∀ h', Flt h' r pr ac' fo ng p n c ex → Fr (fun x => x = r) h h' → K h') :
    isP (some ⟨r, 0, none⟩) fun b2 o3 => isP (some ⟨b2, o3, none⟩) fun b4 o5 => isP (some ⟨b4, o5 + 2, none⟩) fun b6 o7 => stC h b6 o7 (.int .i8 ac') K :=
  ⟨r, 0, rfl, r, 0, rfl, r, 0 + 2, rfl, Own.stC O (by simp) rfl fun a b => k _ a b⟩
theorem Flt.sfo {K : Heap → Prop} {fo' : Int} (O : Flt h r pr ac fo ng p n c ex) (k : ∀ h', Flt h' r pr ac fo' ng p n c ex → Fr (fun x => x = r) h h' → K h') :
    isP (some ⟨r, 0, none⟩) fun b2 o3 => isP (some ⟨b2, o3, none⟩) fun b4 o5 => isP (some ⟨b4, o5 + 3, none⟩) fun b6 o7 => stC h b6 o7 (.int .u8 fo') K :=
  ⟨r, 0, rfl, r, 0, rfl, r, 0 + 3, rfl, Own.stC O (by simp) rfl fun a b => k _ a b⟩
theorem Flt.sng {K : Heap → Prop} {ng' : Bool} (O : Flt h r pr ac fo ng p n c ex) (k : ∀ h', Flt h' r pr ac fo ng' p n c ex → Fr (fun x => x = r) h h' → K h') :
    isP (some ⟨r, 0, none⟩) fun b2 o3 => isP (some ⟨b2, o3, none⟩) fun b4 o5 => isP (some ⟨b4, o5 + 4, none⟩) fun b6 o7 => stC h b6 o7 (.bool ng') K :=
  ⟨r, 0, rfl, r, 0, rfl, r, 0 + 4, rfl, Own.stC O (by simp) rfl fun a b => k _ a b⟩
theorem Flt.sma {K : Heap → Prop} {p' : Option Addr} {n' c' : Nat} (O : Flt h r pr ac fo ng p n c ex) (k : ∀ h', Flt h' r pr ac fo ng p' n' c' ex → Fr (fun x => x = r) h h' → K h') :
    isP (some ⟨r, 0, none⟩) fun b2 o3 => isP (some ⟨b2, o3, none⟩) fun b4 o5 => isP (some ⟨b4, o5 + 5, none⟩) fun b6 o7 => stC h b6 o7 (.slice p' n' c') K :=
  ⟨r, 0, rfl, r, 0, rfl, r, 0 + 5, rfl, Own.stC O (by simp) rfl fun a b => k _ a b⟩
theorem Flt.sex {K : Heap → Prop} {ex' : Int} (O : Flt h r pr ac fo ng p n c ex) (k : ∀ h', Flt h' r pr ac fo ng p n c ex' → Fr (fun x => x = r) h h' → K h') :
    isP (some ⟨r, 0, none⟩) fun b2 o3 => isP (some ⟨b2, o3, none⟩) fun b4 o5 => isP (some ⟨b4, o5 + 6, none⟩) fun b6 o7 => stC h b6 o7 (.int .i32 ex') K :=
  ⟨r, 0, rfl, r, 0, rfl, r, 0 + 6, rfl, Own.stC O (by simp) rfl fun a b => k _ a b⟩
end
/-- A mantissa: n words in the block q, room for c. -/
structure Mn (h : Heap) (q o n c : Nat) (ws : List Nat) : Prop where
  own : ∃ cs, Own h q cs ∧ o + c ≤ cs.size ∧ ∀ i (hi : i < ws.length), cs[o + i]? = some (.int .u64 (ws[i] : Int))
  len : ws.length = n
  le : n ≤ c
  lim : c < 1099511627776
  dig : Dig 18446744073709551616 ws
theorem Mn.sl {h : Heap} {q o n c : Nat} {ws : List Nat} (M : Mn h q o n c ws) : Sl .u64 h (some ⟨q, o, none⟩) ws := by
  obtain ⟨cs, h1, _, h3⟩ := M.own
  exact .inr ⟨q, o, cs, rfl, h1, h3⟩
theorem Mn.fr {h h' : Heap} {q o n c : Nat} {ws : List Nat} {S : Nat → Prop} (M : Mn h q o n c ws) (f : Fr S h h') (hq : ¬ S q) : Mn h' q o n c ws :=
  ⟨let ⟨cs, a, b⟩ := M.own; ⟨cs, a.fr f hq, b⟩, M.len, M.le, M.lim, M.dig⟩
theorem Mn.lt {h : Heap} {q o n c : Nat} {ws : List Nat} (M : Mn h q o n c ws) : q < h.size := let ⟨_, a, _⟩ := M.own; a.lt
theorem Mn.pt {q o : Nat} : Pt (some ⟨q, o, none⟩) := pt_some
/-- All words written anew. -/
theorem Mn.wrote {h h' : Heap} {q o n c : Nat} {ws zs : List Nat} (M : Mn h q o n c ws) (W : Wrote .u64 h h' q o zs) (hl : zs.length = n) (d : Dig 18446744073709551616 zs) : Mn h' q o n c zs := by
  obtain ⟨cs, a, b, _⟩ := M.own
  obtain ⟨cs', w1, w2, _, w4⟩ := W.own a
  exact ⟨⟨cs', w1, by omega, w4⟩, hl, M.le, M.lim, d⟩
theorem val_top {b : Nat} : ∀ {ws : List Nat} (hw : ws ≠ []), val b ws = val b ws.dropLast + b ^ (ws.length - 1) * ws.getLast hw := by
  intro ws hw
  conv => lhs; rw [← List.dropLast_concat_getLast hw]
  rw [val_snoc, List.length_dropLast]
end Go.Eng
namespace Go.Proofs
open Go Go.Eng
variable {B : World} {R : Ending → Heap → Prop} {h : Heap}
/-- makeAcc. -/
def accI (b : Bool) : Int := if b then 1 else -1
theorem K1109 {b : Bool} (H : R (.returned (.int .i8 (accI b))) h) : Ent Tryz.prog B 155 #[.bool b] R h := by
  refine F1109_ok _ ⟨fun e => ?_, fun e => ?_⟩ <;> (subst e; exact H)
/-- bits.LeadingZeros. -/
theorem K1127 {x : Nat} (hx : x < B64) (H : R (.returned (.int .i64 ((64 - bl x : Nat) : Int))) h) : Ent Tryz.prog B 174 #[.int .u64 (x : Int)] R h := by
  have hb : bl x ≤ 64 := bl_le_iff.2 hx
  refine F1127_ok _ (K205 hx ⟨_, rfl, ?_⟩)
  rw [bitLen_bl x hx, i64_in (by omega) (by omega), show (64 : Int) - (bl x : Int) = ((64 - bl x : Nat) : Int) by omega]
  exact H
/-- nlz. -/
theorem K1108 {x : Nat} (hx : x < B64) (H : R (.returned (.int .u64 ((64 - bl x : Nat) : Int))) h) : Ent Tryz.prog B 153 #[.int .u64 (x : Int)] R h := by
  refine F1108_ok _ (K1127 hx ⟨_, rfl, ?_⟩)
  rw [wrap_u64_in (by omega) (by omega)]
  exact H
/-- msb64: the highest word. -/
theorem K1099 {q o n c : Nat} {ws : List Nat} (M : Mn h q o n c ws) (h0 : 0 < n) (H : R (.returned (.int .u64 ((ws.getD (n - 1) 0 : Nat) : Int))) h) : Ent Tryz.prog B 128 #[.slice (some ⟨q, o, none⟩) n c] R h := by
  have hl := M.len
  have hc := M.lim
  have hle := M.le
  have e1 : IntKind.i64.wrap ((n : Int) - 1) = ((n - 1 : Nat) : Int) := by rw [i64_in (by omega) (by omega)]; omega
  refine F1099_ok _ _ _ ⟨fun e => ?_, fun _ => ⟨fun e => (by cases e), fun _ => ?_⟩⟩
  · rw [e1] at e; have := of_decide_eq_true e; omega
  rw [e1]
  refine ⟨fun e => (by cases e), fun _ => ⟨fun e => (by cases e), fun _ => ⟨fun _ => ?_, fun e => (by cases e)⟩⟩⟩
  refine M.sl.get (n - 1) rfl (by omega) (by omega) ?_
  rw [List.getD_eq_getElem?_getD, List.getElem?_eq_getElem (by omega)] at H
  exact H
theorem val_div_pow {ws : List Nat} (d : Dig B64 ws) {j : Nat} (hj : j < ws.length) : val B64 ws / B64 ^ j = ws[j] + B64 * val B64 (ws.drop (j + 1)) := by
  have h1 := val_split B64 ws (i := j) (by omega)
  have h2 : val B64 (ws.take j) < B64 ^ j := by
    have := val_lt (d.take j)
    rwa [List.length_take, Nat.min_eq_left (by omega)] at this
  rw [h1, Nat.add_mul_div_left _ _ (Nat.pow_pos (by decide)), Nat.div_eq_of_lt h2, Nat.zero_add, val_drop B64 ws hj]
/-- nat.bit. -/
theorem K1128 {p : Option Addr} {n c i : Nat} {ws : List Nat} (hs : Sl .u64 h p ws) (hl : ws.length = n) (d : Dig B64 ws) (hn : n < 1099511627776) (hi : i < 64 * n) (H : R (.returned (.int .u64 ((val B64 ws / 2 ^ i % 2 : Nat) : Int))) h) :
    Ent Tryz.prog B 175 #[.slice p n c, .int .u64 (i : Int)] R h := by
  have hB : B64 = 18446744073709551616 := rfl
  have e1 : IntKind.u64.wrap (Int.tdiv (i : Int) (64 : Int)) = ((i / 64 : Nat) : Int) := by rw [td64, wrap_u64_in (by omega) (by omega)]
  have e2 : IntKind.u64.wrap (n : Int) = (n : Int) := wrap_u64_in (by omega) (by omega)
  refine F1128_ok _ _ _ _ ⟨by decide, ?_⟩
  rw [e1, e2]
  refine ⟨fun e => ?_, fun _ => ?_⟩
  · have := of_decide_eq_true e; omega
  refine hs.get (i / 64) rfl (by omega) (by omega) ⟨by decide, ?_⟩
  rw [tm64]
  refine ⟨by omega, ?_⟩
  have hw : ws[i / 64]'(by omega) < B64 := d.get (by omega)
  rw [fdiv_pow (by omega)]
  have e3 : bitsI .and .u64 ((ws[i / 64]'(by omega) / 2 ^ (i % 64) : Nat) : Int) (1 : Int) = ((ws[i / 64]'(by omega) / 2 ^ (i % 64) % 2 : Nat) : Int) := by
    have := bitsI_and (a := ws[i / 64]'(by omega) / 2 ^ (i % 64)) (b := 1) (Nat.lt_of_le_of_lt (Nat.div_le_self _ _) hw)
    rw [show ((1 : Nat) : Int) = 1 from rfl] at this
    rw [this, Nat.mod_eq_of_lt (by decide : 1 < 18446744073709551616), Nat.and_one_is_mod]
  rw [e3]
  have e4 : val B64 ws / 2 ^ i % 2 = ws[i / 64]'(by omega) / 2 ^ (i % 64) % 2 := by
    rw [pow_s i, ← Nat.div_div_eq_div_mul, val_div_pow d (show i / 64 < ws.length by omega)]
    obtain ⟨k, hk⟩ : ∃ k, 64 = i % 64 + 1 + k := ⟨63 - i % 64, by omega⟩
    have h64 : B64 = 2 ^ (i % 64) * (2 * 2 ^ k) := by
      rw [show B64 = 2 ^ 64 from rfl, show (2 : Nat) * 2 ^ k = 2 ^ (1 + k) by rw [Nat.pow_add], ← Nat.pow_add]; congr 1; omega
    rw [h64, Nat.mul_assoc, Nat.add_mul_div_left _ _ (Nat.pow_pos (by decide)), Nat.mul_assoc, Nat.add_mul_mod_self_left]
  rw [← e4]; exact H
end Go.Proofs
set_option linter.unusedVariables false
namespace Go.Proofs
open Go Go.Eng
variable {B : World} {R : Ending → Heap → Prop} {h : Heap}
theorem val_mod_pow {ws : List Nat} (d : Dig B64 ws) {i : Nat} (hi : i / 64 < ws.length) : val B64 ws % 2 ^ i = val B64 (ws.take (i / 64)) + B64 ^ (i / 64) * (ws[i / 64] % 2 ^ (i % 64)) := by
  have h2 : val B64 (ws.take (i / 64)) < B64 ^ (i / 64) := by
    have := val_lt (d.take (i / 64))
    rwa [List.length_take, Nat.min_eq_left (by omega)] at this
  obtain ⟨k, hk⟩ : ∃ k, 64 = i % 64 + k := ⟨64 - i % 64, by omega⟩
  have h64 : B64 = 2 ^ (i % 64) * 2 ^ k := by rw [show B64 = 2 ^ 64 from rfl, ← Nat.pow_add]; congr 1
  have h1 := val_split B64 ws (i := i / 64) (by omega)
  rw [val_drop B64 ws hi] at h1
  rw [pow_s i, Nat.mod_mul, h1, Nat.add_mul_mod_self_left, Nat.mod_eq_of_lt h2, Nat.add_mul_div_left _ _ (Nat.pow_pos (by decide)), Nat.div_eq_of_lt h2, Nat.zero_add]
  congr 2
  conv => lhs; rw [show B64 * val B64 (ws.drop (i / 64 + 1)) = 2 ^ (i % 64) * (2 ^ k * val B64 (ws.drop (i / 64 + 1))) by rw [← Nat.mul_assoc, ← h64]]
  rw [Nat.add_mul_mod_self_left]
theorem val_zero_get {b : Nat} (hb : 0 < b) : ∀ {ws : List Nat}, (∀ i (hi : i < ws.length), ws[i] = 0) → val b ws = 0
  | [], _ => rfl
  | w :: ws, H => by
    have h0 := H 0 (by simp)
    rw [val, val_zero_get hb (ws := ws) fun i hi => by have := H (i + 1) (by simp; omega); simpa using this]
    simpa using h0
theorem val_ge_get {b : Nat} (hb : 0 < b) : ∀ {ws : List Nat} {i : Nat} (hi : i < ws.length), ws[i] ≠ 0 → val b ws ≠ 0
  | [], _, hi, _ => absurd hi (by simp)
  | w :: ws, 0, _, H => by simp at H; rw [val]; omega
  | w :: ws, i + 1, hi, H => by
    have := val_ge_get hb (ws := ws) (i := i) (by simpa using hi) (by simpa using H)
    rw [val]
    have : 0 < b * val b ws := Nat.mul_pos hb (by omega)
    omega
def StkI (h : Heap) (p : Option Addr) (n c i j : Nat) (ws : List Nat) (k : Nat) (vs : List Value) (h' : Heap) : Prop :=
  match vs with
  | [.slice p1 n1 c1, .int _ i1, .int _ j1, .slice p2 n2 c2, .int _ l, .int _ x] => p = p1 ∧ n = n1 ∧ c = c1 ∧ i1 = (i : Int) ∧ j1 = (j : Int) ∧ p = p2 ∧ n2 = j ∧ l = (j : Int) ∧ h = h' ∧ k ≤ j ∧ x = ((j - k : Nat) : Int) ∧ ∀ a (ha : a < ws.length), a < j - k → ws[a] = 0
  | _ => False
/-- nat.sticky: is any bit below the place i other than 0? -/
theorem K1097 {q o n c i : Nat} {ws : List Nat} (M : Mn h q o n c ws) (hi : i < 64 * n) (H : R (.returned (.int .u64 (if val B64 ws % 2 ^ i = 0 then (0 : Int) else 1))) h) :
    Ent Tryz.prog B 126 #[.slice (some ⟨q, o, none⟩) n c, .int .u64 (i : Int)] R h := by
  have hB : B64 = 18446744073709551616 := rfl
  have hl := M.len
  have hle := M.le
  have hlim := M.lim
  have d : Dig B64 ws := M.dig
  have e1 : IntKind.u64.wrap (Int.tdiv (i : Int) (64 : Int)) = ((i / 64 : Nat) : Int) := by rw [td64, wrap_u64_in (by omega) (by omega)]
  have e2 : IntKind.u64.wrap (n : Int) = (n : Int) := wrap_u64_in (by omega) (by omega)
  have hj : i / 64 < ws.length := by omega
  have hmod := val_mod_pow d hj
  refine F1097_ok _ _ _ _ ⟨by decide, ?_⟩
  rw [e1, e2]
  refine ⟨fun e => ?_, fun _ => ?_⟩
  · have := of_decide_eq_true e; omega
  refine sl_to rfl (by omega) ?_
  refine ⟨StkI h (some ⟨q, o, none⟩) n c i (i / 64) ws, i / 64, ⟨rfl, rfl, rfl, rfl, rfl, (slP0 pt_some _).symm, by omega, by omega, rfl, Nat.le_refl _, by omega, fun a ha hk => by omega⟩, ?_⟩
  rintro k h' _ _ _ _ _ _ _ _ _ _ ⟨rfl, rfl, rfl, rfl, rfl, rfl, rfl, rfl, rfl, hk, rfl, hz⟩ _
  refine ⟨fun e => ?_, fun e => ?_⟩
  · have hlt : i / 64 - k < i / 64 := by have := of_decide_eq_true e; omega
    have hw := d.get (i := i / 64 - k) (by omega)
    by_cases h0 : ws[i / 64 - k]'(by omega) = 0
    · refine ⟨q, o, rfl, by omega, by omega, q, _, rfl, (ws[i / 64 - k]'(by omega) : Int), ?_, ⟨fun e => ?_, fun _ => ⟨k - 1, by omega, rfl, rfl, rfl, rfl, rfl, rfl, rfl, rfl, rfl, by omega, ?_, fun a ha hk' => ?_⟩⟩⟩
      · obtain ⟨cs, c1, c2, c3⟩ := M.own
        exact (c1.cell _).trans (by rw [Int.toNat_natCast, Nat.mul_one, c3 _ (by omega)])
      · rw [h0] at e; simp at e
      · rw [i64_in (by omega) (by omega)]; omega
      · by_cases hak : a < i / 64 - k
        · exact hz a ha hak
        · have : a = i / 64 - k := by omega
          subst this; exact h0
    · refine ⟨q, o, rfl, by omega, by omega, q, _, rfl, (ws[i / 64 - k]'(by omega) : Int), ?_, ⟨fun _ => ?_, fun e => ?_⟩⟩
      · obtain ⟨cs, c1, c2, c3⟩ := M.own
        exact (c1.cell _).trans (by rw [Int.toNat_natCast, Nat.mul_one, c3 _ (by omega)])
      · have hne : val B64 ws % 2 ^ i ≠ 0 := by
          rw [hmod]
          have : val B64 (ws.take (i / 64)) ≠ 0 := val_ge_get (by decide) (i := i / 64 - k) (by rw [List.length_take]; omega) (by rw [List.getElem_take]; exact h0)
          omega
        rw [if_neg hne] at H
        exact H
      · simp at e; omega
  · have hk0 : i / 64 - k = i / 64 := by have := of_decide_eq_false e; omega
    rw [hk0] at hz
    have hz0 : val B64 (ws.take (i / 64)) = 0 := val_zero_get (by decide) fun a ha => by
      rw [List.length_take] at ha
      rw [List.getElem_take]; exact hz a (by omega) (by omega)
    rw [hz0, Nat.zero_add] at hmod
    have hw := d.get (i := i / 64) hj
    refine M.sl.get (i / 64) rfl (by omega) (by omega) ⟨by decide, ?_⟩
    have e3 : IntKind.u64.wrap ((64 : Int) - Int.tmod (i : Int) (64 : Int)) = ((64 - i % 64 : Nat) : Int) := by rw [tm64, wrap_u64_in (by omega) (by omega)]; omega
    rw [e3]
    refine ⟨by omega, ?_⟩
    have e4 : IntKind.u64.wrap ((ws[i / 64] : Int) * 2 ^ min (Int.toNat ((64 - i % 64 : Nat) : Int)) IntKind.u64.bits) = (((ws[i / 64] % 2 ^ (i % 64)) * 2 ^ (64 - i % 64) : Nat) : Int) := by
      rw [Int.toNat_natCast, show IntKind.u64.bits = 64 from rfl, Nat.min_eq_left (by omega)]
      have : ((ws[i / 64] : Int) * 2 ^ (64 - i % 64)) = ((ws[i / 64] * 2 ^ (64 - i % 64) : Nat) : Int) := by
        rw [Int.natCast_mul, Int.natCast_pow]; rfl
      rw [this, wrap_u64_nat]
      congr 1
      have h64 : (18446744073709551616 : Nat) = 2 ^ (i % 64) * 2 ^ (64 - i % 64) := by
        rw [← Nat.pow_add, show i % 64 + (64 - i % 64) = 64 by omega]
      rw [h64, Nat.mul_mod_mul_right]
    rw [e4]
    have hp : 0 < 2 ^ (64 - i % 64) := Nat.pow_pos (by decide)
    have hpB : 0 < B64 ^ (i / 64) := Nat.pow_pos (by decide)
    refine ⟨fun e => ?_, fun e => ?_⟩
    · have hne : ws[i / 64] % 2 ^ (i % 64) ≠ 0 := fun h0 => by rw [h0] at e; simp at e
      have : val B64 ws % 2 ^ i ≠ 0 := by
        rw [hmod]
        have := Nat.mul_pos hpB (show 0 < ws[i / 64] % 2 ^ (i % 64) by omega)
        omega
      rw [if_neg this] at H
      exact H
    · have h0 : ws[i / 64] % 2 ^ (i % 64) = 0 := by
        have e5 : ((ws[i / 64] % 2 ^ (i % 64)) * 2 ^ (64 - i % 64) : Nat) = 0 := by
          have := e; simp only [Bool.not_eq_false', decide_eq_true_eq] at this
          exact Int.natCast_eq_zero.1 this
        rcases Nat.mul_eq_zero.1 e5 with h | h
        · exact h
        · omega
      have : val B64 ws % 2 ^ i = 0 := by rw [hmod, h0]; simp
      rw [if_pos this] at H
      exact H
end Go.Proofs
set_option linter.unusedVariables false
namespace Go.Eng
open Go
/-- A mantissa with its highest bit set. -/
def Top (n V : Nat) : Prop := 2 ^ (64 * n - 1) ≤ V ∧ V < 2 ^ (64 * n)
theorem top_pos {n V : Nat} (h : Top n V) : 0 < n ∧ 0 < V := by
  obtain ⟨h1, h2⟩ := h
  have : 0 < 2 ^ (64 * n - 1) := Nat.pow_pos (by decide)
  refine ⟨?_, by omega⟩
  rcases Nat.eq_zero_or_pos n with h | h
  · subst h; simp at h1 h2; omega
  · exact h
theorem top_log {n V : Nat} (h : Top n V) : V.log2 = 64 * n - 1 := by
  obtain ⟨a, b⟩ := top_pos h
  exact (Nat.log2_eq_iff (by omega)).2 ⟨h.1, by rw [show 64 * n - 1 + 1 = 64 * n by omega]; exact h.2⟩
theorem bl_val {ws : List Nat} (d : Dig 18446744073709551616 ws) (hw : ws ≠ []) (ht : ws.getLast hw ≠ 0) : bl (val 18446744073709551616 ws) = 64 * (ws.length - 1) + bl (ws.getLast hw) := by
  rw [val_top hw]
  have h1 : val 18446744073709551616 ws.dropLast < 18446744073709551616 ^ (ws.length - 1) := by
    have := val_lt (b := 18446744073709551616) (x := ws.dropLast) (fun w hw' => d w (List.dropLast_subset _ hw'))
    rwa [List.length_dropLast] at this
  have e : (18446744073709551616 : Nat) ^ (ws.length - 1) = 2 ^ (64 * (ws.length - 1)) := by
    rw [show (18446744073709551616 : Nat) = 2 ^ 64 from by decide, ← Nat.pow_mul]
  rw [e] at h1 ⊢
  exact bl_top h1 ht
theorem norm_top {V n : Nat} (h0 : V ≠ 0) (hb : bl V ≤ 64 * n) : Top n (V * 2 ^ (64 * n - bl V)) := by
  have h1 := bl_le h0
  have h2 := bl_lt V
  have hp := bl_pos h0
  constructor
  · have := Nat.mul_le_mul_right (2 ^ (64 * n - bl V)) h1
    rw [← Nat.pow_add, show bl V - 1 + (64 * n - bl V) = 64 * n - 1 by omega] at this
    exact this
  · have := Nat.mul_lt_mul_of_pos_right h2 (show 0 < 2 ^ (64 * n - bl V) from Nat.pow_pos (by decide))
    rw [← Nat.pow_add, show bl V + (64 * n - bl V) = 64 * n by omega] at this
    exact this
end Go.Eng
namespace Go.Proofs
open Go Go.Eng
variable {B : World} {R : Ending → Heap → Prop} {h : Heap}
/-- fnorm: the highest bit is brought up. -/
theorem K1093 {q o n c V : Nat} {ws : List Nat} (M : Mn h q o n c ws) (h0 : 0 < n) (ht : ws.getD (n - 1) 0 ≠ 0) (hV : val B64 ws = V)
    (H : ∀ zs h', Mn h' q o n c zs → Fr (fun x => x = q) h h' → val B64 zs = V * 2 ^ (64 * n - bl V) → R (.returned (.int .i64 ((64 * n - bl V : Nat) : Int))) h') :
    Ent Tryz.prog B 122 #[.slice (some ⟨q, o, none⟩) n c] R h := by
  have hB : B64 = 18446744073709551616 := rfl
  have hl := M.len
  have hle := M.le
  have hlim := M.lim
  have d : Dig B64 ws := M.dig
  have hw : ws ≠ [] := fun e => by rw [e] at hl; simp at hl; omega
  have hlast : ws.getLast hw = ws.getD (n - 1) 0 := by
    rw [List.getD_eq_getElem?_getD, List.getElem?_eq_getElem (by omega), Option.getD_some, List.getLast_eq_getElem]
    congr 1; omega
  have hbl : bl V = 64 * (n - 1) + bl (ws.getD (n - 1) 0) := by
    rw [← hV, ← hlast, ← hl]; exact bl_val d hw (by rw [hlast]; exact ht)
  have htop : ws.getD (n - 1) 0 < B64 := by
    rw [← hlast]; exact d _ (List.getLast_mem hw)
  have hb64 : bl (ws.getD (n - 1) 0) ≤ 64 := bl_le_iff.2 htop
  have hs : 64 - bl (ws.getD (n - 1) 0) = 64 * n - bl V := by omega
  have hV0 : V ≠ 0 := by
    intro e
    rw [e] at hbl
    have := bl_pos ht
    have h00 : bl 0 = 0 := rfl
    omega
  have e1 : IntKind.i64.wrap ((n : Int) - 1) = ((n - 1 : Nat) : Int) := by rw [i64_in (by omega) (by omega)]; omega
  refine F1093_ok _ _ _ ⟨fun e => (by cases e), fun _ => ⟨fun e => (by cases e), fun _ => ?_⟩⟩
  unfold F1093_j3
  rw [e1]
  refine M.sl.get (n - 1) rfl (by omega) (by omega) ?_
  have hg : ws[n - 1]'(by omega) = ws.getD (n - 1) 0 := by
    rw [List.getD_eq_getElem?_getD, List.getElem?_eq_getElem (by omega), Option.getD_some]
  rw [hg]
  refine K1108 htop ⟨_, rfl, ?_⟩
  rw [hs]
  have e2 : IntKind.i64.wrap ((64 * n - bl V : Nat) : Int) = ((64 * n - bl V : Nat) : Int) := i64_in (by omega) (by omega)
  have fin : ∀ zs h', Mn h' q o n c zs → Fr (fun x => x = q) h h' → val B64 zs = V * 2 ^ (64 * n - bl V) → F1093_j8 B R ((64 * n - bl V : Nat) : Int) h' := by
    intro zs h' m f hv
    unfold F1093_j8
    rw [e2]
    exact H zs h' m f hv
  refine ⟨fun e => ?_, fun e => ?_⟩
  · obtain ⟨cs, c1, c2, c3⟩ := M.own
    refine E206 (K140 rfl c1 (by omega) M.sl pt_some hl (by omega) d (fun b o' e => by cases e; exact .inr (Nat.le_refl _)) (by have := bl_pos ht; omega) fun zs cc h' W lz dz hc hv => ⟨_, rfl, fun e => (by cases e), fun _ => ⟨fun e => (by cases e), fun _ => ?_⟩⟩)
    have hlt : V * 2 ^ (64 * n - bl V) < B64 ^ n := by
      have := (norm_top hV0 (n := n) (by omega)).2
      rwa [pow64]
    have hc0 : cc = 0 := by
      rw [hV] at hv
      rcases Nat.eq_zero_or_pos cc with h | h
      · exact h
      · have : B64 ^ n * 1 ≤ B64 ^ n * cc := Nat.mul_le_mul_left _ h
        omega
    subst hc0
    exact fin zs h' (M.wrote W lz dz) W.fr (by rw [hV] at hv; simpa using hv)
  · have hs0 : 64 * n - bl V = 0 := by have := of_decide_eq_false e; omega
    refine fin ws h M Fr.rfl' ?_
    rw [hs0]; simpa using hV
end Go.Proofs
set_option linter.unusedVariables false
namespace Go.Eng
open Go
theorem nat_andNot {x k : Nat} (hx : x < 2 ^ 64) (hk : k ≤ 64) : x &&& (2 ^ 64 - 1 - (2 ^ k - 1)) = x / 2 ^ k * 2 ^ k := by
  apply Nat.eq_of_testBit_eq
  intro i
  have h1 : 2 ^ 64 - 1 - (2 ^ k - 1) = 2 ^ 64 - ((2 ^ k - 1) + 1) := by omega
  have hlt : 2 ^ k - 1 < 2 ^ 64 := Nat.lt_of_lt_of_le (Nat.sub_lt (Nat.pow_pos (by decide)) (by decide)) (Nat.pow_le_pow_right (by decide) hk)
  rw [Nat.testBit_and, h1, Nat.testBit_two_pow_sub_succ hlt, Nat.testBit_two_pow_sub_one, Nat.testBit_mul_two_pow, Nat.testBit_div_two_pow]
  by_cases hi : i < 64
  · by_cases hik : i < k
    · have : ¬ k ≤ i := by omega
      simp [hi, hik, this]
    · have h2 : k ≤ i := by omega
      simp [hi, hik, h2]
  · have h2 : x.testBit i = false := Nat.testBit_lt_two_pow (Nat.lt_of_lt_of_le hx (Nat.pow_le_pow_right (by decide) (by omega)))
    have h3 : k ≤ i := by omega
    simp [hi, h2, h3]
theorem bitsI_andNot {x k : Nat} (hx : x < 18446744073709551616) (hk : k < 64) : bitsI .andNot .u64 (x : Int) ((2 ^ k - 1 : Nat) : Int) = ((x / 2 ^ k * 2 ^ k : Nat) : Int) := by
  have h1 : bitsI .andNot .u64 (x : Int) ((2 ^ k - 1 : Nat) : Int) = IntKind.u64.wrap (((BitVec.ofInt 64 (x : Int) &&& ~~~(BitVec.ofInt 64 ((2 ^ k - 1 : Nat) : Int))).toNat : Nat) : Int) := rfl
  have hlt : 2 ^ k - 1 < 2 ^ 64 := Nat.lt_of_lt_of_le (Nat.sub_lt (Nat.pow_pos (by decide)) (by decide)) (Nat.pow_le_pow_right (by decide) (by omega))
  rw [h1, ofInt_nat, ofInt_nat, BitVec.toNat_and, BitVec.toNat_not, BitVec.toNat_ofNat, BitVec.toNat_ofNat, Nat.mod_eq_of_lt (by omega : x < 2 ^ 64), Nat.mod_eq_of_lt hlt, nat_andNot (by omega) (by omega), wrap_u64_nat]
  congr 1
  have := Nat.div_mul_le_self x (2 ^ k)
  omega
theorem and_bit {x k : Nat} (hx : x < 18446744073709551616) (hk : k < 64) : (bitsI .and .u64 (x : Int) ((2 ^ k : Nat) : Int) = 0) ↔ x / 2 ^ k % 2 = 0 := by
  have hlt : 2 ^ k < 18446744073709551616 := Nat.pow_lt_pow_right (by decide) (show k < 64 from hk)
  rw [bitsI_and hx, Nat.mod_eq_of_lt hlt]
  have hb : x.testBit k = decide (x / 2 ^ k % 2 = 1) := Nat.testBit_eq_decide_div_mod_eq
  have key : (x &&& 2 ^ k) = 0 ↔ x / 2 ^ k % 2 = 0 := by
    constructor
    · intro h0
      have := congrArg (fun y => Nat.testBit y k) h0
      simp only [Nat.testBit_and, Nat.testBit_two_pow_self, Bool.and_true, Nat.zero_testBit, hb, decide_eq_false_iff_not] at this
      omega
    · intro h0
      apply Nat.eq_of_testBit_eq
      intro i
      rw [Nat.testBit_and, Nat.testBit_two_pow, Nat.zero_testBit]
      by_cases hik : k = i
      · subst hik
        rw [hb, decide_eq_false (by omega)]; rfl
      · simp [hik]
  omega
theorem or_01 {a b : Nat} (ha : a ≤ 1) (hb : b ≤ 1) : (bitsI .or .u64 (a : Int) (b : Int) = 0) ↔ (a = 0 ∧ b = 0) := by
  rw [bitsI_or (by omega) (by omega)]
  rcases (by omega : a = 0 ∨ a = 1) with rfl | rfl <;> rcases (by omega : b = 0 ∨ b = 1) with rfl | rfl <;> decide
theorem lsb_wrap {k : Nat} (hk : k < 64) : IntKind.u64.wrap ((1 : Int) * 2 ^ min (Int.toNat (k : Int)) IntKind.u64.bits) = ((2 ^ k : Nat) : Int) := by
  have := shl_pow (x := 1) (s := k) hk
  have hlt : 2 ^ k < 18446744073709551616 := Nat.pow_lt_pow_right (by decide) (show k < 64 from hk)
  rw [Nat.one_mul, Nat.mod_eq_of_lt hlt] at this
  exact this
theorem lsb_sub {k : Nat} (hk : k < 64) : IntKind.u64.wrap (((2 ^ k : Nat) : Int) - 1) = ((2 ^ k - 1 : Nat) : Int) := by
  have hp : 0 < 2 ^ k := Nat.pow_pos (by decide)
  have hlt : 2 ^ k < 18446744073709551616 := Nat.pow_lt_pow_right (by decide) (show k < 64 from hk)
  rw [wrap_u64_in (by omega) (by omega)]
  omega
end Go.Eng
namespace Go.Proofs
open Go Go.Eng
variable {B : World} {R : Ending → Heap → Prop} {h : Heap}
/-- addVW of one word, where it is. -/
theorem K203s {q o c t y : Nat} (M : Mn h q o 1 c [t]) (hy : y < B64)
    (H : ∀ h', Mn h' q o 1 c [(t + y) % B64] → Fr (fun x => x = q) h h' → R (.returned (.int .u64 (((t + y) / B64 : Nat) : Int))) h') :
    Ent Tryz.prog B 168 #[.slice (some ⟨q, o, none⟩) 1 c, .slice (some ⟨q, o, none⟩) 1 c, .int .u64 (y : Int)] R h := by
  have hB : B64 = 18446744073709551616 := rfl
  obtain ⟨cs, c1, c2, c3⟩ := M.own
  have hle := M.le
  have ht : t < B64 := M.dig t (by simp)
  refine F203_ok _ _ _ _ _ _ _ ⟨fun e => by simp at e, fun _ => ⟨fun e => by simp at e, fun _ => ?_⟩⟩
  refine M.sl.get 0 rfl (by simp) (by simp) (K204 (by decide) ⟨_, _, rfl, ?_⟩)
  simp only [List.getElem_cons_zero, Nat.add_zero]
  have hz : (t + y) % B64 < B64 := Nat.mod_lt _ (by decide)
  refine Wrote.put (zs := []) (Wrote.nil c1) c1 ((t + y) % B64) rfl rfl (by decide) (by omega) fun W => ?_
  have M2 : Mn _ q o 1 c [(t + y) % B64] := M.wrote W rfl (fun w hw => by simp at hw; subst hw; exact hz)
  have hfin := H _ M2 W.fr
  refine ⟨fun e => ?_, fun e => ?_⟩
  · have h0 : (t + y) / B64 = 0 := by have := of_decide_eq_true e; exact Int.natCast_eq_zero.1 this
    rw [h0] at hfin
    refine ⟨q, o, rfl, by omega, by omega, q, o, rfl, by omega, by omega, .inr (.inr ⟨_, _, _, _, rfl, rfl, .inl ⟨rfl, ?_⟩⟩)⟩
    simp only [Int.toNat_zero, Nat.zero_mul, Nat.add_zero, decide_true, Bool.not_true]
    exact ⟨fun e => (by cases e), fun _ => hfin⟩
  · have h1 : (t + y) / B64 = 1 := by
      have a1 : (t + y) / B64 ≠ 0 := fun e0 => (of_decide_eq_false e) (by
        show (((t + y + 0) / B64 : Nat) : Int) = 0
        rw [Nat.add_zero, e0]; rfl)
      have a2 : (t + y) / B64 < 2 := by rw [Nat.div_lt_iff_lt_mul (by decide)]; omega
      exact Nat.le_antisymm (Nat.le_of_lt_succ a2) (Nat.pos_of_ne_zero a1)
    rw [h1] at hfin
    refine ⟨fun k vs h' => match vs with
      | [.slice p n cc, .slice p' n' c', .int _ i] => n = 1 ∧ i = 1 ∧ R (.returned (.int .u64 (1 : Int))) h'
      | _ => False, 0, ⟨rfl, rfl, hfin⟩, ?_⟩
    rintro k h' _ _ _ _ _ _ _ ⟨rfl, rfl, hf⟩ _
    exact ⟨fun e => by simp at e, fun _ => hf⟩
end Go.Proofs
