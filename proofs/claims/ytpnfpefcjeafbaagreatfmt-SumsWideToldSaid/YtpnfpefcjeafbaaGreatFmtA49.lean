import Derived.Test.YtpnfpefcjeafbaaGreatFmtA47
import Derived.Test.YtpnfpefcjeafbaaGreatFmtA48
/- Here stand lemmas and contracts, in the order in which they are used. -/
set_option linter.unusedVariables false
set_option linter.unusedVariables false
/-! sums.Sum32 of any finite binary32; plumblaw5.SumsWide. -/
namespace Go.Proofs
open Go Go.Eng
variable {B : World} {R : Ending → Heap → Prop} {h : Heap}
/-- bits.classed: below 3 just where the exponent's field is not full. -/
theorem K53g {a b c : Int} (H : ∀ r : Int, (r < 3 ↔ a ≠ c) → R (.returned (.int .i64 r)) h) : Ent Tryz.prog B 44 #[.int .i64 a, .int .i64 b, .int .i64 c] R h := by
  refine F53_ok _ _ _ ⟨fun e => ?_, fun e => ?_⟩
  · have e1 := of_decide_eq_true e
    have h3 : F53_j14 B R (3 : Int) h := H 3 ⟨fun x => absurd x (by decide), fun x => absurd e1 x⟩
    have h4 : F53_j11 B R (4 : Int) h := H 4 ⟨fun x => absurd x (by decide), fun x => absurd e1 x⟩
    exact ⟨fun _ => h4, fun _ => ⟨fun _ => h3, fun x => absurd e1 (of_decide_eq_false x)⟩⟩
  · have e1 := of_decide_eq_false e
    have hr : ∀ r : Int, r < 3 → R (.returned (.int .i64 r)) h := fun r hr => H r ⟨fun _ => e1, fun _ => hr⟩
    have h0 := hr 0 (by decide)
    have h1 := hr 1 (by decide)
    have h2 := hr 2 (by decide)
    have j17 : ∀ x, F53_j17 B R a (2 : Int) x h := fun x => ⟨fun _ => h0, fun _ => ⟨fun _ => h1, fun _ => h2⟩⟩
    exact ⟨fun x => (by cases x), fun _ => ⟨fun x => absurd (of_decide_eq_true x) e1, fun _ => ⟨fun _ => j17 _, fun _ => j17 _⟩⟩⟩
theorem W32_of {w : Nat} (hw : w < 4294967296) : w = W32 (decide (2147483648 ≤ w)) (w % 2147483648) := by
  unfold W32
  by_cases h : 2147483648 ≤ w
  · rw [decide_eq_true h, if_pos rfl]; omega
  · rw [decide_eq_false h, if_neg (by decide)]; omega
/-- Is it the pattern of a finite binary32? -/
def Fin32 (y : Int) : Prop := 0 ≤ y ∧ y < 4294967296 ∧ y % 2147483648 < 2139095040
theorem Fin32.w {y : Int} (h : Fin32 y) : ∃ ng k, y = (W32 ng k : Int) ∧ k < 2139095040 ∧ y.toNat = W32 ng k := by
  obtain ⟨h1, h2, h3⟩ := h
  have := W32_of (w := y.toNat) (by omega)
  exact ⟨_, _, by omega, by omega, this⟩
/-- bits.Class32, of a pattern. -/
theorem K1388 {w : Nat} (hw : w < 4294967296) (H : ∀ r : Int, (r < 3 ↔ w % 2147483648 < 2139095040) → R (.returned (.int .i64 r)) h) : Ent Tryz.prog B 19 #[.int .i64 (w : Int)] R h := by
  have e1 : IntKind.u32.wrap (w : Int) = (w : Int) := wrap_u32_in (by omega) (by omega)
  refine F1388_ok _ (F1330_ok _ ⟨_, rfl, fun e => ?_, fun _ => ⟨by decide, ?_⟩⟩)
  · rw [e1, i64_in (by omega) (by omega), decide_eq_true rfl] at e; cases e
  refine K53g fun r hr => ⟨_, rfl, H r ?_⟩
  rw [hr]
  have e0 : Int.fdiv (w : Int) (2 ^ min (Int.toNat (23 : Int)) IntKind.i64.bits) = ((w / 8388608 : Nat) : Int) := by
    have : min (Int.toNat (23 : Int)) IntKind.i64.bits = 23 := by decide
    rw [this, Int.fdiv_eq_ediv_of_nonneg _ (by decide)]; rfl
  have e2 := and_i64 (x := ((w / 8388608 : Nat) : Int)) (m := 255) (by decide)
  rw [show ((255 : Nat) : Int) = 255 from rfl] at e2
  have e3 : (((w / 8388608 : Nat) : Int) % 18446744073709551616).toNat &&& 255 = (((w / 8388608 : Nat) : Int) % 18446744073709551616).toNat % 2 ^ 8 := Nat.and_two_pow_sub_one_eq_mod _ 8
  rw [e0, e2, e3]
  omega
/-- The binary64 of a binary32's pattern. -/
def widP (y : Int) : Int := sg (widW y.toNat)
theorem widP_ok {y : Int} (hy : Fin32 y) : isFin (widP y) = true ∧ I64 (widP y) ∧ wd (widP y) = widW y.toNat ∧ WI (widW y.toNat) (widP y) := by
  obtain ⟨ng, k, _, hk, e⟩ := hy.w
  obtain ⟨r, r1, r2, r3⟩ := wid_word (ng := ng) (show k ≤ 2139095040 by omega)
  have hr := r2 hk
  have hw : wordN ng r < 18446744073709551616 := by unfold wordN; cases ng <;> simp <;> omega
  unfold widP
  rw [e, r3]
  have hp : sg (wordN ng r) = pat ng r := wordN_sg (by omega)
  have hf : isFin (pat ng r) = true := by
    unfold isFin
    rw [pat_fE ng (by omega)]
    exact decide_eq_true (by omega)
  rw [hp]
  refine ⟨hf, pat_I64 (by omega), ?_, hw, ?_⟩
  · rw [← hp, wd_sg hw]
  · rw [hp, fin_nrm hf]
/-- sums.wide. -/
theorem K1374 {y : Int} (hy : Fin32 y) (H : R (.returned (.float .f64 (wd (widP y)))) h) : Ent Tryz.prog B 46 #[.int .i64 y] R h := by
  obtain ⟨_, _, w3, _⟩ := widP_ok hy
  obtain ⟨ng, k, e, hk, e2⟩ := hy.w
  rw [w3, e2] at H
  rw [e]
  exact F1374_ok _ (K1326g (W32_lt (by omega)) ⟨_, rfl, cv32g (by omega) H⟩)
/-- round.Widen. -/
theorem K1329 {y : Int} (hy : Fin32 y) (H : R (.returned (.int .i64 (widP y))) h) : Ent Tryz.prog B 20 #[.int .i64 y] R h := by
  obtain ⟨_, _, _, w4⟩ := widP_ok hy
  obtain ⟨ng, k, e, hk, e2⟩ := hy.w
  rw [e2] at w4
  rw [e] at w4 H ⊢
  exact F1329_ok _ (K1326g (W32_lt (by omega)) ⟨_, rfl, cv32g (by omega) (K56 w4 ⟨_, rfl, H⟩)⟩)
/-- m times 2^e is the one form of v in units of 2^-K. -/
def CanOf (K : Nat) (v m e : Int) : Prop := (v = 0 ∧ m = 0 ∧ e = 0) ∨ (m.natAbs % 2 = 1 ∧ 0 ≤ e + (K : Int) ∧ v = m * ((2 ^ (e + (K : Int)).toNat : Nat) : Int))
theorem num_can {K : Nat} {neg : Bool} {p : Option Addr} {n : Nat} {e v : Int} (N : NumS K h neg p n e v) : ∃ ds, NumI h neg p n e ds ∧ CanOf K v (if neg then -(val B30 ds : Int) else (val B30 ds : Int)) e := by
  obtain ⟨M, N1, N2, N3⟩ := N
  refine ⟨_, N1, ?_⟩
  have hval := digs_val (b := B30) (by decide) M
  rcases Nat.eq_zero_or_pos n with a | a
  · left
    have hd : digs B30 M = [] := List.eq_nil_of_length_eq_zero (by rw [N1.d.len, a])
    have hM : M = 0 := by rw [← hval, hd]; rfl
    obtain ⟨z1, z2⟩ := N1.zero a
    rw [hval, hM, z1]
    refine ⟨?_, rfl, z2⟩
    rw [N3, hM, z1]
    simp [Ieee.signed]
  · right
    have ho := (N1.pos a).1
    rw [hval] at ho ⊢
    refine ⟨?_, N2, ?_⟩
    · cases neg <;> simp <;> omega
    · rw [N3, signed_nat]
      cases neg
      · simp only [Bool.false_eq_true, if_false, Int.natCast_mul]
      · simp only [if_true, Int.natCast_mul, Int.neg_mul]
theorem odd_mul {a b s t : Nat} (ha : a % 2 = 1) (hb : b % 2 = 1) (h : a * 2 ^ s = b * 2 ^ t) : a = b ∧ s = t := by
  have key : ∀ {a b s t : Nat}, a % 2 = 1 → a * 2 ^ s = b * 2 ^ t → t ≤ s := fun {a b s t} ha h => by
    rcases Nat.lt_or_ge s t with c | c
    · exfalso
      have h1 : 2 ^ t = 2 ^ (t - s) * 2 ^ s := by rw [← Nat.pow_add]; congr 1; omega
      rw [h1, ← Nat.mul_assoc] at h
      have h2 := Nat.eq_of_mul_eq_mul_right (Nat.pow_pos (by decide)) h
      obtain ⟨k, hk⟩ := Nat.exists_eq_succ_of_ne_zero (show t - s ≠ 0 by omega)
      rw [hk, Nat.pow_succ, ← Nat.mul_assoc] at h2
      omega
    · exact c
  have h1 := key ha h
  have h2 := key hb h.symm
  have e : s = t := by omega
  subst e
  exact ⟨Nat.eq_of_mul_eq_mul_right (Nat.pow_pos (by decide)) h, rfl⟩
theorem can_uniq {K d : Nat} {v m e m' e' : Int} (h1 : CanOf K v m e) (h2 : CanOf (K + d) (v * ((2 ^ d : Nat) : Int)) m' e') : m = m' ∧ e = e' := by
  have pd : 0 < 2 ^ d := Nat.pow_pos (by decide)
  rcases h1 with ⟨a1, a2, a3⟩ | ⟨a1, a2, a3⟩
  · rcases h2 with ⟨b1, b2, b3⟩ | ⟨b1, b2, b3⟩
    · omega
    · exfalso
      rw [a1, Int.zero_mul] at b3
      have pp : 0 < 2 ^ (e' + ((K + d : Nat) : Int)).toNat := Nat.pow_pos (by decide)
      rcases Int.mul_eq_zero.1 b3.symm with x | x
      · rw [x] at b1; cases b1
      · omega
  · rcases h2 with ⟨b1, b2, b3⟩ | ⟨b1, b2, b3⟩
    · exfalso
      have pp : 0 < 2 ^ (e + (K : Int)).toNat := Nat.pow_pos (by decide)
      rcases Int.mul_eq_zero.1 b1 with x | x
      · rw [a3] at x
        rcases Int.mul_eq_zero.1 x with y | y
        · rw [y] at a1; cases a1
        · omega
      · omega
    · rw [a3, Int.mul_assoc, ← Int.natCast_mul, ← Nat.pow_add] at b3
      have hab := congrArg Int.natAbs b3
      rw [Int.natAbs_mul, Int.natAbs_mul, Int.natAbs_natCast, Int.natAbs_natCast] at hab
      obtain ⟨c1, c2⟩ := odd_mul a1 b1 hab
      have he : e = e' := by omega
      refine ⟨?_, he⟩
      rw [c2] at b3
      have pp : 0 < 2 ^ (e' + ((K + d : Nat) : Int)).toNat := Nat.pow_pos (by decide)
      exact Int.eq_of_mul_eq_mul_right (by omega) b3
theorem can_ex (K : Nat) (v : Int) : ∃ m e, CanOf K v m e := by
  by_cases h0 : v = 0
  · exact ⟨0, 0, .inl ⟨h0, rfl, rfl⟩⟩
  have key : ∀ n : Nat, 0 < n → ∃ a t : Nat, n = a * 2 ^ t ∧ a % 2 = 1 := by
    intro n
    induction n using Nat.strongRecOn with
    | _ n ih =>
    intro hn
    by_cases ho : n % 2 = 1
    · exact ⟨n, 0, by rw [Nat.pow_zero, Nat.mul_one], ho⟩
    · obtain ⟨a, t, e, h⟩ := ih (n / 2) (by omega) (by omega)
      refine ⟨a, t + 1, ?_, h⟩
      rw [Nat.pow_succ, ← Nat.mul_assoc, ← e]; omega
  obtain ⟨a, t, e, ha⟩ := key v.natAbs (by omega)
  refine ⟨if v < 0 then -(a : Int) else a, (t : Int) - (K : Int), .inr ⟨?_, by omega, ?_⟩⟩
  · split <;> omega
  · rw [show ((t : Int) - (K : Int) + (K : Int)).toNat = t by omega]
    have : ((a * 2 ^ t : Nat) : Int) = (a : Int) * ((2 ^ t : Nat) : Int) := Int.natCast_mul _ _
    by_cases hv : v < 0
    · rw [if_pos hv, Int.neg_mul, ← this, ← e]; omega
    · rw [if_neg hv, ← this, ← e]; omega
/-- round.To32, by the one form. -/
theorem K1375s {K : Nat} {neg : Bool} {p : Option Addr} {n c : Nat} {e v w m' e' : Int} (N : NumS K h neg p n e v) (hc : ∀ m e, CanOf K v m e → m = m' ∧ e = e') (h0 : 0 ≤ w) (h4 : w < 4)
    (H : ∀ h' b, Ext h h' → R (.returned (.tuple #[.int .i64 (pz32 (to32R w.toNat m' e').1), .bool b, .int .i64 (0 : Int)])) h') :
    Ent Tryz.prog B 22 #[.agg #[.bool neg, .slice p n c, .int .i64 e], .int .i64 w] R h := by
  obtain ⟨ds, N1, C⟩ := num_can N
  obtain ⟨a, b⟩ := hc _ _ C
  refine K1375 N1 h0 h4 fun h' f => ?_
  rw [a, b]
  exact H h' _ f
/-- sums.Sum32, of finite binary32. -/
theorem K1367 {p : Option Addr} {n c : Nat} {l : List Int} {w m e : Int} (ht : TabH h) (I : IntsH h p l) (hn : l.length = n) (hl : n ≤ 4096) (hf : ∀ x ∈ l, Fin32 x) (h0 : 0 ≤ w) (h4 : w < 4) (hc : CanOf 1074 (sV (l.map widP)) m e)
    (H : ∀ h', Ext h h' → R (.returned (.tuple #[.int .i64 (pz32 (to32R w.toNat m e).1), .int .i64 (0 : Int)])) h') : Ent Tryz.prog B 21 #[.slice p n c, .int .i64 w] R h := by
  refine F1367_ok _ _ _ _ (alK fun e h1 e1 f1 o1 z1 => K1364 o1 h0 h4 hl ⟨_, rfl, fun e => absurd e (by decide), fun _ => ?_⟩)
  refine K1366 (φ := widP) (I.ext f1) hn (by omega) (fun x h' hx k => K1374 (hf x hx) k) fun e2 h2 f2 l2 A => ⟨_, _, _, rfl, ?_⟩
  refine K1365 (v := pz32 (to32R w.toNat m _).1) ((ht.fr f1 id).fr f2 id) A (by rw [List.length_map]; exact hn) hl (fun x hx => ?_) (fun {R' h' ng p n c e} E N k => ?_) fun h3 f3 => ⟨_, _, rfl, H h3 (Ext.trans (Ext.trans f1 f2) f3)⟩
  · obtain ⟨y, hy, rfl⟩ := List.mem_map.1 hx
    obtain ⟨a, b, _⟩ := widP_ok (hf y hy)
    exact ⟨b, a⟩
  · refine K1375s N (fun m2 e2 C2 => ?_) h0 h4 fun h'' b f => k h'' b f
    obtain ⟨u, hu⟩ : ∃ u, u = 1074 := ⟨_, rfl⟩
    rw [uw_pow hu, show (2148 : Nat) = 1074 + u by omega] at C2
    obtain ⟨a, b⟩ := can_uniq hc C2
    exact ⟨a.symm, b.symm⟩
theorem Lj.lt {g : Heap} {p : Option Addr} {n c : Nat} {ws : List Int} (L : Lj g h p n c ws) (hc : 0 < c) : ∀ b o, p = some ⟨b, o, none⟩ → b < h.size := by
  intro b o e
  rcases L.room with k | ⟨b', o', cs, e1, e2, _⟩
  · omega
  · rw [e] at e1; cases e1; exact e2.lt
theorem Lj.fr {g h' : Heap} {p : Option Addr} {n c : Nat} {ws : List Int} {S : Nat → Prop} (L : Lj g h p n c ws) (f : Fr S h h') (hS : 0 < c → ∀ b o, p = some ⟨b, o, none⟩ → ¬ S b) : Lj g h' p n c ws := by
  have hl := L.len
  have hle := L.le
  refine ⟨?_, L.len, ?_, L.le, L.pt, L.fresh, L.all⟩
  · rcases L.sl with k | ⟨b, o, cs, a1, a2, a3⟩
    · exact .inl k
    · rcases Nat.eq_zero_or_pos c with z | z
      · exact .inl (List.eq_nil_of_length_eq_zero (by omega))
      · exact .inr ⟨b, o, cs, a1, a2.fr f (hS z b o a1), a3⟩
  · rcases L.room with k | ⟨b, o, cs, a1, a2, a3⟩
    · exact .inl k
    · rcases Nat.eq_zero_or_pos c with z | z
      · exact .inl z
      · exact .inr ⟨b, o, cs, a1, a2.fr f (hS z b o a1), a3⟩
/-- A number appended: where it is, or into a new block. -/
theorem apL1 {g : Heap} {p : Option Addr} {n c r e : Nat} {x : Int} {ws : List Int} {K : Option Addr → Nat → Nat → Heap → Prop} (L : Lj g h p n c ws) (hg : g.size ≤ h.size) (hn : n ≤ 1000000000) (hx : Own h r #[.int .i64 x]) (ix : I64 x)
    (hk : ∀ q c' h', Lj g h' q (n + 1) c' (ws ++ [x]) → 0 < c' → ((q = p ∧ 0 < c ∧ Fr (fun y => ∃ o, p = some ⟨y, o, none⟩) h h') ∨ (q = some ⟨h.size, 0, none⟩ ∧ Ext h h')) → K q (n + 1) c' h') :
    apW h p n c (some ⟨r, 0, none⟩) 1 1 8 e #[.int .i64 0] K := by
  have LW : Lw 1 g h p n c (ws.map fun y => Value.int .i64 y) := by
    refine ⟨?_, by rw [List.length_map, L.len, Nat.mul_one], ?_, L.le, L.pt⟩
    · rcases L.sl with k | ⟨b, o, cs, a1, a2, a3⟩
      · left; rw [k]; rfl
      · refine .inr ⟨b, o, cs, a1, a2, fun i hi => ?_⟩
        rw [List.length_map] at hi
        rw [a3 i hi, List.getElem_map]
    · rcases L.room with k | ⟨b, o, cs, a1, a2, a3, a4⟩
      · exact .inl k
      · exact .inr ⟨b, o, cs, a1, a2, by omega, a4⟩
  refine apRow (xs := [.int .i64 x]) (by decide) rfl (by decide) (by decide) LW hg hn hx rfl (fun v hv => by rw [List.mem_singleton.1 hv]; rfl) fun q c' h' L6 hq => ?_
  have h1 := L6.le
  have hl := L.len
  have hm : (ws.map (fun y => Value.int .i64 y) ++ [Value.int .i64 x]) = (ws ++ [x]).map fun y => Value.int .i64 y := by rw [List.map_append]; rfl
  rw [hm] at L6
  rcases L6.room with k | ⟨b, o, cs, a1, a2, a3, a4⟩
  · omega
  refine hk q c' h' ⟨?_, by rw [List.length_append]; simp [hl], .inr ⟨b, o, cs, a1, a2, by omega, a4⟩, h1, L6.pt, fun b' o' e' => by rw [a1] at e'; cases e'; exact a4, fun y hy => ?_⟩ (by omega) hq
  · rcases L6.sl with k | ⟨b', o', cs', b1, b2, b3⟩
    · have := congrArg List.length k
      simp at this
    · refine .inr ⟨b', o', cs', b1, b2, fun i hi => ?_⟩
      rw [b3 i (by rw [List.length_map]; exact hi), List.getElem_map]
  · rcases List.mem_append.1 hy with hy | hy
    · exact L.all y hy
    · rw [List.mem_singleton.1 hy]; exact ix
/-- plumblaw5.SumsWide. -/
theorem K1381 {p : Option Addr} {n c : Nat} {l : List Int} {way : Int} (ht : TabH h) (I : IntsH h p l) (hn : l.length = n) (hm : n < 9223372036854775808) (H : ∀ h', Ext h h' → R (.returned (.bool true)) h') :
    Ent Tryz.prog B 5 #[.slice p n c, .int .i64 way] R h := by
  obtain ⟨w, hw, w0, w4⟩ := way_in way
  refine F1381_ok _ _ _ _ ?_
  unfold F1381
  rw [hw]
  obtain ⟨A, hA⟩ : ∃ A : Lp, A = fun m vs h' => match vs with
    | [.slice p1 n1 c1, .int _ ww, .slice p2 n2 c2, .slice p3 n3 c3, .int _ i] => p = p1 ∧ n = n1 ∧ c = c1 ∧ w = ww ∧ ∃ (j : Nat) (ws : List Int), i = (j : Int) ∧ j ≤ n ∧ j ≤ 200 ∧ m = 200 - j ∧ Ext h h' ∧ Lj h h' p2 n2 c2 ws ∧ Lj h h' p3 n3 c3 (ws.map widP) ∧ (0 < c2 → 0 < c3 → ∀ b o o', p2 = some ⟨b, o, none⟩ → p3 ≠ some ⟨b, o', none⟩) ∧ n2 ≤ j ∧ ∀ x ∈ ws, Fin32 x
    | _ => False := ⟨_, rfl⟩
  refine ⟨A, 200, by rw [hA]; exact ⟨rfl, rfl, rfl, rfl, 0, [], rfl, by omega, by omega, rfl, Fr.rfl', Lj.nil, Lj.nil, (fun e => absurd e (by decide)), by omega, fun x hx => (by cases hx)⟩, ?_⟩
  intro m h' q1 k1 d1 ww p2 n2 c2 p3 n3 c3 i hI _
  rw [hA] at hI
  obtain ⟨rfl, rfl, rfl, rfl, j, ws, rfl, hj, hj2, rfl, E, L2, L3, hap, hn2, hf⟩ := hI
  have ll2 := L2.len
  have ll3 := L3.len
  rw [List.length_map] at ll3
  have fin : Ent Tryz.prog B 21 #[.slice p2 n2 c2, .int .i64 w] (retE (fun e3 f3 => ∃ g3 i3, e3 = .tuple #[.int .i64 g3, .int .i64 i3] ∧
      Ent Tryz.prog B 23 #[.slice p3 n3 c3] (retE (fun j3 k3 => ∃ l3 m3 n3 o3 p3, j3 = .agg #[.bool l3, .slice m3 n3 o3, .int .i64 p3] ∧
      Ent Tryz.prog B 22 #[.agg #[.bool l3, .slice m3 n3 o3, .int .i64 p3], .int .i64 w] (retE (fun q3 r3 => ∃ s3 t3 u3, q3 = .tuple #[.int .i64 s3, .bool t3, .int .i64 u3] ∧
      Ent Tryz.prog B 8 #[] (retE (fun v3 w3 => ∃ x3, v3 = .bool x3 ∧
      (x3 = true → F1381_j77 B R g3 s3 (decide (i3 = (0 : Int))) w3) ∧
      (x3 = false → F1381_j77 B R g3 s3 false w3)) (pk R)) r3) (pk R)) k3) (pk R)) f3) (pk R)) h' := by
    obtain ⟨m, e, hc⟩ := can_ex 1074 (sV (ws.map widP))
    have hff : ∀ x ∈ ws.map widP, isFin x = true := fun x hx => by
      obtain ⟨y, hy, rfl⟩ := List.mem_map.1 hx
      exact (widP_ok (hf y hy)).1
    refine K1367 (ht.fr E id) L2.ints ll2 (by omega) hf w0 w4 hc fun h2 f2 => ⟨_, _, rfl, ?_⟩
    have E2 := Ext.trans E f2
    refine K1362 (ht.fr E2 id) (L3.ext f2).ints L3.len (by omega) hff fun ng q k c' e' h3 f3 N => ⟨_, _, _, _, _, rfl, ?_⟩
    refine K1375s (m' := m) (e' := e) N (fun m2 e2 C2 => ?_) w0 w4 fun h4 b f4 => ⟨_, _, _, rfl, ?_⟩
    · have C3 : CanOf (1074 + 0) (sV (ws.map widP) * ((2 ^ 0 : Nat) : Int)) m2 e2 := by
        rw [show ((2 ^ 0 : Nat) : Int) = 1 from rfl, Int.mul_one]; exact C2
      obtain ⟨a, b⟩ := can_uniq hc C3
      exact ⟨a.symm, b.symm⟩
    have E4 := Ext.trans (Ext.trans E2 f3) f4
    refine K1361 (ht.fr E4 id) fun h5 f5 => ⟨_, rfl, fun _ => ⟨fun _ => ?_, fun e => absurd e (by decide)⟩, fun e => (by cases e)⟩
    show R (.returned (.bool (decide _))) h5
    rw [decide_eq_true rfl]
    exact H h5 (Ext.trans E4 f5)
  refine ⟨fun e => ⟨fun e2 => ?_, fun _ => fin⟩, fun e => ⟨fun x => (by cases x), fun _ => fin⟩⟩
  have hjl : j < l.length := by have := of_decide_eq_true e; omega
  have hj3 : j < 200 := by have := of_decide_eq_true e2; omega
  have nx : IntKind.i64.wrap ((j : Int) + (1 : Int)) = ((j + 1 : Nat) : Int) := by rw [i64_in (by omega) (by omega)]; rfl
  have eand := and_i64 (x := l[j]) (m := 4294967295) (by decide)
  have e32 : (l[j] % 18446744073709551616).toNat &&& 4294967295 = (l[j] % 18446744073709551616).toNat % 2 ^ 32 := Nat.and_two_pow_sub_one_eq_mod _ 32
  rw [e32, show (2 : Nat) ^ 32 = 4294967296 by decide, show ((4294967295 : Nat) : Int) = 4294967295 from rfl] at eand
  have hx32 : (l[j] % 18446744073709551616).toNat % 4294967296 < 4294967296 := Nat.mod_lt _ (by decide)
  refine (I.ext E).get hn hjl ?_
  rw [eand]
  generalize (l[j] % 18446744073709551616).toNat % 4294967296 = x at *
  refine K1388 hx32 fun r hr => ⟨_, rfl, fun e3 => ?_, fun e3 => ?_⟩
  · have hk := hr.1 (of_decide_eq_true e3)
    have F32 : Fin32 (x : Int) := ⟨by omega, by omega, by omega⟩
    obtain ⟨v1, v2, _, _⟩ := widP_ok F32
    refine alK fun r1 g1 e1 f1 o1 z1 => ?_
    have E1 := Ext.trans E f1
    have s1 := E1.size
    refine apL1 (L2.ext f1) (by omega) (by omega) o1 (by unfold I64; omega) fun p4 c4 g2 L4 z4 hq4 => ?_
    have hE2 : Ext h g2 := by
      rcases hq4 with ⟨_, _, f⟩ | ⟨_, f⟩
      · exact Fr.trans (S := fun _ => False) E1 f fun x hx ⟨o, ho⟩ => by have := L2.fresh x o ho; omega
      · exact Ext.trans E1 f
    have L3' : Lj h g2 p3 n3 c3 (ws.map widP) := by
      rcases hq4 with ⟨_, hc, f⟩ | ⟨_, f⟩
      · exact Lj.fr (L3.ext f1) f fun hc3 b o hb ⟨o', ho'⟩ => hap hc hc3 b o' o ho' hb
      · exact (L3.ext f1).ext f
    have hap' : 0 < c3 → ∀ b o o', p4 = some ⟨b, o, none⟩ → p3 ≠ some ⟨b, o', none⟩ := fun hc3 b o o' e4 e5 => by
      rcases hq4 with ⟨q, hc, f⟩ | ⟨q, f⟩
      · rw [q] at e4
        exact hap hc hc3 b o o' e4 e5
      · have := Lj.lt (L3.ext f1) hc3 b o' e5
        rw [q] at e4; cases e4; omega
    refine K1329 F32 ⟨_, rfl, alK fun r2 g3 e5 f5 o5 z5 => ?_⟩
    have E3 := Ext.trans hE2 f5
    have s3 := E3.size
    refine apL1 (L3'.ext f5) (by omega) (by omega) o5 v2 fun p5 c5 g4 L5 z5' hq5 => ?_
    refine ⟨200 - (j + 1), by omega, ?_⟩
    rw [hA]
    have emap : (ws ++ [(x : Int)]).map widP = ws.map widP ++ [widP (x : Int)] := by rw [List.map_append]; rfl
    refine ⟨rfl, rfl, rfl, rfl, j + 1, ws ++ [(x : Int)], nx, by omega, by omega, rfl, ?_, ?_, by rw [emap]; exact L5, fun _ _ b o o' e4 e5 => ?_, by omega, fun y hy => ?_⟩
    · rcases hq5 with ⟨_, _, f⟩ | ⟨_, f⟩
      · exact Fr.trans (S := fun _ => False) E3 f fun x hx ⟨o, ho⟩ => by have := L3.fresh x o ho; omega
      · exact Ext.trans E3 f
    · rcases hq5 with ⟨_, hc, f⟩ | ⟨_, f⟩
      · exact Lj.fr (L4.ext f5) f fun hc4 b o hb ⟨o', ho'⟩ => hap' hc b o o' hb ho'
      · exact (L4.ext f5).ext f
    · rcases hq5 with ⟨q, hc, f⟩ | ⟨q, f⟩
      · rw [q] at e5
        exact hap' hc b o o' e4 e5
      · have := Lj.lt (L4.ext f5) z4 b o e4
        rw [q] at e5; cases e5; omega
    · rcases List.mem_append.1 hy with hy | hy
      · exact hf y hy
      · rw [List.mem_singleton.1 hy]; exact F32
  · refine ⟨200 - (j + 1), by omega, ?_⟩
    rw [hA]
    exact ⟨rfl, rfl, rfl, rfl, j + 1, ws, nx, by omega, by omega, rfl, E, L2, L3, hap, by omega, hf⟩
end Go.Proofs
