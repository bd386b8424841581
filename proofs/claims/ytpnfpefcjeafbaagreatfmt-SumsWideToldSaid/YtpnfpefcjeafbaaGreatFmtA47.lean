import Derived.Test.YtpnfpefcjeafbaaGreatFmtA45
import Derived.Test.YtpnfpefcjeafbaaGreatFmtA46
/- Here stand lemmas and contracts, in the order in which they are used. -/
set_option linter.unusedVariables false
set_option linter.unusedVariables false
/-! round.rounded by any function; sums.Sum32, sums.Left; plumblaw5.alive. -/
namespace Go.Proofs
open Go Go.Eng
variable {B : World} {R : Ending → Heap → Prop} {h : Heap}
def RndG (f : Nat) (lost w : Int) (b p1 u : Nat) (wv : Value) (e M : Int) (h v0 : Heap) (m : Nat) (l : List Value) (h' : Heap) : Prop :=
  match l with
  | [i, j, .int _ k, .pointer d, .slice a an ac, .slice s sn sc, .int _ nn, .int _ ii] =>
    i = .func (.func 49) #[] #[] ∧ j = .func (.func f) #[] #[] ∧ k = lost ∧ d = some (⟨p1, 0, none⟩ : Addr) ∧ a = some (⟨u, 0, none⟩ : Addr) ∧ an = 1 ∧ s = some (⟨b, 0, none⟩ : Addr) ∧ sn = 1 ∧ nn = 1 ∧
    ((ii = 0 ∧ m = 1 ∧ h' = v0) ∨ (ii = 1 ∧ m = 0 ∧ Ext h h' ∧ ∃ r q, Own h' u #[.pointer (some ⟨r, 0, none⟩), .int .i64 e, .bool false] ∧ IntAt h' r q M ∧ Own h' p1 #[wv] ∧ WayV h' w.toNat wv))
  | _ => False
/-- round.rounded, of one number as it is, by any function that tells its float. -/
theorem K1055g {f : Nat} {lost : Int} {b c : Nat} {neg : Bool} {p : Option Addr} {n cc : Nat} {e w V : Int} {X : Bool} {ds : List Nat} (Ob : Own h b #[.bool neg, .slice p n cc, .int .i64 e]) (N : NumI h neg p n e ds) (h0 : 0 ≤ w) (h4 : w < 4)
    (Hto : ∀ {R' : Ending → Heap → Prop} {h' : Heap} {r q : Nat} {wv : Value}, Ext h h' → WayV h' w.toNat wv → oneCell wv = true → IntAt h' r q (if neg then -(val B30 ds : Int) else (val B30 ds : Int)) → (∀ h'', Ext h' h'' → R' (.returned (.tuple #[.int .i64 V, .bool X])) h'') →
      Ent Tryz.prog B f #[.agg #[.pointer (some ⟨r, 0, none⟩), .int .i64 e, .bool false], .agg #[wv]] R' h')
    (H : ∀ h', Ext h h' → R (.returned (.tuple #[.int .i64 (if V = lost then 0 else V), .bool X, .int .i64 (0 : Int)])) h') :
    Ent Tryz.prog B 48 #[.int .i64 w, .slice (some ⟨b, 0, none⟩) 1 c, .func (.func 49) #[] #[], .func (.func f) #[] #[], .int .i64 lost] R h := by
  generalize hM : (if neg then -(val B30 ds : Int) else (val B30 ds : Int)) = M at *
  refine F1055_ok _ _ _ _ _ _ _ (K1076 h0 h4 fun wv h1 f1 W1 hone => ⟨_, _, rfl, alK fun r2 h2 e2 f2 o2 z2 => ⟨r2, 0, rfl, o2.stC (by simp) hone fun oa fa => ?_⟩⟩)
  generalize setCell h2 _ _ = h3 at *
  have oa : Own h3 r2 #[wv] := oa
  have F3 : Ext h h3 := Fr.trans (Ext.trans f1 f2) fa fun x hx e => by have := f1.size; omega
  have W3 : WayV h3 w.toNat wv := W1.ext (Fr.trans f2 fa fun x hx e => by omega)
  refine ⟨fun e => (by cases e), fun _ => ⟨by decide, by decide, by decide, by decide, alK fun r4 h5 e4 f4 o4 z4 => ?_⟩⟩
  have o4 : Own h5 r4 #[.pointer none, .int .i64 0, .bool false] := by rw [mk3] at o4; exact o4
  have F5 := Ext.trans F3 f4
  have oa5 := oa.ext f4
  have W5 := W3.ext f4
  have Ob5 := Ob.ext F5
  have lb := Ob.lt
  have s3 := F3.size
  have lp := oa.lt
  refine ⟨RndG f lost w b r2 r4 wv e M h h5, 1, ⟨rfl, rfl, rfl, rfl, rfl, rfl, rfl, rfl, rfl, .inl ⟨rfl, rfl, rfl⟩⟩, ?_⟩
  rintro m g _ _ _ _ _ _ _ _ _ _ _ _ ⟨rfl, rfl, rfl, rfl, rfl, rfl, rfl, rfl, rfl, hc⟩ _
  rcases hc with ⟨rfl, rfl, rfl⟩ | ⟨rfl, rfl, Fg, r, q, Og, Ig, Op, Wg⟩
  · refine ⟨fun _ => ⟨b, 0, rfl, by decide, by decide, b, _, rfl, _, Ob5.cell _, _, _, _, Ob5.cell _, _, Ob5.cell _, ?_⟩, fun e => by simp at e⟩
    refine alK fun r6 h7 e6 f6 o6 z6 => ⟨r6, 0, rfl, o6.stC (by simp) rfl fun oq fq => oq.stC (by simp) rfl fun or fr => or.stC (by simp) rfl fun os fs => ?_⟩
    have fqs := Fr.trans (S := fun x => x = r6) (Fr.trans (S := fun x => x = r6) fq fr fun _ _ e => e) fs fun _ _ e => e
    generalize setCell (setCell (setCell h7 _ _) _ _) _ _ = h8 at *
    have os : Own h8 r6 #[.bool neg, .slice p n cc, .int .i64 e] := os
    have E8 : Ext g h8 := Fr.trans f6 fqs fun x hx e => by omega
    have N8 := (N.ext F5).ext E8
    refine ⟨r6, 0, rfl, _, os.cell _, _, _, _, os.cell _, _, os.cell _, K129 N8 fun h9 f9 => ⟨_, rfl, fun e => (by cases e), fun _ => ?_⟩⟩
    have os9 := os.ext f9
    have E9 := Ext.trans E8 f9
    refine ⟨r6, 0, rfl, _, os9.cell _, _, _, _, os9.cell _, _, os9.cell _, K1077 (N8.ext f9).d (by have := N.le; omega) fun r q h10 f10 lr lq I10 => ⟨_, _, _, rfl, ?_⟩⟩
    rw [hM] at I10
    have E10 := Ext.trans E9 f10
    refine ⟨r4, 0, rfl, by decide, by decide, r4, _, rfl, (o4.ext E10).stC (by simp) rfl fun ox fx => ox.stC (by simp) rfl fun oy fy => oy.stC (by simp) rfl fun oz fz => ?_⟩
    have fxz := Fr.trans (S := fun x => x = r4) (Fr.trans (S := fun x => x = r4) fx fy fun _ _ e => e) fz fun _ _ e => e
    have l4 := o4.lt
    have s9 := E9.size
    have E11 : Ext h _ := Fr.trans (Ext.trans F5 E10) fxz fun x hx e => by omega
    refine ⟨0, by omega, rfl, rfl, rfl, rfl, rfl, rfl, rfl, rfl, rfl, .inr ⟨rfl, rfl, E11, r, q, oz, I10.fr fxz (by omega) (by omega), (oa5.ext E10).fr fxz (by omega), ?_⟩⟩
    exact W3.ext (Fr.trans (Ext.trans f4 E10) fxz fun x hx e => by omega)
  · refine ⟨fun e => by simp at e, fun _ => ev0 (K1056 Og fun h2 f2 => ⟨_, _, _, _, rfl, ?_⟩)⟩
    refine alK fun r6 h7 e6 f6 o6 z6 => ⟨r6, 0, rfl, o6.stC (by simp) rfl fun oq fq => oq.stC (by simp) rfl fun or fr => or.stC (by simp) rfl fun os fs => ?_⟩
    have fqs := Fr.trans (S := fun x => x = r6) (Fr.trans (S := fun x => x = r6) fq fr fun _ _ e => e) fs fun _ _ e => e
    generalize setCell (setCell (setCell h7 _ _) _ _) _ _ = h8 at *
    have os : Own h8 r6 #[.pointer (some ⟨r, 0, none⟩), .int .i64 e, .bool false] := os
    have E8 : Ext g h8 := Fr.trans (Ext.trans f2 f6) fqs fun x hx e => by have := f2.size; omega
    refine ⟨fun e => (by cases e), fun _ => ⟨r6, 0, rfl, _, os.cell _, _, os.cell _, _, os.cell _, r2, 0, rfl, _, (Op.ext E8).cell _, ?_⟩⟩
    refine ev0 (Hto (Ext.trans Fg E8) (Wg.ext E8) hone (Ig.ext E8) fun h9 f9 => ⟨_, _, rfl, ?_⟩)
    have HH := H h9 (Ext.trans (Ext.trans Fg E8) f9)
    refine ⟨fun e => ?_, fun e => ?_⟩
    · rw [if_pos (of_decide_eq_true e)] at HH; exact HH
    · rw [if_neg (of_decide_eq_false e)] at HH; exact HH
theorem odd_pow {M s t : Nat} (ho : M % 2 = 1) (h : M * 2 ^ s = 2 ^ t) : M = 1 ∧ s = t := by
  have hs : 0 < 2 ^ s := Nat.pow_pos (by decide)
  rcases Nat.lt_or_ge t s with a | a
  · have h1 : 2 ^ s = 2 ^ t * 2 ^ (s - t) := by rw [← Nat.pow_add]; congr 1; omega
    have h2 : 2 ^ 1 ≤ 2 ^ (s - t) := Nat.pow_le_pow_right (by decide) (by omega)
    have ht : 0 < 2 ^ t := Nat.pow_pos (by decide)
    rw [h1] at h
    have h3 : 1 * (2 ^ t * 2) ≤ M * (2 ^ t * 2 ^ (s - t)) := Nat.mul_le_mul (by omega) (Nat.mul_le_mul_left _ (by simpa using h2))
    omega
  · have h1 : 2 ^ t = 2 ^ (t - s) * 2 ^ s := by rw [← Nat.pow_add]; congr 1; omega
    rw [h1] at h
    have h2 := Nat.eq_of_mul_eq_mul_right hs h
    rcases Nat.eq_zero_or_pos (t - s) with b | b
    · rw [b] at h2; exact ⟨h2, by omega⟩
    · obtain ⟨k, hk⟩ := Nat.exists_eq_succ_of_ne_zero (Nat.ne_of_gt b)
      rw [hk, Nat.pow_succ] at h2
      omega
/-- The number 2 in units of 2^-2148. -/
theorem num_two {neg : Bool} {p : Option Addr} {n : Nat} {e v : Int} (N : NumS 2148 h neg p n e v) (hv : v = 2 * (UW : Int) * (UW : Int)) : neg = false ∧ e = 1 ∧ ∃ ds, NumI h neg p n e ds ∧ val B30 ds = 1 := by
  obtain ⟨M, N1, N2, N3⟩ := N
  obtain ⟨u, hu⟩ : ∃ u, u = 1074 := ⟨_, rfl⟩
  have hp : 0 < 2 ^ u := Nat.pow_pos (by decide)
  have e2 : v = ((2 ^ (u + u + 1) : Nat) : Int) := by
    rw [hv, uw_pow hu, Nat.pow_add, Nat.pow_add, Int.natCast_mul, Int.natCast_mul]
    generalize ((2 ^ u : Nat) : Int) = U
    rw [show ((2 ^ 1 : Nat) : Int) = 2 from rfl, Int.mul_comm (U * U) 2, Int.mul_assoc]
  have pv : 0 < 2 ^ (u + u + 1) := Nat.pow_pos (by decide)
  have hval := digs_val (b := B30) (by decide) M
  unfold Ieee.signed at N3
  rw [Nat.shiftLeft_eq] at N3
  cases neg with
  | true =>
    exfalso
    rw [e2] at N3
    simp only [if_true] at N3
    generalize 2 ^ (u + u + 1) = A at *
    generalize M * 2 ^ (e + (2148 : Nat)).toNat = C at *
    omega
  | false =>
    simp only [Bool.false_eq_true, if_false] at N3
    rw [e2] at N3
    have N3 := Int.ofNat_inj.1 N3
    have hn : 0 < n := by
      rcases Nat.eq_zero_or_pos n with a | a
      · have hl := N1.d.len
        rw [a] at hl
        have : M = 0 := by rw [← hval, List.eq_nil_of_length_eq_zero hl]; rfl
        rw [this, Nat.zero_mul] at N3; omega
      · exact a
    have ho := (N1.pos hn).1
    rw [hval] at ho
    obtain ⟨a, b⟩ := odd_pow ho N3.symm
    refine ⟨rfl, by omega, _, N1, by rw [hval]; exact a⟩
/-- round.To32 of 2. -/
theorem K1375c {neg : Bool} {p : Option Addr} {n c : Nat} {e v : Int} (N : NumS 2148 h neg p n e v) (hv : v = 2 * (UW : Int) * (UW : Int))
    (H : ∀ h', Ext h h' → R (.returned (.tuple #[.int .i64 (1073741824 : Int), .bool false, .int .i64 (0 : Int)])) h') :
    Ent Tryz.prog B 22 #[.agg #[.bool neg, .slice p n c, .int .i64 e], .int .i64 (0 : Int)] R h := by
  obtain ⟨rfl, rfl, ds, N1, hM⟩ := num_two N hv
  refine F1375_ok _ _ _ _ _ _ (alK fun r1 h1 e1 f1 o1 z1 => ⟨r1, 0, rfl, _, o1.cell _, _, _, _, o1.cell _, _, o1.cell _, alK fun r2 h2 e2 f2 o2 z2 => ?_⟩)
  refine K1055g (V := 1073741824) (X := false) o2 ((N1.ext f1).ext f2) (by decide) (by decide) (fun {R' h' r q wv} E W one I k => ?_) fun h3 f3 => ⟨_, _, _, rfl, H h3 (Ext.trans (Ext.trans f1 f2) f3)⟩
  rw [hM] at I
  exact K1333c one I k
/-- sums.wide of 1. -/
theorem K1374c (H : R (.returned (.float .f64 (wd P1))) h) : Ent Tryz.prog B 46 #[.int .i64 S1] R h :=
  F1374_ok _ (K1326c ⟨_, rfl, cv32 H⟩)
theorem intsO {b : Nat} {x : Int} (O : Own h b #[.int .i64 x, .int .i64 x]) (ix : I64 x) : IntsH h (some ⟨b, 0, none⟩) [x, x] := by
  refine ⟨fun y hy => ?_, .inr ⟨b, 0, rfl, O.lt, fun i hi => ?_⟩⟩
  · have : y = x := by simpa using hy
    subst this; exact ix
  · have : i = 0 ∨ i = 1 := by simp at hi; omega
    rcases this with rfl | rfl
    · exact (O.cell _).trans rfl
    · exact (O.cell _).trans rfl
theorem ones_val : sV ([S1, S1].map fun _ => P1) * (UW : Int) = 2 * (UW : Int) * (UW : Int) := by
  have h1 : fV P1 = (UW : Int) := p1_val
  show (fV P1 + (fV P1 + 0)) * (UW : Int) = _
  rw [h1, Int.add_zero]
  generalize (UW : Int) = U
  rw [show U + U = 2 * U by omega]
/-- sums.Sum32 of two ones. -/
theorem K1367c {b : Nat} (ht : TabH h) (O : Own h b #[.int .i64 S1, .int .i64 S1]) (H : ∀ h', Ext h h' → R (.returned (.tuple #[.int .i64 (1073741824 : Int), .int .i64 (0 : Int)])) h') :
    Ent Tryz.prog B 21 #[.slice (some ⟨b, 0, none⟩) 2 2, .int .i64 (0 : Int)] R h := by
  have I := intsO O (by unfold I64 S1; omega)
  refine F1367_ok _ _ _ _ (alK fun e h1 e1 f1 o1 z1 => K1364 o1 (by decide) (by decide) (by decide) ⟨_, rfl, fun e => absurd e (by decide), fun _ => ?_⟩)
  refine K1366 (φ := fun _ => P1) (I.ext f1) rfl (by omega) (fun x h' hx k => ?_) fun e2 h2 f2 l2 A => ⟨_, _, _, rfl, ?_⟩
  · have : x = S1 := by simpa using hx
    subst this
    exact K1374c k
  refine K1365 (v := 1073741824) ((ht.fr f1 id).fr f2 id) A rfl (by decide) (fun x hx => ?_) (fun {R' h' ng p n c e} E N k => ?_) fun h3 f3 => ⟨_, _, rfl, H h3 (Ext.trans (Ext.trans f1 f2) f3)⟩
  · have : x = P1 := by simpa using hx
    subst this
    exact ⟨by unfold I64 P1; omega, by decide⟩
  exact K1375c N ones_val fun h'' f => k h'' _ f
/-- Added from the first one on. -/
def leftP (l : List Int) : Int := l.foldl (fun s x => addP s (nrm x)) 0
theorem leftP_take {l : List Int} {j : Nat} (hj : j < l.length) : leftP (l.take (j + 1)) = addP (leftP (l.take j)) (nrm l[j]) := by
  unfold leftP
  rw [List.take_add_one, List.foldl_append, List.getElem?_eq_getElem hj]
  rfl
/-- sums.left. -/
theorem K1377 {e n c : Nat} {l : List Int} (A : FlsA h e l) (hi : ∀ x ∈ l, I64 x) (hn : l.length = n) (hl : n ≤ 4611686018427387904) (H : ∀ w, WI w (leftP l) → R (.returned (.float .f64 w)) h) :
    Ent Tryz.prog B 33 #[.slice (some ⟨e, 0, none⟩) n c] R h := by
  obtain ⟨cs, oc, hs, hc⟩ := A
  refine F1377_ok _ _ _ ⟨fun m vs h' => match vs with
    | [.slice p1 n1 c1, .float _ s, .int _ nn, .int _ i] => p1 = some (⟨e, 0, none⟩ : Addr) ∧ n = n1 ∧ nn = (n : Int) ∧ h = h' ∧ ∃ j : Nat, i = (j : Int) ∧ j ≤ n ∧ m = n - j ∧ WI s (leftP (l.take j))
    | _ => False, n, ⟨rfl, rfl, rfl, rfl, 0, rfl, by omega, rfl, wi_zero⟩, ?_⟩
  rintro m h' _ _ _ s _ _ ⟨rfl, rfl, rfl, rfl, j, rfl, hj, rfl, W⟩ _
  refine ⟨fun e2 => ?_, fun e2 => ?_⟩
  · have hjl : j < l.length := by have := of_decide_eq_true e2; omega
    have hcell : cell? h ⟨e, 0 + (j : Int).toNat * 1, none⟩ = some (.float .f64 (wd l[j])) := by
      rw [Int.toNat_natCast, Nat.mul_one, Nat.zero_add]
      exact (oc.cell _).trans (hc j hjl)
    refine ⟨e, 0, rfl, by omega, by omega, e, _, rfl, wd l[j], hcell, WI.add W (wi_wd (hi _ (List.getElem_mem hjl))) fun z hz => ⟨n - (j + 1), by omega, rfl, rfl, rfl, rfl, j + 1, ?_, by omega, rfl, ?_⟩⟩
    · rw [i64_in (x := (j : Int) + 1) (by omega) (by omega)]; omega
    · rw [leftP_take hjl]; exact hz
  · have hjn : j = n := by have := of_decide_eq_false e2; omega
    rw [hjn, List.take_of_length_le (by omega)] at W
    exact H s W
/-- sums.Left. -/
theorem K1368 {p : Option Addr} {n c : Nat} {l : List Int} (I : IntsH h p l) (hn : l.length = n) (hl : n ≤ 100000) (H : ∀ h', Ext h h' → R (.returned (.int .i64 (leftP l))) h') :
    Ent Tryz.prog B 9 #[.slice p n c] R h := by
  refine F1368_ok _ _ _ (K1366 (φ := id) I hn hl (fun x h' _ k => K54 k) fun e2 h2 f2 l2 A => ⟨_, _, _, rfl, ?_⟩)
  rw [List.map_id] at A
  exact K1377 A I.1 hn (by omega) fun w W => ⟨_, rfl, K56 W ⟨_, rfl, H h2 f2⟩⟩
abbrev PTwo : Int := 4611686018427387904
theorem sum_ones : sumV 0 [P1, P1] = PTwo := by decide +kernel
theorem left_ones : leftP [P1, P1] = PTwo := by decide +kernel
/-- plumblaw5.alive. -/
theorem K1361 (ht : TabH h) (H : ∀ h', Ext h h' → R (.returned (.bool true)) h') : Ent Tryz.prog B 8 #[] R h := by
  have i1 : I64 P1 := by unfold I64 P1; omega
  have fin : ∀ x ∈ [P1, P1], isFin x = true := fun x hx => by
    have : x = P1 := by simpa using hx
    subst this; decide
  refine F1361_ok (alK fun r1 h1 e1 f1 o1 z1 => ?_)
  refine K1360 (ht.fr f1 id) (intsO o1 i1) rfl (by decide) fin (by decide) (by decide) fun h2 f2 => ⟨_, _, rfl, alK fun r3 h3 e3 f3 o3 z3 => alK fun r4 h4 e4 f4 o4 z4 => ?_⟩
  rw [sum_ones]
  have T4 : TabH h4 := ht.fr (Ext.trans (Ext.trans (Ext.trans f1 f2) f3) f4) id
  refine K1363 T4 ((intsO o3 i1).ext f4) (intsO o4 i1) rfl (by decide) fin (by decide) (by decide) fun h5 f5 => ⟨_, _, rfl, alK fun r6 h6 e6 f6 o6 z6 => ?_⟩
  rw [sum_ones]
  refine K1367c (T4.fr (Ext.trans f5 f6) id) o6 fun h7 f7 => ⟨_, _, rfl, ?_⟩
  have F7 : Ext h h7 := Ext.trans (Ext.trans (Ext.trans (Ext.trans (Ext.trans f1 f2) f3) f4) (Ext.trans f5 f6)) f7
  have last : F1361_j57 B R P1 PTwo true h7 := by
    refine ⟨fun _ => alK fun r8 h8 e8 f8 o8 z8 => K1368 (intsO o8 i1) rfl (by decide) fun h9 f9 => ⟨_, rfl, ?_⟩, fun e => (by cases e)⟩
    rw [left_ones]
    exact H h9 (Ext.trans (Ext.trans F7 f8) f9)
  refine ⟨fun _ => ⟨fun _ => ⟨fun _ => ⟨fun _ => ⟨fun _ => last, fun e => absurd e (by decide)⟩, fun e => absurd e (by decide)⟩, fun e => absurd e (by decide)⟩, fun e => absurd e (by decide)⟩, fun e => absurd e (by decide)⟩
end Go.Proofs
set_option linter.unusedVariables false
/-! number.to32, round.To32. -/
namespace Go.Eng
open Go
def turn32 (w : Nat) (ng : Bool) (k : Nat) (above : Bool) : Bool × Nat :=
  match w with
  | 0 => (ng, k)
  | 1 => if above then pvS ng k else (ng, k)
  | 2 => if above then (ng, k) else nxS ng k
  | _ => if ng then (if above then (ng, k) else nxS ng k) else (if above then pvS ng k else (ng, k))
/-- What number.to32 tells of m times 2^e. -/
def to32R (w : Nat) (m e : Int) : Int × Bool :=
  if m = 0 then (0, false) else
  let a := (m * 2).natAbs
  let n := (bl a + 63) / 64
  let r := f32F (decide (m < 0)) n (a * 2 ^ (64 * n - bl a)) ((bl a : Int) + (e - 1))
  if r.2 = 0 then (W32 (decide (m < 0)) r.1, false) else
  let t := turn32 w (decide (m < 0)) r.1 (decide (r.2 = 1))
  let b : Int := W32 t.1 t.2
  (if (b = 0 ∧ m < 0) ∨ b = 2147483648 then (if m < 0 then 2147483648 else 0) else b, true)
end Go.Eng
namespace Go.Proofs
open Go Go.Eng
variable {B : World} {R : Ending → Heap → Prop} {h : Heap}
theorem K1104z {ng above : Bool} {k : Nat} (h1 : above = true → k < 2139095040 ∨ (k = 2139095040 ∧ ng = false))
    (H : R (.returned (.int .i64 (W32 (turn32 1 ng k above).1 (turn32 1 ng k above).2 : Int))) h) : Ent Tryz.prog B 130 #[.int .i64 (W32 ng k : Int), .bool ng, .bool above, .func (.func 84) #[] #[], .func (.func 85) #[] #[]] R h := by
  refine F1104_ok _ _ _ _ _ ⟨fun e => ?_, fun e => ?_⟩
  · subst e
    exact ev0 (K1337 (h1 rfl) ⟨_, rfl, H⟩)
  · subst e; exact H
theorem K1105z {ng above : Bool} {k : Nat} (h2 : above = false → k < 2139095040 ∨ (k = 2139095040 ∧ ng = true))
    (H : R (.returned (.int .i64 (W32 (turn32 2 ng k above).1 (turn32 2 ng k above).2 : Int))) h) : Ent Tryz.prog B 131 #[.int .i64 (W32 ng k : Int), .bool ng, .bool above, .func (.func 84) #[] #[], .func (.func 85) #[] #[]] R h := by
  refine F1105_ok _ _ _ _ _ ⟨fun e => ?_, fun e => ?_⟩
  · subst e; exact H
  · subst e
    exact ev0 (K1336 (h2 rfl) ⟨_, rfl, H⟩)
theorem kturn32 {w : Nat} {wv : Value} {ng above : Bool} {k : Nat} (hw : WayV h w wv) (h1 : above = true → k < 2139095040 ∨ (k = 2139095040 ∧ ng = false)) (h2 : above = false → k < 2139095040 ∨ (k = 2139095040 ∧ ng = true))
    (H : R (.returned (.int .i64 (W32 (turn32 w ng k above).1 (turn32 w ng k above).2 : Int))) h) :
    EntV Tryz.prog B wv #[.int .i64 (W32 ng k : Int), .bool ng, .bool above, .func (.func 84) #[] #[], .func (.func 85) #[] #[]] R h := by
  unfold WayV at hw
  match w with
  | 0 => rw [hw]; exact ev0 (F1106_ok _ _ _ _ _ H)
  | 1 => rw [hw]; exact ev0 (K1104z h1 H)
  | 2 => rw [hw]; exact ev0 (K1105z h2 H)
  | n + 3 =>
    obtain ⟨p1, p2, e, o1, o2⟩ := hw
    rw [e]
    refine ev2 (F1107_ok _ _ _ _ _ _ _ ⟨fun e => ?_, fun e => ?_⟩)
    · subst e
      exact ⟨p1, 0, rfl, _, o1.cell _, ev0 (K1105z h2 ⟨_, rfl, H⟩)⟩
    · subst e
      exact ⟨p2, 0, rfl, _, o2.cell _, ev0 (K1104z h1 ⟨_, rfl, H⟩)⟩
/-- number.to32, of what is all there. -/
theorem K1333 {r q w : Nat} {m e : Int} {wv : Value} (hw : WayV h w wv) (hone : oneCell wv = true) (hx : IntAt h r q m) (hb : bl m.natAbs ≤ 900000) (he : -4000000 ≤ e) (he2 : e ≤ 4000000)
    (H : ∀ h', Ext h h' → R (.returned (.tuple #[.int .i64 (to32R w m e).1, .bool (to32R w m e).2])) h') :
    Ent Tryz.prog B 50 #[.agg #[.pointer (some ⟨r, 0, none⟩), .int .i64 e, .bool false], .agg #[wv]] R h := by
  refine F1333_ok _ _ _ _ (alK fun r1 h1 e1 f1 o1 z1 => alK fun r2 h2 e2 f2 o2 z2 => ?_)
  have X2 := (hx.ext f1).ext f2
  have O1 := o1.ext f2
  refine ⟨r1, 0, rfl, _, O1.cell _, _, O1.cell _, _, O1.cell _, K1078 X2 (by omega) (by omega) (by omega) fun r3 q3 h3 f3 l3 X3 => ⟨_, _, _, rfl, ?_⟩⟩
  refine alK fun r4 h4 e4 f4 o4 z4 => ⟨r4, 0, rfl, o4.stC (by simp) rfl fun oa fa => oa.stC (by simp) rfl fun ob fb => ob.stC (by simp) rfl fun O4 fc => ?_⟩
  have fabc := Fr.trans (S := fun x => x = r4) (Fr.trans (S := fun x => x = r4) fa fb fun _ _ e => e) fc fun _ _ e => e
  generalize setCell (setCell (setCell h4 _ _) _ _) _ _ = h5 at *
  have O4 : Own h5 r4 #[.pointer (some ⟨r3, 0, none⟩), .int .i64 (e - 1), .bool false] := O4
  have F5 : Ext h h5 := Fr.trans (Ext.trans (Ext.trans (Ext.trans f1 f2) f3) f4) fabc fun x hx e => by have := f3.size; omega
  have G5 : Ext h2 h5 := Fr.trans (Ext.trans f3 f4) fabc fun x hx e => by have := f3.size; omega
  have G35 : Ext h3 h5 := Fr.trans f4 fabc fun x hx e => by omega
  have X5 := X3.ext G35
  refine alK fun r6 h6 e6 f6 o6 z6 => ⟨r4, 0, rfl, r4, 0, rfl, _, (O4.ext f6).cell _, ?_⟩
  have Z6 : Flt h6 r6 0 0 0 false none 0 0 0 := o6
  have X6 := X5.ext f6
  have lx := X5.lt
  have lq := X5.lq
  have lo4 := O4.lt
  have F6 := Ext.trans F5 f6
  have hba : bl (m * 2).natAbs ≤ 900001 := by
    by_cases h0 : m.natAbs = 0
    · have : m = 0 := by omega
      subst this; decide
    · have := bl_scale (m := m.natAbs) 1 h0
      rw [Int.natAbs_mul, show (2 : Int).natAbs = 2 ^ 1 from rfl, this]; omega
  unfold to32R at H
  have hm2 : (m = 0) = (m * 2 = 0) := propext ⟨fun e => by omega, fun e => by omega⟩
  have hn2 : (m < 0) = (m * 2 < 0) := propext ⟨fun e => by omega, fun e => by omega⟩
  simp only [hm2, hn2] at H
  clear hx hb X2 X3 hm2 hn2
  generalize m * 2 = a at *
  have hclamp : (if (4194304 : Int) < (if (-4194304 : Int) > e - 1 then (-4194304 : Int) else e - 1) then (4194304 : Int) else (if (-4194304 : Int) > e - 1 then (-4194304 : Int) else e - 1)) = e - 1 := clamp_in (by omega) (by omega)
  have he1 : -4000001 ≤ e - 1 := by omega
  have he3 : e - 1 ≤ 4000000 := by omega
  clear he he2
  generalize e - 1 = e' at *
  by_cases ha : a = 0
  · subst ha
    refine K1079z Z6 X6 (by omega) fun h7 f7 Z7 => ⟨_, rfl, r4, 0, rfl, r4, 0 + 1, rfl, _, ((O4.ext f6).fr f7 (by omega)).cell _, K1080z Z7 ⟨_, rfl, K1335z Z7 ⟨_, _, rfl, ?_⟩⟩⟩
    have O1' : Own h7 r1 _ := ((O1.ext G5).ext f6).fr f7 (by have := f2.size; have := f3.size; omega)
    have HH := H h7 (Fr.trans F6 f7 fun x hx e => by have := F5.size; omega)
    rw [if_pos rfl] at HH
    refine K1332g (ng := false) (k := 0) (by decide) ⟨_, rfl, fun e => (by cases e), fun _ => ⟨fun e => (by cases e), fun _ => ⟨r1, 0, rfl, r1, 0 + 2, rfl, _, O1'.cell _, HH⟩⟩⟩
  · rw [if_neg ha] at H
    refine K1079 Z6 X6 (by omega) (by omega) ha (by omega) fun q n h7 f7 l7 hn1 hn2 hn3 V7 => ⟨_, rfl, r4, 0, rfl, r4, 0 + 1, rfl, _, ((O4.ext f6).fr f7 (by omega)).cell _, ?_⟩
    rw [hclamp]
    have hp := bl_pos (v := a.natAbs) (by omega)
    refine K1080 V7 (by omega) (by omega) (by omega) (n_mod _ _ _) (by omega) (by omega) (by omega) (by omega) (by omega) (by omega) fun h8 V8 f8 => ⟨_, rfl, ?_⟩
    refine K1335 V8 (by omega) (by omega) (by omega) (by omega) fun h9 f9 => ⟨_, _, rfl, ?_⟩
    have hne : (bl a.natAbs + 63) / 64 = n := by omega
    rw [hne] at H
    obtain ⟨g1, g2⟩ := f32F_le (ng := decide (a < 0)) (n := n) (V := a.natAbs * 2 ^ (64 * n - bl a.natAbs)) (E := (bl a.natAbs : Int) + e')
    generalize f32F (decide (a < 0)) n (a.natAbs * 2 ^ (64 * n - bl a.natAbs)) ((bl a.natAbs : Int) + e') = rr at *
    obtain ⟨k, acc⟩ := rr
    have n7 : ∀ x, x < h6.size → x ≠ r6 → ¬ (x = r6 ∨ x = q) := fun x a b c => by omega
    have s7 := f7.size
    have kp : ∀ {x : Nat} {cs : Array Value}, Own h6 x cs → x ≠ r6 → Own h9 x cs := fun o hx => ((o.fr f7 hx).fr f8 (n7 _ o.lt hx)).ext f9
    have E9 : Ext h h9 := Fr.trans (Fr.trans (Fr.trans F6 f7 fun x hx e => by have := F5.size; omega) f8 fun x hx e => by have := F5.size; omega) f9 fun x hx e => e
    have HH := H _ E9
    have O2' : Own h9 r2 #[wv] := kp ((o2.ext G5).ext f6) (by have := f3.size; omega)
    have O4' := kp (O4.ext f6) (by omega)
    have O1' := kp ((O1.ext G5).ext f6) (by have := f3.size; omega)
    have X9 : IntAt h9 r3 q3 a := ((X6.fr f7 (by omega) (by omega)).fr f8 (n7 _ (by omega) (by omega)) (n7 _ (by omega) (by omega))).ext f9
    have W9 := hw.ext E9
    have hsg : decide (a.sign < 0) = decide (a < 0) := by rw [decide_eq_decide]; exact Int.sign_neg_iff
    clear kp n7 f7 f8 f9 f6 f1 f2 f3 f4 fa fb fc fabc H hclamp G5 G35 F5 F6 V7 V8
    have g1 : k ≤ 2139095040 := g1
    have g2 : k = 2139095040 → acc = if decide (a < 0) then -1 else 1 := g2
    simp only at HH
    refine K1332g g1 ⟨_, rfl, fun e => ?_, fun e => ?_⟩
    · have hacc : acc ≠ 0 := by intro h0; rw [h0] at e; cases e
      rw [if_neg hacc] at HH
      refine ⟨r2, 0, rfl, r2, 0, rfl, _, O2'.cell _, r4, 0, rfl, r4, 0, rfl, _, O4'.cell _, K75 X9 ⟨_, rfl, same1 (S := fun _ => False) O2' Fr.rfl' id, ?_⟩⟩
      rw [hsg]
      refine kturn32 W9 (fun e1 => ?_) (fun e1 => ?_) ⟨_, rfl, ?_⟩
      · have h1 : acc = 1 := of_decide_eq_true e1
        rcases Nat.lt_or_ge k 2139095040 with x | x
        · exact .inl x
        · have h2 := g2 (by omega)
          rw [h1] at h2
          refine .inr ⟨by omega, ?_⟩
          cases h3 : decide (a < 0)
          · rfl
          · rw [h3] at h2; cases h2
      · have h1 : ¬ acc = 1 := of_decide_eq_false e1
        rcases Nat.lt_or_ge k 2139095040 with x | x
        · exact .inl x
        · have h2 := g2 (by omega)
          refine .inr ⟨by omega, ?_⟩
          cases h3 : decide (a < 0)
          · rw [h3] at h2; exact absurd h2 h1
          · rfl
      · generalize turn32 w (decide (a < 0)) k (decide (acc = 1)) = t at *
        generalize hbv : ((W32 t.1 t.2 : Nat) : Int) = b at *
        have hb0 : 0 ≤ b := by omega
        have j12 : ∀ v, (v = if (b = 0 ∧ a < 0) ∨ b = 2147483648 then (if a < 0 then (2147483648 : Int) else 0) else b) → F1333_j12 B R (some ⟨r1, 0, none⟩) acc v h9 := fun v hv => by
          refine ⟨fun _ => ?_, fun e => absurd e (by rw [decide_eq_false hacc]; decide)⟩
          show R _ _
          rw [hv]; exact HH
        have j9 : ∀ u : Bool, u = decide ((b = 0 ∧ a < 0) ∨ b = 2147483648) → F1333_j9 B R (some ⟨r1, 0, none⟩) (some ⟨r4, 0, none⟩) acc b u h9 := fun u hu => by
          refine ⟨fun eu => ⟨r4, 0, rfl, r4, 0, rfl, _, O4'.cell _, K75 X9 ⟨_, rfl, fun ep => j12 0 ?_, fun ep => j12 2147483648 ?_⟩⟩, fun eu => j12 b ?_⟩
          · rw [eu] at hu
            have hs := Int.sign_pos_iff.1 (of_decide_eq_true ep)
            rw [if_pos (of_decide_eq_true hu.symm), if_neg (by omega)]
          · rw [eu] at hu
            have hs : ¬ 0 < a := fun h0 => of_decide_eq_false ep (Int.sign_pos_iff.2 h0)
            rw [if_pos (of_decide_eq_true hu.symm), if_pos (by omega)]
          · rw [eu] at hu
            rw [if_neg (of_decide_eq_false hu.symm)]
        have j96 : ∀ u : Bool, u = decide (b = 0 ∧ a < 0) → F1333_j96 B R (some ⟨r1, 0, none⟩) (some ⟨r4, 0, none⟩) acc b u h9 := fun u hu => by
          refine ⟨fun eu => j9 true ?_, fun eu => j9 _ ?_⟩
          · rw [eu] at hu
            exact (decide_eq_true (.inl (of_decide_eq_true hu.symm))).symm
          · rw [eu] at hu
            have := of_decide_eq_false hu.symm
            rw [decide_eq_decide]
            constructor
            · exact fun h => .inr h
            · intro h; rcases h with h | h; exact absurd h this; exact h
        refine ⟨fun e0 => ⟨r4, 0, rfl, r4, 0, rfl, _, O4'.cell _, K75 X9 ⟨_, rfl, j96 _ ?_⟩⟩, fun e0 => j96 false ?_⟩
        · have h0 := of_decide_eq_true e0
          rw [hsg, decide_eq_decide]
          exact ⟨fun x => ⟨h0, x⟩, fun x => x.2⟩
        · have h0 := of_decide_eq_false e0
          exact (decide_eq_false fun x => h0 x.1).symm
    · have hacc : acc = 0 := by
        cases hd : decide (acc = 0)
        · rw [hd] at e; cases e
        · exact of_decide_eq_true hd
      subst hacc
      rw [if_pos rfl] at HH
      exact ⟨fun e1 => (by cases e1), fun e1 => ⟨r1, 0, rfl, r1, 0 + 2, rfl, _, O1'.cell _, HH⟩⟩
/-- What round.To32 tells. -/
def pz32 (a : Int) : Int := if a = 2147483648 then 0 else a
/-- round.To32. -/
theorem K1375 {neg : Bool} {p : Option Addr} {n c : Nat} {e w : Int} {ds : List Nat} (N : NumI h neg p n e ds) (h0 : 0 ≤ w) (h4 : w < 4)
    (H : ∀ h', Ext h h' → R (.returned (.tuple #[.int .i64 (pz32 (to32R w.toNat (if neg then -(val B30 ds : Int) else (val B30 ds : Int)) e).1), .bool (to32R w.toNat (if neg then -(val B30 ds : Int) else (val B30 ds : Int)) e).2, .int .i64 (0 : Int)])) h') :
    Ent Tryz.prog B 22 #[.agg #[.bool neg, .slice p n c, .int .i64 e], .int .i64 w] R h := by
  refine F1375_ok _ _ _ _ _ _ (alK fun r1 h1 e1 f1 o1 z1 => ⟨r1, 0, rfl, _, o1.cell _, _, _, _, o1.cell _, _, o1.cell _, alK fun r2 h2 e2 f2 o2 z2 => ?_⟩)
  have hbl : bl (val B30 ds) ≤ 60000 := by
    have : bl (val B30 ds) ≤ 30 * ds.length := bl_dig (k := 30) rfl N.d.dig
    have h1 := N.d.len
    have h2 := N.le
    omega
  have he : -1048576 ≤ e ∧ e ≤ 1048576 := by
    by_cases h1 : n = 0
    · have := (N.zero h1).2; omega
    · exact (N.pos (by omega)).2
  have hnv : (if neg then -(val B30 ds : Int) else (val B30 ds : Int)).natAbs = val B30 ds := by cases neg <;> simp
  refine K1055g (V := (to32R w.toNat (if neg then -(val B30 ds : Int) else (val B30 ds : Int)) e).1) (X := (to32R w.toNat (if neg then -(val B30 ds : Int) else (val B30 ds : Int)) e).2) o2 ((N.ext f1).ext f2) h0 h4 (fun {R' h' r q wv} E W one I k => ?_) fun h3 f3 => ⟨_, _, _, rfl, H h3 (Ext.trans (Ext.trans f1 f2) f3)⟩
  exact K1333 W one I (by rw [hnv]; omega) (by omega) (by omega) k
end Go.Proofs
set_option linter.unusedVariables false
/-! plumblaw5.SumsOrders. -/
namespace Go.Proofs
open Go Go.Eng
variable {B : World} {R : Ending → Heap → Prop} {h : Heap}
theorem way_in (x : Int) : ∃ w : Int, bitsI .and .i64 x (3 : Int) = w ∧ 0 ≤ w ∧ w < 4 := by
  have e := and_i64 (x := x) (m := 3) (by decide)
  have : (x % 18446744073709551616).toNat &&& 3 ≤ 3 := Nat.and_le_right
  exact ⟨_, e, by omega, by omega⟩
end Go.Proofs
