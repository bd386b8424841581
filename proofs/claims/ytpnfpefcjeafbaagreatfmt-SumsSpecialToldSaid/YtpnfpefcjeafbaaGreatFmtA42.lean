import Derived.Test.YtpnfpefcjeafbaaGreatFmtA41
import Derived.Test.YtpnfpefcjeafbaaGreatFmtA33
import Derived.Test.YtpnfpefcjeafbaaGreatFmtA24
/- Here stand lemmas and contracts, in the order in which they are used. -/
set_option linter.unusedVariables false
set_option linter.unusedVariables false
/-! round.rounded by any function; sums.Sum32, sums.Left; plumblaw5.alive. -/
namespace Go.Proofs
open Go Go.Eng
variable {B : World} {R : Ending → Heap → Prop} {h : Heap}
def RndG (f : Nat) (lost w : Int) (b p1 u : Nat) (wv : Value) (e M : Int) (h v0 : Heap) (m : Nat) (l : List Value) (h' : Heap) : Prop :=
  match l with
  | [i, j, .int _ k, .pointer d, .slice a an ac, .slice s sn sc, .int _ nn, .int _ ii] =>
    i = .func (.func 49) #[] #[] ∧ j = .func (.func f) #[] #[] ∧ k = lost ∧ d = some (⟨p1, 0, none⟩ : Addr) ∧ a = some (⟨u, 0, none⟩ : Addr) ∧ an = 1 ∧ s = some (⟨b, 0, none⟩ : Addr) ∧ sn = 1 ∧ nn = 1 ∧
    ((ii = 0 ∧ m = 1 ∧ h' = v0) ∨ (ii = 1 ∧ m = 0 ∧ Ext h h' ∧ ∃ r q, Own h' u #[.pointer (some ⟨r, 0, none⟩), .int .i64 e, .bool false] ∧ IntAt h' r q M ∧ Own h' p1 #[wv] ∧ WayV h' w.toNat wv))
  | _ => False
/-- round.rounded, of one number as it is, by any function that tells its float. -/
theorem K1055g {f : Nat} {lost : Int} {b c : Nat} {neg : Bool} {p : Option Addr} {n cc : Nat} {e w V : Int} {X : Bool} {ds : List Nat} (Ob : Own h b #[.bool neg, .slice p n cc, .int .i64 e]) (N : NumI h neg p n e ds) (h0 : 0 ≤ w) (h4 : w < 4)
    (Hto : ∀ {R' : Ending → Heap → Prop} {h' : Heap} {r q : Nat} {wv : Value}, Ext h h' → WayV h' w.toNat wv → oneCell wv = true → IntAt h' r q (if neg then -(val B30 ds : Int) else (val B30 ds : Int)) → (∀ h'', Ext h' h'' → R' (.returned (.tuple #[.int .i64 V, .bool X])) h'') →
      Ent Tryz.prog B f #[.agg #[.pointer (some ⟨r, 0, none⟩), .int .i64 e, .bool false], .agg #[wv]] R' h')
    (H : ∀ h', Ext h h' → R (.returned (.tuple #[.int .i64 (if V = lost then 0 else V), .bool X, .int .i64 (0 : Int)])) h') :
    Ent Tryz.prog B 48 #[.int .i64 w, .slice (some ⟨b, 0, none⟩) 1 c, .func (.func 49) #[] #[], .func (.func f) #[] #[], .int .i64 lost] R h := by
  generalize hM : (if neg then -(val B30 ds : Int) else (val B30 ds : Int)) = M at *
  refine F1055_ok _ _ _ _ _ _ _ (K1076 h0 h4 fun wv h1 f1 W1 hone => ⟨_, _, rfl, alK fun r2 h2 e2 f2 o2 z2 => ⟨r2, 0, rfl, o2.stC (by simp) hone fun oa fa => ?_⟩⟩)
  generalize setCell h2 _ _ = h3 at *
  have oa : Own h3 r2 #[wv] := oa
  have F3 : Ext h h3 := Fr.trans (Ext.trans f1 f2) fa fun x hx e => by have := f1.size; omega
  have W3 : WayV h3 w.toNat wv := W1.ext (Fr.trans f2 fa fun x hx e => by omega)
  refine ⟨fun e => (by cases e), fun _ => ⟨by decide, by decide, by decide, by decide, alK fun r4 h5 e4 f4 o4 z4 => ?_⟩⟩
  have o4 : Own h5 r4 #[.pointer none, .int .i64 0, .bool false] := by rw [mk3] at o4; exact o4
  have F5 := Ext.trans F3 f4
  have oa5 := oa.ext f4
  have W5 := W3.ext f4
  have Ob5 := Ob.ext F5
  have lb := Ob.lt
  have s3 := F3.size
  have lp := oa.lt
  refine ⟨RndG f lost w b r2 r4 wv e M h h5, 1, ⟨rfl, rfl, rfl, rfl, rfl, rfl, rfl, rfl, rfl, .inl ⟨rfl, rfl, rfl⟩⟩, ?_⟩
  rintro m g _ _ _ _ _ _ _ _ _ _ _ _ ⟨rfl, rfl, rfl, rfl, rfl, rfl, rfl, rfl, rfl, hc⟩ _
  rcases hc with ⟨rfl, rfl, rfl⟩ | ⟨rfl, rfl, Fg, r, q, Og, Ig, Op, Wg⟩
  · refine ⟨fun _ => ⟨b, 0, rfl, by decide, by decide, b, _, rfl, _, Ob5.cell _, _, _, _, Ob5.cell _, _, Ob5.cell _, ?_⟩, fun e => by simp at e⟩
    refine alK fun r6 h7 e6 f6 o6 z6 => ⟨r6, 0, rfl, o6.stC (by simp) rfl fun oq fq => oq.stC (by simp) rfl fun or fr => or.stC (by simp) rfl fun os fs => ?_⟩
    have fqs := Fr.trans (S := fun x => x = r6) (Fr.trans (S := fun x => x = r6) fq fr fun _ _ e => e) fs fun _ _ e => e
    generalize setCell (setCell (setCell h7 _ _) _ _) _ _ = h8 at *
    have os : Own h8 r6 #[.bool neg, .slice p n cc, .int .i64 e] := os
    have E8 : Ext g h8 := Fr.trans f6 fqs fun x hx e => by omega
    have N8 := (N.ext F5).ext E8
    refine ⟨r6, 0, rfl, _, os.cell _, _, _, _, os.cell _, _, os.cell _, K129 N8 fun h9 f9 => ⟨_, rfl, fun e => (by cases e), fun _ => ?_⟩⟩
    have os9 := os.ext f9
    have E9 := Ext.trans E8 f9
    refine ⟨r6, 0, rfl, _, os9.cell _, _, _, _, os9.cell _, _, os9.cell _, K1077 (N8.ext f9).d (by have := N.le; omega) fun r q h10 f10 lr lq I10 => ⟨_, _, _, rfl, ?_⟩⟩
    rw [hM] at I10
    have E10 := Ext.trans E9 f10
    refine ⟨r4, 0, rfl, by decide, by decide, r4, _, rfl, (o4.ext E10).stC (by simp) rfl fun ox fx => ox.stC (by simp) rfl fun oy fy => oy.stC (by simp) rfl fun oz fz => ?_⟩
    have fxz := Fr.trans (S := fun x => x = r4) (Fr.trans (S := fun x => x = r4) fx fy fun _ _ e => e) fz fun _ _ e => e
    have l4 := o4.lt
    have s9 := E9.size
    have E11 : Ext h _ := Fr.trans (Ext.trans F5 E10) fxz fun x hx e => by omega
    refine ⟨0, by omega, rfl, rfl, rfl, rfl, rfl, rfl, rfl, rfl, rfl, .inr ⟨rfl, rfl, E11, r, q, oz, I10.fr fxz (by omega) (by omega), (oa5.ext E10).fr fxz (by omega), ?_⟩⟩
    exact W3.ext (Fr.trans (Ext.trans f4 E10) fxz fun x hx e => by omega)
  · refine ⟨fun e => by simp at e, fun _ => ev0 (K1056 Og fun h2 f2 => ⟨_, _, _, _, rfl, ?_⟩)⟩
    refine alK fun r6 h7 e6 f6 o6 z6 => ⟨r6, 0, rfl, o6.stC (by simp) rfl fun oq fq => oq.stC (by simp) rfl fun or fr => or.stC (by simp) rfl fun os fs => ?_⟩
    have fqs := Fr.trans (S := fun x => x = r6) (Fr.trans (S := fun x => x = r6) fq fr fun _ _ e => e) fs fun _ _ e => e
    generalize setCell (setCell (setCell h7 _ _) _ _) _ _ = h8 at *
    have os : Own h8 r6 #[.pointer (some ⟨r, 0, none⟩), .int .i64 e, .bool false] := os
    have E8 : Ext g h8 := Fr.trans (Ext.trans f2 f6) fqs fun x hx e => by have := f2.size; omega
    refine ⟨fun e => (by cases e), fun _ => ⟨r6, 0, rfl, _, os.cell _, _, os.cell _, _, os.cell _, r2, 0, rfl, _, (Op.ext E8).cell _, ?_⟩⟩
    refine ev0 (Hto (Ext.trans Fg E8) (Wg.ext E8) hone (Ig.ext E8) fun h9 f9 => ⟨_, _, rfl, ?_⟩)
    have HH := H h9 (Ext.trans (Ext.trans Fg E8) f9)
    refine ⟨fun e => ?_, fun e => ?_⟩
    · rw [if_pos (of_decide_eq_true e)] at HH; exact HH
    · rw [if_neg (of_decide_eq_false e)] at HH; exact HH
theorem odd_pow {M s t : Nat} (ho : M % 2 = 1) (h : M * 2 ^ s = 2 ^ t) : M = 1 ∧ s = t := by
  have hs : 0 < 2 ^ s := Nat.pow_pos (by decide)
  rcases Nat.lt_or_ge t s with a | a
  · have h1 : 2 ^ s = 2 ^ t * 2 ^ (s - t) := by rw [← Nat.pow_add]; congr 1; omega
    have h2 : 2 ^ 1 ≤ 2 ^ (s - t) := Nat.pow_le_pow_right (by decide) (by omega)
    have ht : 0 < 2 ^ t := Nat.pow_pos (by decide)
    rw [h1] at h
    have h3 : 1 * (2 ^ t * 2) ≤ M * (2 ^ t * 2 ^ (s - t)) := Nat.mul_le_mul (by omega) (Nat.mul_le_mul_left _ (by simpa using h2))
    omega
  · have h1 : 2 ^ t = 2 ^ (t - s) * 2 ^ s := by rw [← Nat.pow_add]; congr 1; omega
    rw [h1] at h
    have h2 := Nat.eq_of_mul_eq_mul_right hs h
    rcases Nat.eq_zero_or_pos (t - s) with b | b
    · rw [b] at h2; exact ⟨h2, by omega⟩
    · obtain ⟨k, hk⟩ := Nat.exists_eq_succ_of_ne_zero (Nat.ne_of_gt b)
      rw [hk, Nat.pow_succ] at h2
      omega
/-- The number 2 in units of 2^-2148. -/
theorem num_two {neg : Bool} {p : Option Addr} {n : Nat} {e v : Int} (N : NumS 2148 h neg p n e v) (hv : v = 2 * (UW : Int) * (UW : Int)) : neg = false ∧ e = 1 ∧ ∃ ds, NumI h neg p n e ds ∧ val B30 ds = 1 := by
  obtain ⟨M, N1, N2, N3⟩ := N
  obtain ⟨u, hu⟩ : ∃ u, u = 1074 := ⟨_, rfl⟩
  have hp : 0 < 2 ^ u := Nat.pow_pos (by decide)
  have e2 : v = ((2 ^ (u + u + 1) : Nat) : Int) := by
    rw [hv, uw_pow hu, Nat.pow_add, Nat.pow_add, Int.natCast_mul, Int.natCast_mul]
    generalize ((2 ^ u : Nat) : Int) = U
    rw [show ((2 ^ 1 : Nat) : Int) = 2 from rfl, Int.mul_comm (U * U) 2, Int.mul_assoc]
  have pv : 0 < 2 ^ (u + u + 1) := Nat.pow_pos (by decide)
  have hval := digs_val (b := B30) (by decide) M
  unfold Ieee.signed at N3
  rw [Nat.shiftLeft_eq] at N3
  cases neg with
  | true =>
    exfalso
    rw [e2] at N3
    simp only [if_true] at N3
    generalize 2 ^ (u + u + 1) = A at *
    generalize M * 2 ^ (e + (2148 : Nat)).toNat = C at *
    omega
  | false =>
    simp only [Bool.false_eq_true, if_false] at N3
    rw [e2] at N3
    have N3 := Int.ofNat_inj.1 N3
    have hn : 0 < n := by
      rcases Nat.eq_zero_or_pos n with a | a
      · have hl := N1.d.len
        rw [a] at hl
        have : M = 0 := by rw [← hval, List.eq_nil_of_length_eq_zero hl]; rfl
        rw [this, Nat.zero_mul] at N3; omega
      · exact a
    have ho := (N1.pos hn).1
    rw [hval] at ho
    obtain ⟨a, b⟩ := odd_pow ho N3.symm
    refine ⟨rfl, by omega, _, N1, by rw [hval]; exact a⟩
/-- round.To32 of 2. -/
theorem K1375c {neg : Bool} {p : Option Addr} {n c : Nat} {e v : Int} (N : NumS 2148 h neg p n e v) (hv : v = 2 * (UW : Int) * (UW : Int))
    (H : ∀ h', Ext h h' → R (.returned (.tuple #[.int .i64 (1073741824 : Int), .bool false, .int .i64 (0 : Int)])) h') :
    Ent Tryz.prog B 22 #[.agg #[.bool neg, .slice p n c, .int .i64 e], .int .i64 (0 : Int)] R h := by
  obtain ⟨rfl, rfl, ds, N1, hM⟩ := num_two N hv
  refine F1375_ok _ _ _ _ _ _ (alK fun r1 h1 e1 f1 o1 z1 => ⟨r1, 0, rfl, _, o1.cell _, _, _, _, o1.cell _, _, o1.cell _, alK fun r2 h2 e2 f2 o2 z2 => ?_⟩)
  refine K1055g (V := 1073741824) (X := false) o2 ((N1.ext f1).ext f2) (by decide) (by decide) (fun {R' h' r q wv} E W one I k => ?_) fun h3 f3 => ⟨_, _, _, rfl, H h3 (Ext.trans (Ext.trans f1 f2) f3)⟩
  rw [hM] at I
  exact K1333c one I k
/-- sums.wide of 1. -/
theorem K1374c (H : R (.returned (.float .f64 (wd P1))) h) : Ent Tryz.prog B 46 #[.int .i64 S1] R h :=
  F1374_ok _ (K1326c ⟨_, rfl, cv32 H⟩)
theorem intsO {b : Nat} {x : Int} (O : Own h b #[.int .i64 x, .int .i64 x]) (ix : I64 x) : IntsH h (some ⟨b, 0, none⟩) [x, x] := by
  refine ⟨fun y hy => ?_, .inr ⟨b, 0, rfl, O.lt, fun i hi => ?_⟩⟩
  · have : y = x := by simpa using hy
    subst this; exact ix
  · have : i = 0 ∨ i = 1 := by simp at hi; omega
    rcases this with rfl | rfl
    · exact (O.cell _).trans rfl
    · exact (O.cell _).trans rfl
theorem ones_val : sV ([S1, S1].map fun _ => P1) * (UW : Int) = 2 * (UW : Int) * (UW : Int) := by
  have h1 : fV P1 = (UW : Int) := p1_val
  show (fV P1 + (fV P1 + 0)) * (UW : Int) = _
  rw [h1, Int.add_zero]
  generalize (UW : Int) = U
  rw [show U + U = 2 * U by omega]
/-- sums.Sum32 of two ones. -/
theorem K1367c {b : Nat} (ht : TabH h) (O : Own h b #[.int .i64 S1, .int .i64 S1]) (H : ∀ h', Ext h h' → R (.returned (.tuple #[.int .i64 (1073741824 : Int), .int .i64 (0 : Int)])) h') :
    Ent Tryz.prog B 21 #[.slice (some ⟨b, 0, none⟩) 2 2, .int .i64 (0 : Int)] R h := by
  have I := intsO O (by unfold I64 S1; omega)
  refine F1367_ok _ _ _ _ (alK fun e h1 e1 f1 o1 z1 => K1364 o1 (by decide) (by decide) (by decide) ⟨_, rfl, fun e => absurd e (by decide), fun _ => ?_⟩)
  refine K1366 (φ := fun _ => P1) (I.ext f1) rfl (by omega) (fun x h' hx k => ?_) fun e2 h2 f2 l2 A => ⟨_, _, _, rfl, ?_⟩
  · have : x = S1 := by simpa using hx
    subst this
    exact K1374c k
  refine K1365 (v := 1073741824) ((ht.fr f1 id).fr f2 id) A rfl (by decide) (fun x hx => ?_) (fun {R' h' ng p n c e} E N k => ?_) fun h3 f3 => ⟨_, _, rfl, H h3 (Ext.trans (Ext.trans f1 f2) f3)⟩
  · have : x = P1 := by simpa using hx
    subst this
    exact ⟨by unfold I64 P1; omega, by decide⟩
  exact K1375c N ones_val fun h'' f => k h'' _ f
/-- Added from the first one on. -/
def leftP (l : List Int) : Int := l.foldl (fun s x => addP s (nrm x)) 0
theorem leftP_take {l : List Int} {j : Nat} (hj : j < l.length) : leftP (l.take (j + 1)) = addP (leftP (l.take j)) (nrm l[j]) := by
  unfold leftP
  rw [List.take_add_one, List.foldl_append, List.getElem?_eq_getElem hj]
  rfl
/-- sums.left. -/
theorem K1377 {e n c : Nat} {l : List Int} (A : FlsA h e l) (hi : ∀ x ∈ l, I64 x) (hn : l.length = n) (hl : n ≤ 4611686018427387904) (H : ∀ w, WI w (leftP l) → R (.returned (.float .f64 w)) h) :
    Ent Tryz.prog B 33 #[.slice (some ⟨e, 0, none⟩) n c] R h := by
  obtain ⟨cs, oc, hs, hc⟩ := A
  refine F1377_ok _ _ _ ⟨fun m vs h' => match vs with
    | [.slice p1 n1 c1, .float _ s, .int _ nn, .int _ i] => p1 = some (⟨e, 0, none⟩ : Addr) ∧ n = n1 ∧ nn = (n : Int) ∧ h = h' ∧ ∃ j : Nat, i = (j : Int) ∧ j ≤ n ∧ m = n - j ∧ WI s (leftP (l.take j))
    | _ => False, n, ⟨rfl, rfl, rfl, rfl, 0, rfl, by omega, rfl, wi_zero⟩, ?_⟩
  rintro m h' _ _ _ s _ _ ⟨rfl, rfl, rfl, rfl, j, rfl, hj, rfl, W⟩ _
  refine ⟨fun e2 => ?_, fun e2 => ?_⟩
  · have hjl : j < l.length := by have := of_decide_eq_true e2; omega
    have hcell : cell? h ⟨e, 0 + (j : Int).toNat * 1, none⟩ = some (.float .f64 (wd l[j])) := by
      rw [Int.toNat_natCast, Nat.mul_one, Nat.zero_add]
      exact (oc.cell _).trans (hc j hjl)
    refine ⟨e, 0, rfl, by omega, by omega, e, _, rfl, wd l[j], hcell, WI.add W (wi_wd (hi _ (List.getElem_mem hjl))) fun z hz => ⟨n - (j + 1), by omega, rfl, rfl, rfl, rfl, j + 1, ?_, by omega, rfl, ?_⟩⟩
    · rw [i64_in (x := (j : Int) + 1) (by omega) (by omega)]; omega
    · rw [leftP_take hjl]; exact hz
  · have hjn : j = n := by have := of_decide_eq_false e2; omega
    rw [hjn, List.take_of_length_le (by omega)] at W
    exact H s W
/-- sums.Left. -/
theorem K1368 {p : Option Addr} {n c : Nat} {l : List Int} (I : IntsH h p l) (hn : l.length = n) (hl : n ≤ 100000) (H : ∀ h', Ext h h' → R (.returned (.int .i64 (leftP l))) h') :
    Ent Tryz.prog B 9 #[.slice p n c] R h := by
  refine F1368_ok _ _ _ (K1366 (φ := id) I hn hl (fun x h' _ k => K54 k) fun e2 h2 f2 l2 A => ⟨_, _, _, rfl, ?_⟩)
  rw [List.map_id] at A
  exact K1377 A I.1 hn (by omega) fun w W => ⟨_, rfl, K56 W ⟨_, rfl, H h2 f2⟩⟩
abbrev PTwo : Int := 4611686018427387904
theorem sum_ones : sumV 0 [P1, P1] = PTwo := by decide +kernel
theorem left_ones : leftP [P1, P1] = PTwo := by decide +kernel
/-- plumblaw5.alive. -/
theorem K1361 (ht : TabH h) (H : ∀ h', Ext h h' → R (.returned (.bool true)) h') : Ent Tryz.prog B 8 #[] R h := by
  have i1 : I64 P1 := by unfold I64 P1; omega
  have fin : ∀ x ∈ [P1, P1], isFin x = true := fun x hx => by
    have : x = P1 := by simpa using hx
    subst this; decide
  refine F1361_ok (alK fun r1 h1 e1 f1 o1 z1 => ?_)
  refine K1360 (ht.fr f1 id) (intsO o1 i1) rfl (by decide) fin (by decide) (by decide) fun h2 f2 => ⟨_, _, rfl, alK fun r3 h3 e3 f3 o3 z3 => alK fun r4 h4 e4 f4 o4 z4 => ?_⟩
  rw [sum_ones]
  have T4 : TabH h4 := ht.fr (Ext.trans (Ext.trans (Ext.trans f1 f2) f3) f4) id
  refine K1363 T4 ((intsO o3 i1).ext f4) (intsO o4 i1) rfl (by decide) fin (by decide) (by decide) fun h5 f5 => ⟨_, _, rfl, alK fun r6 h6 e6 f6 o6 z6 => ?_⟩
  rw [sum_ones]
  refine K1367c (T4.fr (Ext.trans f5 f6) id) o6 fun h7 f7 => ⟨_, _, rfl, ?_⟩
  have F7 : Ext h h7 := Ext.trans (Ext.trans (Ext.trans (Ext.trans (Ext.trans f1 f2) f3) f4) (Ext.trans f5 f6)) f7
  have last : F1361_j57 B R P1 PTwo true h7 := by
    refine ⟨fun _ => alK fun r8 h8 e8 f8 o8 z8 => K1368 (intsO o8 i1) rfl (by decide) fun h9 f9 => ⟨_, rfl, ?_⟩, fun e => (by cases e)⟩
    rw [left_ones]
    exact H h9 (Ext.trans (Ext.trans F7 f8) f9)
  refine ⟨fun _ => ⟨fun _ => ⟨fun _ => ⟨fun _ => ⟨fun _ => last, fun e => absurd e (by decide)⟩, fun e => absurd e (by decide)⟩, fun e => absurd e (by decide)⟩, fun e => absurd e (by decide)⟩, fun e => absurd e (by decide)⟩
end Go.Proofs
set_option linter.unusedVariables false
/-! plumblaw5.SumsOrders. -/
namespace Go.Proofs
open Go Go.Eng
variable {B : World} {R : Ending → Heap → Prop} {h : Heap}
theorem way_in (x : Int) : ∃ w : Int, bitsI .and .i64 x (3 : Int) = w ∧ 0 ≤ w ∧ w < 4 := by
  have e := and_i64 (x := x) (m := 3) (by decide)
  have : (x % 18446744073709551616).toNat &&& 3 ≤ 3 := Nat.and_le_right
  exact ⟨_, e, by omega, by omega⟩
end Go.Proofs
set_option linter.unusedVariables false
/-! sums.total.add and sums.met of any floats; sums.summed of any list. -/
namespace Go.Proofs
open Go Go.Eng
variable {B : World} {R : Ending → Heap → Prop} {h : Heap}
theorem j9_out {r : OA} {a b : Int} {t : Bool} (ia : I64 a) (ib : I64 b) (ht : (t || isNaN a || isNaN b) = true) (H : R (.returned (.tuple #[])) h) : F1371_j9 B R r (wd a) (wd b) t h := by
  have hs : (FloatKind.f64.format.order (wd a) (wd a) != some .eq) = isNaN (sg (wd a)) := order_self (wd_lt _)
  have hb : (FloatKind.f64.format.order (wd b) (wd b) != some .eq) = isNaN (sg (wd b)) := order_self (wd_lt _)
  rw [sg_wd ia] at hs
  rw [sg_wd ib] at hb
  have j15 : ∀ w1 : Bool, (w1 || isNaN b) = true → F1371_j15 B R r (wd a) (wd b) w1 h := fun w1 hw => ⟨fun e => ⟨fun _ => H, fun e => (by cases e)⟩, fun e => ⟨fun _ => H, fun e2 => by
    rw [hb] at e2
    rw [e, e2] at hw
    cases hw⟩⟩
  refine ⟨fun e => j15 true rfl, fun e => j15 _ ?_⟩
  rw [e, Bool.false_or] at ht
  rw [hs]
  exact ht
/-- sums.total.add, where one of both is not finite. -/
theorem K1371n {r : OA} {a b : Int} {y : Nat} (ia : I64 a) (ib : I64 b) (hy : y = wd b) (hf : (isFin a && isFin b) = false) (H : R (.returned (.tuple #[])) h) : Ent Tryz.prog B 39 #[.pointer r, .float .f64 (wd a), .float .f64 y] R h := by
  subst hy
  refine F1371_ok _ _ _ (K118 (wd_lt _) ⟨_, rfl, ?_⟩)
  rw [sg_wd ia]
  refine ⟨fun e => j9_out ia ib (by simp) H, fun e => K118 (wd_lt _) ⟨_, rfl, ?_⟩⟩
  rw [sg_wd ib]
  refine j9_out ia ib ?_ H
  rw [fin_eq, fin_eq, e] at hf
  cases h1 : isNaN a <;> cases h2 : isNaN b <;> cases h3 : isInf b <;> rw [h1, h2, h3] at hf <;> simp at hf ⊢
/-- nat.lsh by 0, where it is. -/
theorem K173z {px : Option Addr} {n xc vx : Nat} {S : Nat → Prop} (hz : Dst h px xc S) (hx : NatI h px n vx) (hxc : n ≤ xc) (h0 : 0 < vx) (H : NatK R h S vx) :
    Ent Tryz.prog B 102 #[.slice px n xc, .slice px n xc, .int .u64 (0 : Int)] R h := by
  obtain ⟨ws, s1, s2, s3, s4, s5⟩ := hx.ex
  rcases s1 with e | ⟨b, o, cs, hp, O, g⟩
  · subst e; simp [val] at s5; omega
  have hn : 0 < n := by
    rcases Nat.eq_zero_or_pos n with k | k
    · have : ws = [] := List.length_eq_zero_iff.1 (by omega)
      subst this; simp [val] at s5; omega
    · exact k
  have hK := H px n xc h Fr.rfl' hxc hx (hz.mono fun b hb => .inl hb)
  refine F173_ok _ _ _ _ _ _ _ ⟨fun _ => F199_ok _ _ _ _ _ _ ⟨fun _ => ⟨fun _ => ?_, fun e => absurd (of_decide_eq_false e) (by omega)⟩, fun e => absurd rfl (of_decide_eq_false e)⟩, fun e => absurd e (by decide)⟩
  refine ⟨b, o, hp, by decide, by omega, b, o, hp, by decide, by omega, .inr (.inr ⟨b, _, b, _, rfl, rfl, .inl ⟨rfl, ?_⟩⟩)⟩
  rw [decide_eq_true rfl]
  exact ⟨_, rfl, fun _ => hK, fun e => (by cases e)⟩
/-- Lsh where it is, by 0 too (of what is not 0). -/
theorem K128a {r q s : Nat} {v : Int} (hx : IntAt h r q v) (hb : bl v.natAbs ≤ 1000000) (h0 : 0 < s ∨ v ≠ 0) (hs : s < 4294967296) (H : IntK R h r (Rm r q) (v * 2 ^ s)) :
    Ent Tryz.prog B 68 #[.pointer (some ⟨r, 0, none⟩), .pointer (some ⟨r, 0, none⟩), .int .u64 (s : Int)] R h := by
  rcases Nat.eq_zero_or_pos s with e | e
  · subst e
    rw [Int.pow_zero, Int.mul_one] at H
    obtain ⟨p, n, c, h1, h2, h3, h4⟩ := hx.ex
    have hl := h2.len hb
    refine F128_ok _ _ _ (ldS h1 (ldS h1 (K173z h4 h2 h3 (by omega) fun p' n' c' h' f1 f2 f3 f4 => ⟨_, _, _, rfl, ?_⟩)))
    refine stS (h1.fr f1 rm_ne) fun h2' o2 fr2 => ldB o2 (stB o2 fun h3' o3 fr3 => ?_)
    exact intEnd f1 (Fr.trans fr2 fr3 fun _ _ e => e) h1.lt rm_ne f2 f3 f4 o3 rfl H
  · exact K128i hx hb e hs H
theorem cancel2 {x y : Int} {k : Nat} (h : x * ((2 ^ k : Nat) : Int) = y * ((2 ^ k : Nat) : Int)) : x = y := by
  have hp : 0 < 2 ^ k := Nat.pow_pos (by decide)
  exact Int.eq_of_mul_eq_mul_right (by omega) h
/-- The product of two floats in units of 2^-2148. -/
theorem mul_val {a b : Int} (ia : I64 a) (fa : isFin a = true) (ib : I64 b) (fb : isFin b = true) :
    (0 ≤ prE a + prE b + 2148 → prM a * prM b * 2 ^ (prE a + prE b + 2148).toNat = fV a * fV b) ∧
    (prE a + prE b + 2148 < 0 → prM a * prM b = fV a * fV b * ((2 ^ (-(prE a + prE b + 2148)).toNat : Nat) : Int)) := by
  obtain ⟨va, p1, p2, _, _⟩ := pr_val ia fa
  obtain ⟨vb, q1, q2, _, _⟩ := pr_val ib fb
  have e104 : (4503599627370496 : Int) * 4503599627370496 = ((2 ^ 104 : Nat) : Int) := by decide
  have hprod : fV a * fV b * ((2 ^ 104 : Nat) : Int) = prM a * prM b * ((2 ^ ((prE a + 1126).toNat + (prE b + 1126).toNat) : Nat) : Int) := by
    rw [← e104, Nat.pow_add, Int.natCast_mul]
    have : fV a * fV b * (4503599627370496 * 4503599627370496) = (fV a * 4503599627370496) * (fV b * 4503599627370496) := by ac_rfl
    rw [this, va, vb]
    ac_rfl
  refine ⟨fun hk => ?_, fun hk => ?_⟩
  · refine cancel2 (k := 104) ?_
    have h1 : (2 : Int) ^ (prE a + prE b + 2148).toNat = ((2 ^ (prE a + prE b + 2148).toNat : Nat) : Int) := by rw [Int.natCast_pow]; rfl
    obtain ⟨L, hL⟩ : ∃ L, L = 104 := ⟨_, rfl⟩
    rw [hprod, h1]
    rw [← hL]
    have e3 : (prE a + 1126).toNat + (prE b + 1126).toNat = (prE a + prE b + 2148).toNat + L := by omega
    rw [e3, Nat.pow_add, Int.natCast_mul]
    generalize prM a * prM b = P
    rw [Int.mul_assoc]
  · obtain ⟨j, hj⟩ : ∃ j : Nat, prE a + prE b + 2148 = -(j : Int) := ⟨(-(prE a + prE b + 2148)).toNat, by omega⟩
    have e1 : (-(prE a + prE b + 2148)).toNat = j := by omega
    have e2 : (prE a + 1126).toNat + (prE b + 1126).toNat = 104 - j := by omega
    rw [e1]
    rw [e2] at hprod
    refine cancel2 (k := 104 - j) ?_
    rw [← hprod]
    generalize fV a * fV b = P
    obtain ⟨L, hL⟩ : ∃ L, L = 104 := ⟨_, rfl⟩
    rw [← hL, Int.mul_assoc, ← Int.natCast_mul, ← Nat.pow_add, show j + (L - j) = L by omega]
/-- sums.total.add, of finite floats whose product is not below 0. -/
theorem K1371q {r q : Nat} {N a b : Int} (T : IntAt h r q N) (ia : I64 a) (fa : isFin a = true) (ib : I64 b) (fb : isFin b = true) (hb : bl N.natAbs ≤ 10000) (hpos : 0 ≤ fV a * fV b)
    (H : ∀ q' h', Fr (fun b => b = r ∨ Rm r q b) h h' → (q' = r ∨ q' = q ∨ h.size ≤ q') → IntAt h' r q' (N + fV a * fV b) → R (.returned (.tuple #[])) h') :
    Ent Tryz.prog B 39 #[.pointer (some ⟨r, 0, none⟩), .float .f64 (wd a), .float .f64 (wd b)] R h := by
  obtain ⟨_, p1, p2, p3, p4⟩ := pr_val ia fa
  obtain ⟨_, q1, q2, q3, q4⟩ := pr_val ib fb
  obtain ⟨v1, v2⟩ := mul_val ia fa ib fb
  refine F1371_ok _ _ _ (K118 (wd_lt _) ⟨_, rfl, ?_⟩)
  rw [sg_wd ia, (fin_not fa).2]
  refine ⟨fun e => (by cases e), fun _ => K118 (wd_lt _) ⟨_, rfl, ?_⟩⟩
  rw [sg_wd ib, (fin_not fb).2]
  refine ⟨fun e => (by cases e), fun _ => ?_⟩
  have hs : (FloatKind.f64.format.order (wd a) (wd a) != some .eq) = isNaN (sg (wd a)) := order_self (wd_lt _)
  have hs1 : (FloatKind.f64.format.order (wd b) (wd b) != some .eq) = isNaN (sg (wd b)) := order_self (wd_lt _)
  rw [hs, sg_wd ia, (fin_not fa).1]
  refine ⟨fun e => (by cases e), fun _ => ?_⟩
  rw [hs1, sg_wd ib, (fin_not fb).1]
  refine ⟨fun e => (by cases e), fun _ => ?_⟩
  refine K1378 ia fa ⟨_, _, rfl, K1378 ib fb ⟨_, _, rfl, alK fun d g1 ed fd od zd => K120 (by omega) (by omega) fun r2 q2 h2 f2 l1 l2 l3 I2 => ⟨_, rfl, K120 (by omega) (by omega) fun r3 q3 h3 f3 m1 m2 m3 I3 => ⟨_, rfl, ?_⟩⟩⟩⟩
  have ld := od.lt
  have lr := T.lt
  have lq := T.lq
  have bM : ∀ {x : Int}, -9007199254740992 < x → x < 9007199254740992 → bl x.natAbs ≤ 53 := fun {x} h1 h2 => bl_of_lt (a := 53) (by rw [show (2 : Nat) ^ 53 = 9007199254740992 by decide]; omega) (by decide)
  have bA := bM p3 p4
  have bB := bM (show -9007199254740992 < prM b by omega) (show prM b < 9007199254740992 by omega)
  refine K131f ((od.ext f2).ext f3) (I2.ext f3) I3 (by omega) (by omega) (by omega) (by omega) (by omega) (.inl (by omega)) fun q4 h4 f4 d4 I4 => ⟨_, rfl, ?_⟩
  have hq4 : q4 = d ∨ h3.size ≤ q4 := by rcases d4 with e | e | e; exact .inl e; exact e.elim; exact .inr e
  rw [i64_in (x := prE a + prE b) (by omega) (by omega), i64_in (x := prE a + prE b - -2148) (by omega) (by omega)]
  have bP : bl (prM a * prM b).natAbs ≤ 106 := bl_mul bA bB
  have s1 := fd.size
  have s2 := f2.size
  have s3 := f3.size
  have s4 := f4.size
  have E3 : Ext h h3 := Ext.trans (Ext.trans fd f2) f3
  have n4 : ∀ x, x < h.size → ¬ (x = d ∨ False) := fun x hx e => by rcases e with e | e; omega; exact e
  have n5 : ∀ x, x < h.size → ¬ (x = d ∨ Rm d q4 x) := fun x hx e => by
    rcases e with e | e
    · omega
    · have := e.1; omega
  have fin : ∀ {q5 h5}, Fr (fun x => x = d ∨ Rm d q4 x) h4 h5 → IntAt h5 d q5 (fV a * fV b) → (q5 = d ∨ q5 = q4 ∨ h4.size ≤ q5) → bl (fV a * fV b).natAbs ≤ 5000 → F1371_j8 B R (some ⟨r, 0, none⟩) (some ⟨d, 0, none⟩) h5 := fun {q5 h5} f5 I5 hq5 bV => by
    have E5 : Ext h h5 := Fr.trans (Fr.trans E3 f4 fun x hx e => n4 x hx e) f5 fun x hx e => n5 x hx e
    have T5 := T.ext E5
    refine ⟨r, 0, rfl, r, 0, rfl, r, 0, rfl, r, 0, rfl, K127i T5 I5 (by omega) (by omega) (by omega) fun q6 h6 f6 d6 I6 => ⟨_, rfl, ?_⟩⟩
    refine H q6 h6 (Fr.trans E5.to f6 fun x hx e => e) ?_ I6
    have s5 := E5.size
    rcases d6 with e | e | e
    · exact .inl e
    · exact .inr (.inl e.1)
    · exact .inr (.inr (by omega))
  refine ⟨fun e => ?_, fun e => ?_⟩
  · obtain ⟨k, hk⟩ : ∃ k : Nat, prE a + prE b - -2148 = (k : Int) := ⟨(prE a + prE b + 2148).toNat, by have := of_decide_eq_true e; omega⟩
    have hv := v1 (by omega)
    have hk0 : 0 < k ∨ prM a * prM b ≠ 0 := by
      rcases Nat.eq_zero_or_pos k with z | z
      · right
        intro hz
        have hz2 : fV a * fV b = 0 := by rw [← hv, hz, Int.zero_mul]
        rcases Int.mul_eq_zero.1 hz2 with z1 | z1
        · have : prE a = -53 := by unfold prE; rw [if_pos z1]
          omega
        · have : prE b = -53 := by unfold prE; rw [if_pos z1]
          omega
      · exact .inl z
    have hk2 : (prE a + prE b + 2148).toNat = k := by omega
    rw [hk2] at hv
    rw [hk, wrap_u64_nat, Nat.mod_eq_of_lt (by omega)]
    refine K128a (s := k) I4 (by omega) hk0 (by omega) fun q5 h5 f5 d5 I5 => ⟨_, rfl, ?_⟩
    rw [hv] at I5
    refine fin f5 I5 (by rcases d5 with e | e | e; exact .inl e; exact .inr (.inl e.1); exact .inr (.inr e)) ?_
    rw [← hv]
    have := bl_sc (k := k) bP
    omega
  · obtain ⟨k, hk⟩ : ∃ k : Nat, prE a + prE b - -2148 = -(k : Int) := ⟨(-(prE a + prE b + 2148)).toNat, by have := of_decide_eq_false e; omega⟩
    have hv := v2 (by have := of_decide_eq_false e; omega)
    have hk0 : 0 < k := by have := of_decide_eq_false e; omega
    have hk2 : (-(prE a + prE b + 2148)).toNat = k := by omega
    rw [hk2] at hv
    have w0 : IntKind.i64.wrap (0 - -(k : Int)) = (k : Int) := by rw [i64_in (by omega) (by omega)]; omega
    rw [hk, w0, wrap_u64_nat, Nat.mod_eq_of_lt (by omega)]
    obtain ⟨v, hV⟩ : ∃ v : Nat, fV a * fV b = (v : Int) := ⟨(fV a * fV b).toNat, by omega⟩
    rw [hV] at hv
    rw [← Int.natCast_mul] at hv
    rw [hv] at I4 bP
    rw [Int.natAbs_natCast] at bP
    have hv0 : 0 < v * 2 ^ k := by
      rcases Nat.eq_zero_or_pos v with z | z
      · exfalso
        have hz : fV a * fV b = 0 := by rw [hV, z]; rfl
        rcases Int.mul_eq_zero.1 hz with z1 | z1
        · have : prE a = -53 := by unfold prE; rw [if_pos z1]
          omega
        · have : prE b = -53 := by unfold prE; rw [if_pos z1]
          omega
      · exact Nat.mul_pos z (Nat.pow_pos (by decide))
    refine K122a (s := k) I4 (by omega) hv0 (by omega) fun q5 h5 f5 d5 I5 => ⟨_, rfl, ?_⟩
    rw [Nat.mul_div_cancel _ (Nat.pow_pos (by decide)), ← hV] at I5
    refine fin f5 I5 (by rcases d5 with e | e | e; exact .inl e; exact .inr (.inl e.1); exact .inr (.inr e)) ?_
    rw [hV, Int.natAbs_natCast]
    have h1 : v ≤ v * 2 ^ k := Nat.le_mul_of_pos_right _ (Nat.pow_pos (by decide))
    exact bl_of_lt (a := 106) (Nat.lt_of_le_of_lt h1 (bl_le_iff.1 bP)) (by decide)
end Go.Proofs
set_option linter.unusedVariables false
/-! A list of structs that is being made; plumblaw5.total. -/
namespace Go.Eng
open Go
/-- A list of rows of w values that is being made, in blocks that g has not. -/
structure Lw (w : Nat) (g h : Heap) (p : Option Addr) (n c : Nat) (vs : List Value) : Prop where
  sl : vs = [] ∨ ∃ b o cs, p = some ⟨b, o, none⟩ ∧ Own h b cs ∧ ∀ i (hi : i < vs.length), cs[o + i]? = some vs[i]
  len : vs.length = n * w
  room : c = 0 ∨ ∃ b o cs, p = some ⟨b, o, none⟩ ∧ Own h b cs ∧ o + c * w ≤ cs.size ∧ g.size ≤ b
  le : n ≤ c
  pt : Pt p
theorem Lw.nil {w : Nat} {g h : Heap} : Lw w g h none 0 0 [] := ⟨.inl rfl, by simp, .inl rfl, Nat.le_refl _, .inl rfl⟩
theorem Lw.ext {w : Nat} {g h h' : Heap} {p : Option Addr} {n c : Nat} {vs : List Value} (L : Lw w g h p n c vs) (f : Ext h h') : Lw w g h' p n c vs := by
  refine ⟨?_, L.len, ?_, L.le, L.pt⟩
  · rcases L.sl with k | ⟨b, o, cs, a1, a2, a3⟩
    · exact .inl k
    · exact .inr ⟨b, o, cs, a1, a2.ext f, a3⟩
  · rcases L.room with k | ⟨b, o, cs, a1, a2, a3⟩
    · exact .inl k
    · exact .inr ⟨b, o, cs, a1, a2.ext f, a3⟩
end Go.Eng
namespace Go.Proofs
open Go Go.Eng
variable {B : World} {R : Ending → Heap → Prop} {h : Heap}
theorem NumS.lt {K : Nat} {neg : Bool} {p : Option Addr} {n : Nat} {e v : Int} (N : NumS K h neg p n e v) (hn : 0 < n) : ∀ b o, p = some ⟨b, o, none⟩ → b < h.size := by
  obtain ⟨M, N1, _⟩ := N
  intro b o hp
  rcases N1.d.sl with k | ⟨b', o', cs, e1, e2, _⟩
  · have := N1.d.len; rw [k] at this; simp at this; omega
  · rw [hp] at e1; cases e1; exact e2.lt
theorem NumS.fr2 {K : Nat} {h' : Heap} {neg : Bool} {p : Option Addr} {n : Nat} {e v : Int} {S : Nat → Prop} (H : NumS K h neg p n e v) (f : Fr S h h') (hp : 0 < n → ∀ b o, p = some ⟨b, o, none⟩ → ¬ S b) : NumS K h' neg p n e v := by
  rcases Nat.eq_zero_or_pos n with a | a
  · obtain ⟨M, N1, N2⟩ := H
    have hd : digs B30 M = [] := List.eq_nil_of_length_eq_zero (by rw [N1.d.len, a])
    refine ⟨M, ⟨⟨N1.d.pt, .inl hd, N1.d.len, N1.d.dig, N1.d.trim⟩, N1.le, N1.zero, N1.pos⟩, N2⟩
  · exact H.fr f (hp a)
end Go.Proofs
