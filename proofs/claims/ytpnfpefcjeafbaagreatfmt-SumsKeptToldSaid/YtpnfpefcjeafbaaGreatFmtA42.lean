import Derived.Test.YtpnfpefcjeafbaaGreatFmtA41
/- Here stand lemmas and contracts, in the order in which they are used. -/
set_option linter.unusedVariables false
set_option linter.unusedVariables false
/-! round.rounded by any function; sums.Sum32, sums.Left; plumblaw5.alive. -/
namespace Go.Proofs
open Go Go.Eng
variable {B : World} {R : Ending → Heap → Prop} {h : Heap}
def RndG (f : Nat) (lost w : Int) (b p1 u : Nat) (wv : Value) (e M : Int) (h v0 : Heap) (m : Nat) (l : List Value) (h' : Heap) : Prop :=
  match l with
  | [i, j, .int _ k, .pointer d, .slice a an ac, .slice s sn sc, .int _ nn, .int _ ii] =>
    i = .func (.func 49) #[] #[] ∧ j = .func (.func f) #[] #[] ∧ k = lost ∧ d = some (⟨p1, 0, none⟩ : Addr) ∧ a = some (⟨u, 0, none⟩ : Addr) ∧ an = 1 ∧ s = some (⟨b, 0, none⟩ : Addr) ∧ sn = 1 ∧ nn = 1 ∧
    ((ii = 0 ∧ m = 1 ∧ h' = v0) ∨ (ii = 1 ∧ m = 0 ∧ Ext h h' ∧ ∃ r q, Own h' u #[.pointer (some ⟨r, 0, none⟩), .int .i64 e, .bool false] ∧ IntAt h' r q M ∧ Own h' p1 #[wv] ∧ WayV h' w.toNat wv))
  | _ => False
/-- round.rounded, of one number as it is, by any function that tells its float. -/
theorem K1055g {f : Nat} {lost : Int} {b c : Nat} {neg : Bool} {p : Option Addr} {n cc : Nat} {e w V : Int} {X : Bool} {ds : List Nat} (Ob : Own h b #[.bool neg, .slice p n cc, .int .i64 e]) (N : NumI h neg p n e ds) (h0 : 0 ≤ w) (h4 : w < 4)
    (Hto : ∀ {R' : Ending → Heap → Prop} {h' : Heap} {r q : Nat} {wv : Value}, Ext h h' → WayV h' w.toNat wv → oneCell wv = true → IntAt h' r q (if neg then -(val B30 ds : Int) else (val B30 ds : Int)) → (∀ h'', Ext h' h'' → R' (.returned (.tuple #[.int .i64 V, .bool X])) h'') →
      Ent Tryz.prog B f #[.agg #[.pointer (some ⟨r, 0, none⟩), .int .i64 e, .bool false], .agg #[wv]] R' h')
    (H : ∀ h', Ext h h' → R (.returned (.tuple #[.int .i64 (if V = lost then 0 else V), .bool X, .int .i64 (0 : Int)])) h') :
    Ent Tryz.prog B 48 #[.int .i64 w, .slice (some ⟨b, 0, none⟩) 1 c, .func (.func 49) #[] #[], .func (.func f) #[] #[], .int .i64 lost] R h := by
  generalize hM : (if neg then -(val B30 ds : Int) else (val B30 ds : Int)) = M at *
  refine F1055_ok _ _ _ _ _ _ _ (K1076 h0 h4 fun wv h1 f1 W1 hone => ⟨_, _, rfl, alK fun r2 h2 e2 f2 o2 z2 => ⟨r2, 0, rfl, o2.stC (by simp) hone fun oa fa => ?_⟩⟩)
  generalize setCell h2 _ _ = h3 at *
  have oa : Own h3 r2 #[wv] := oa
  have F3 : Ext h h3 := Fr.trans (Ext.trans f1 f2) fa fun x hx e => by have := f1.size; omega
  have W3 : WayV h3 w.toNat wv := W1.ext (Fr.trans f2 fa fun x hx e => by omega)
  refine ⟨fun e => (by cases e), fun _ => ⟨by decide, by decide, by decide, by decide, alK fun r4 h5 e4 f4 o4 z4 => ?_⟩⟩
  have o4 : Own h5 r4 #[.pointer none, .int .i64 0, .bool false] := by rw [mk3] at o4; exact o4
  have F5 := Ext.trans F3 f4
  have oa5 := oa.ext f4
  have W5 := W3.ext f4
  have Ob5 := Ob.ext F5
  have lb := Ob.lt
  have s3 := F3.size
  have lp := oa.lt
  refine ⟨RndG f lost w b r2 r4 wv e M h h5, 1, ⟨rfl, rfl, rfl, rfl, rfl, rfl, rfl, rfl, rfl, .inl ⟨rfl, rfl, rfl⟩⟩, ?_⟩
  rintro m g _ _ _ _ _ _ _ _ _ _ _ _ ⟨rfl, rfl, rfl, rfl, rfl, rfl, rfl, rfl, rfl, hc⟩ _
  rcases hc with ⟨rfl, rfl, rfl⟩ | ⟨rfl, rfl, Fg, r, q, Og, Ig, Op, Wg⟩
  · refine ⟨fun _ => ⟨b, 0, rfl, by decide, by decide, b, _, rfl, _, Ob5.cell _, _, _, _, Ob5.cell _, _, Ob5.cell _, ?_⟩, fun e => by simp at e⟩
    refine alK fun r6 h7 e6 f6 o6 z6 => ⟨r6, 0, rfl, o6.stC (by simp) rfl fun oq fq => oq.stC (by simp) rfl fun or fr => or.stC (by simp) rfl fun os fs => ?_⟩
    have fqs := Fr.trans (S := fun x => x = r6) (Fr.trans (S := fun x => x = r6) fq fr fun _ _ e => e) fs fun _ _ e => e
    generalize setCell (setCell (setCell h7 _ _) _ _) _ _ = h8 at *
    have os : Own h8 r6 #[.bool neg, .slice p n cc, .int .i64 e] := os
    have E8 : Ext g h8 := Fr.trans f6 fqs fun x hx e => by omega
    have N8 := (N.ext F5).ext E8
    refine ⟨r6, 0, rfl, _, os.cell _, _, _, _, os.cell _, _, os.cell _, K129 N8 fun h9 f9 => ⟨_, rfl, fun e => (by cases e), fun _ => ?_⟩⟩
    have os9 := os.ext f9
    have E9 := Ext.trans E8 f9
    refine ⟨r6, 0, rfl, _, os9.cell _, _, _, _, os9.cell _, _, os9.cell _, K1077 (N8.ext f9).d (by have := N.le; omega) fun r q h10 f10 lr lq I10 => ⟨_, _, _, rfl, ?_⟩⟩
    rw [hM] at I10
    have E10 := Ext.trans E9 f10
    refine ⟨r4, 0, rfl, by decide, by decide, r4, _, rfl, (o4.ext E10).stC (by simp) rfl fun ox fx => ox.stC (by simp) rfl fun oy fy => oy.stC (by simp) rfl fun oz fz => ?_⟩
    have fxz := Fr.trans (S := fun x => x = r4) (Fr.trans (S := fun x => x = r4) fx fy fun _ _ e => e) fz fun _ _ e => e
    have l4 := o4.lt
    have s9 := E9.size
    have E11 : Ext h _ := Fr.trans (Ext.trans F5 E10) fxz fun x hx e => by omega
    refine ⟨0, by omega, rfl, rfl, rfl, rfl, rfl, rfl, rfl, rfl, rfl, .inr ⟨rfl, rfl, E11, r, q, oz, I10.fr fxz (by omega) (by omega), (oa5.ext E10).fr fxz (by omega), ?_⟩⟩
    exact W3.ext (Fr.trans (Ext.trans f4 E10) fxz fun x hx e => by omega)
  · refine ⟨fun e => by simp at e, fun _ => ev0 (K1056 Og fun h2 f2 => ⟨_, _, _, _, rfl, ?_⟩)⟩
    refine alK fun r6 h7 e6 f6 o6 z6 => ⟨r6, 0, rfl, o6.stC (by simp) rfl fun oq fq => oq.stC (by simp) rfl fun or fr => or.stC (by simp) rfl fun os fs => ?_⟩
    have fqs := Fr.trans (S := fun x => x = r6) (Fr.trans (S := fun x => x = r6) fq fr fun _ _ e => e) fs fun _ _ e => e
    generalize setCell (setCell (setCell h7 _ _) _ _) _ _ = h8 at *
    have os : Own h8 r6 #[.pointer (some ⟨r, 0, none⟩), .int .i64 e, .bool false] := os
    have E8 : Ext g h8 := Fr.trans (Ext.trans f2 f6) fqs fun x hx e => by have := f2.size; omega
    refine ⟨fun e => (by cases e), fun _ => ⟨r6, 0, rfl, _, os.cell _, _, os.cell _, _, os.cell _, r2, 0, rfl, _, (Op.ext E8).cell _, ?_⟩⟩
    refine ev0 (Hto (Ext.trans Fg E8) (Wg.ext E8) hone (Ig.ext E8) fun h9 f9 => ⟨_, _, rfl, ?_⟩)
    have HH := H h9 (Ext.trans (Ext.trans Fg E8) f9)
    refine ⟨fun e => ?_, fun e => ?_⟩
    · rw [if_pos (of_decide_eq_true e)] at HH; exact HH
    · rw [if_neg (of_decide_eq_false e)] at HH; exact HH
theorem odd_pow {M s t : Nat} (ho : M % 2 = 1) (h : M * 2 ^ s = 2 ^ t) : M = 1 ∧ s = t := by
  have hs : 0 < 2 ^ s := Nat.pow_pos (by decide)
  rcases Nat.lt_or_ge t s with a | a
  · have h1 : 2 ^ s = 2 ^ t * 2 ^ (s - t) := by rw [← Nat.pow_add]; congr 1; omega
    have h2 : 2 ^ 1 ≤ 2 ^ (s - t) := Nat.pow_le_pow_right (by decide) (by omega)
    have ht : 0 < 2 ^ t := Nat.pow_pos (by decide)
    rw [h1] at h
    have h3 : 1 * (2 ^ t * 2) ≤ M * (2 ^ t * 2 ^ (s - t)) := Nat.mul_le_mul (by omega) (Nat.mul_le_mul_left _ (by simpa using h2))
    omega
  · have h1 : 2 ^ t = 2 ^ (t - s) * 2 ^ s := by rw [← Nat.pow_add]; congr 1; omega
    rw [h1] at h
    have h2 := Nat.eq_of_mul_eq_mul_right hs h
    rcases Nat.eq_zero_or_pos (t - s) with b | b
    · rw [b] at h2; exact ⟨h2, by omega⟩
    · obtain ⟨k, hk⟩ := Nat.exists_eq_succ_of_ne_zero (Nat.ne_of_gt b)
      rw [hk, Nat.pow_succ] at h2
      omega
/-- The number 2 in units of 2^-2148. -/
theorem num_two {neg : Bool} {p : Option Addr} {n : Nat} {e v : Int} (N : NumS 2148 h neg p n e v) (hv : v = 2 * (UW : Int) * (UW : Int)) : neg = false ∧ e = 1 ∧ ∃ ds, NumI h neg p n e ds ∧ val B30 ds = 1 := by
  obtain ⟨M, N1, N2, N3⟩ := N
  obtain ⟨u, hu⟩ : ∃ u, u = 1074 := ⟨_, rfl⟩
  have hp : 0 < 2 ^ u := Nat.pow_pos (by decide)
  have e2 : v = ((2 ^ (u + u + 1) : Nat) : Int) := by
    rw [hv, uw_pow hu, Nat.pow_add, Nat.pow_add, Int.natCast_mul, Int.natCast_mul]
    generalize ((2 ^ u : Nat) : Int) = U
    rw [show ((2 ^ 1 : Nat) : Int) = 2 from rfl, Int.mul_comm (U * U) 2, Int.mul_assoc]
  have pv : 0 < 2 ^ (u + u + 1) := Nat.pow_pos (by decide)
  have hval := digs_val (b := B30) (by decide) M
  unfold Ieee.signed at N3
  rw [Nat.shiftLeft_eq] at N3
  cases neg with
  | true =>
    exfalso
    rw [e2] at N3
    simp only [if_true] at N3
    generalize 2 ^ (u + u + 1) = A at *
    generalize M * 2 ^ (e + (2148 : Nat)).toNat = C at *
    omega
  | false =>
    simp only [Bool.false_eq_true, if_false] at N3
    rw [e2] at N3
    have N3 := Int.ofNat_inj.1 N3
    have hn : 0 < n := by
      rcases Nat.eq_zero_or_pos n with a | a
      · have hl := N1.d.len
        rw [a] at hl
        have : M = 0 := by rw [← hval, List.eq_nil_of_length_eq_zero hl]; rfl
        rw [this, Nat.zero_mul] at N3; omega
      · exact a
    have ho := (N1.pos hn).1
    rw [hval] at ho
    obtain ⟨a, b⟩ := odd_pow ho N3.symm
    refine ⟨rfl, by omega, _, N1, by rw [hval]; exact a⟩
/-- round.To32 of 2. -/
theorem K1375c {neg : Bool} {p : Option Addr} {n c : Nat} {e v : Int} (N : NumS 2148 h neg p n e v) (hv : v = 2 * (UW : Int) * (UW : Int))
    (H : ∀ h', Ext h h' → R (.returned (.tuple #[.int .i64 (1073741824 : Int), .bool false, .int .i64 (0 : Int)])) h') :
    Ent Tryz.prog B 22 #[.agg #[.bool neg, .slice p n c, .int .i64 e], .int .i64 (0 : Int)] R h := by
  obtain ⟨rfl, rfl, ds, N1, hM⟩ := num_two N hv
  refine F1375_ok _ _ _ _ _ _ (alK fun r1 h1 e1 f1 o1 z1 => ⟨r1, 0, rfl, _, o1.cell _, _, _, _, o1.cell _, _, o1.cell _, alK fun r2 h2 e2 f2 o2 z2 => ?_⟩)
  refine K1055g (V := 1073741824) (X := false) o2 ((N1.ext f1).ext f2) (by decide) (by decide) (fun {R' h' r q wv} E W one I k => ?_) fun h3 f3 => ⟨_, _, _, rfl, H h3 (Ext.trans (Ext.trans f1 f2) f3)⟩
  rw [hM] at I
  exact K1333c one I k
/-- sums.wide of 1. -/
theorem K1374c (H : R (.returned (.float .f64 (wd P1))) h) : Ent Tryz.prog B 46 #[.int .i64 S1] R h :=
  F1374_ok _ (K1326c ⟨_, rfl, cv32 H⟩)
theorem intsO {b : Nat} {x : Int} (O : Own h b #[.int .i64 x, .int .i64 x]) (ix : I64 x) : IntsH h (some ⟨b, 0, none⟩) [x, x] := by
  refine ⟨fun y hy => ?_, .inr ⟨b, 0, rfl, O.lt, fun i hi => ?_⟩⟩
  · have : y = x := by simpa using hy
    subst this; exact ix
  · have : i = 0 ∨ i = 1 := by simp at hi; omega
    rcases this with rfl | rfl
    · exact (O.cell _).trans rfl
    · exact (O.cell _).trans rfl
theorem ones_val : sV ([S1, S1].map fun _ => P1) * (UW : Int) = 2 * (UW : Int) * (UW : Int) := by
  have h1 : fV P1 = (UW : Int) := p1_val
  show (fV P1 + (fV P1 + 0)) * (UW : Int) = _
  rw [h1, Int.add_zero]
  generalize (UW : Int) = U
  rw [show U + U = 2 * U by omega]
/-- sums.Sum32 of two ones. -/
theorem K1367c {b : Nat} (ht : TabH h) (O : Own h b #[.int .i64 S1, .int .i64 S1]) (H : ∀ h', Ext h h' → R (.returned (.tuple #[.int .i64 (1073741824 : Int), .int .i64 (0 : Int)])) h') :
    Ent Tryz.prog B 21 #[.slice (some ⟨b, 0, none⟩) 2 2, .int .i64 (0 : Int)] R h := by
  have I := intsO O (by unfold I64 S1; omega)
  refine F1367_ok _ _ _ _ (alK fun e h1 e1 f1 o1 z1 => K1364 o1 (by decide) (by decide) (by decide) ⟨_, rfl, fun e => absurd e (by decide), fun _ => ?_⟩)
  refine K1366 (φ := fun _ => P1) (I.ext f1) rfl (by omega) (fun x h' hx k => ?_) fun e2 h2 f2 l2 A => ⟨_, _, _, rfl, ?_⟩
  · have : x = S1 := by simpa using hx
    subst this
    exact K1374c k
  refine K1365 (v := 1073741824) ((ht.fr f1 id).fr f2 id) A rfl (by decide) (fun x hx => ?_) (fun {R' h' ng p n c e} E N k => ?_) fun h3 f3 => ⟨_, _, rfl, H h3 (Ext.trans (Ext.trans f1 f2) f3)⟩
  · have : x = P1 := by simpa using hx
    subst this
    exact ⟨by unfold I64 P1; omega, by decide⟩
  exact K1375c N ones_val fun h'' f => k h'' _ f
/-- Added from the first one on. -/
def leftP (l : List Int) : Int := l.foldl (fun s x => addP s (nrm x)) 0
theorem leftP_take {l : List Int} {j : Nat} (hj : j < l.length) : leftP (l.take (j + 1)) = addP (leftP (l.take j)) (nrm l[j]) := by
  unfold leftP
  rw [List.take_add_one, List.foldl_append, List.getElem?_eq_getElem hj]
  rfl
/-- sums.left. -/
theorem K1377 {e n c : Nat} {l : List Int} (A : FlsA h e l) (hi : ∀ x ∈ l, I64 x) (hn : l.length = n) (hl : n ≤ 4611686018427387904) (H : ∀ w, WI w (leftP l) → R (.returned (.float .f64 w)) h) :
    Ent Tryz.prog B 33 #[.slice (some ⟨e, 0, none⟩) n c] R h := by
  obtain ⟨cs, oc, hs, hc⟩ := A
  refine F1377_ok _ _ _ ⟨fun m vs h' => match vs with
    | [.slice p1 n1 c1, .float _ s, .int _ nn, .int _ i] => p1 = some (⟨e, 0, none⟩ : Addr) ∧ n = n1 ∧ nn = (n : Int) ∧ h = h' ∧ ∃ j : Nat, i = (j : Int) ∧ j ≤ n ∧ m = n - j ∧ WI s (leftP (l.take j))
    | _ => False, n, ⟨rfl, rfl, rfl, rfl, 0, rfl, by omega, rfl, wi_zero⟩, ?_⟩
  rintro m h' _ _ _ s _ _ ⟨rfl, rfl, rfl, rfl, j, rfl, hj, rfl, W⟩ _
  refine ⟨fun e2 => ?_, fun e2 => ?_⟩
  · have hjl : j < l.length := by have := of_decide_eq_true e2; omega
    have hcell : cell? h ⟨e, 0 + (j : Int).toNat * 1, none⟩ = some (.float .f64 (wd l[j])) := by
      rw [Int.toNat_natCast, Nat.mul_one, Nat.zero_add]
      exact (oc.cell _).trans (hc j hjl)
    refine ⟨e, 0, rfl, by omega, by omega, e, _, rfl, wd l[j], hcell, WI.add W (wi_wd (hi _ (List.getElem_mem hjl))) fun z hz => ⟨n - (j + 1), by omega, rfl, rfl, rfl, rfl, j + 1, ?_, by omega, rfl, ?_⟩⟩
    · rw [i64_in (x := (j : Int) + 1) (by omega) (by omega)]; omega
    · rw [leftP_take hjl]; exact hz
  · have hjn : j = n := by have := of_decide_eq_false e2; omega
    rw [hjn, List.take_of_length_le (by omega)] at W
    exact H s W
/-- sums.Left. -/
theorem K1368 {p : Option Addr} {n c : Nat} {l : List Int} (I : IntsH h p l) (hn : l.length = n) (hl : n ≤ 100000) (H : ∀ h', Ext h h' → R (.returned (.int .i64 (leftP l))) h') :
    Ent Tryz.prog B 9 #[.slice p n c] R h := by
  refine F1368_ok _ _ _ (K1366 (φ := id) I hn hl (fun x h' _ k => K54 k) fun e2 h2 f2 l2 A => ⟨_, _, _, rfl, ?_⟩)
  rw [List.map_id] at A
  exact K1377 A I.1 hn (by omega) fun w W => ⟨_, rfl, K56 W ⟨_, rfl, H h2 f2⟩⟩
abbrev PTwo : Int := 4611686018427387904
theorem sum_ones : sumV 0 [P1, P1] = PTwo := by decide +kernel
theorem left_ones : leftP [P1, P1] = PTwo := by decide +kernel
/-- plumblaw5.alive. -/
theorem K1361 (ht : TabH h) (H : ∀ h', Ext h h' → R (.returned (.bool true)) h') : Ent Tryz.prog B 8 #[] R h := by
  have i1 : I64 P1 := by unfold I64 P1; omega
  have fin : ∀ x ∈ [P1, P1], isFin x = true := fun x hx => by
    have : x = P1 := by simpa using hx
    subst this; decide
  refine F1361_ok (alK fun r1 h1 e1 f1 o1 z1 => ?_)
  refine K1360 (ht.fr f1 id) (intsO o1 i1) rfl (by decide) fin (by decide) (by decide) fun h2 f2 => ⟨_, _, rfl, alK fun r3 h3 e3 f3 o3 z3 => alK fun r4 h4 e4 f4 o4 z4 => ?_⟩
  rw [sum_ones]
  have T4 : TabH h4 := ht.fr (Ext.trans (Ext.trans (Ext.trans f1 f2) f3) f4) id
  refine K1363 T4 ((intsO o3 i1).ext f4) (intsO o4 i1) rfl (by decide) fin (by decide) (by decide) fun h5 f5 => ⟨_, _, rfl, alK fun r6 h6 e6 f6 o6 z6 => ?_⟩
  rw [sum_ones]
  refine K1367c (T4.fr (Ext.trans f5 f6) id) o6 fun h7 f7 => ⟨_, _, rfl, ?_⟩
  have F7 : Ext h h7 := Ext.trans (Ext.trans (Ext.trans (Ext.trans (Ext.trans f1 f2) f3) f4) (Ext.trans f5 f6)) f7
  have last : F1361_j57 B R P1 PTwo true h7 := by
    refine ⟨fun _ => alK fun r8 h8 e8 f8 o8 z8 => K1368 (intsO o8 i1) rfl (by decide) fun h9 f9 => ⟨_, rfl, ?_⟩, fun e => (by cases e)⟩
    rw [left_ones]
    exact H h9 (Ext.trans (Ext.trans F7 f8) f9)
  refine ⟨fun _ => ⟨fun _ => ⟨fun _ => ⟨fun _ => ⟨fun _ => last, fun e => absurd e (by decide)⟩, fun e => absurd e (by decide)⟩, fun e => absurd e (by decide)⟩, fun e => absurd e (by decide)⟩, fun e => absurd e (by decide)⟩
end Go.Proofs
