import Derived.Test.YtoclhdcpjlcdiaaGreatFmtA37
import Derived.Test.YtoclhdcpjlcdiaaGreatFmtA03
/- Here stand lemmas: round.Add, round.Mul, span.Add, span.Mul. -/
set_option linter.unusedVariables false
set_option linter.unusedVariables false
namespace Go.Proofs
open Go Go.Eng
variable {B : World} {R : Ending → Heap → Prop} {h : Heap}
/-- round.finite of two. -/
theorem K1067g {b c : Nat} {x y : Int} (O : Own h b #[.int .i64 x, .int .i64 y]) (H : R (.returned (.bool (isFin x && isFin y))) h) :
    Ent Tryz.prog B 40 #[.slice (some ⟨b, 0, none⟩) 2 c] R h := by
  have step : ∀ {z : Int} {K : Prop}, (isFin z = false → R (.returned (.bool false)) h) → (isFin z = true → K) → ((decide ((3 : Int) ≤ cls z)) = true → R (.returned (.bool false)) h) ∧ ((decide ((3 : Int) ≤ cls z)) = false → K) := fun {z K} k1 k2 => by
    have := cls_fin z
    refine ⟨fun e => k1 ?_, fun e => k2 ?_⟩
    · rw [← this]; have := of_decide_eq_true e; exact decide_eq_false (by omega)
    · rw [← this]; have := of_decide_eq_false e; exact decide_eq_true (by omega)
  refine F1067_ok _ _ _ ⟨fun m vs h' => match vs with
    | [.slice p n _, .int _ nn, .int _ i] => p = some (⟨b, 0, none⟩ : Addr) ∧ n = 2 ∧ nn = 2 ∧ h = h' ∧ ∃ j : Nat, i = (j : Int) ∧ j ≤ 2 ∧ m = 2 - j ∧ (0 < j → isFin x = true) ∧ (1 < j → isFin y = true)
    | _ => False, 2, ⟨rfl, rfl, rfl, rfl, 0, rfl, by omega, rfl, by omega, by omega⟩, ?_⟩
  rintro m h' _ _ _ _ _ ⟨rfl, rfl, rfl, rfl, j, rfl, hj, rfl, hx, hy⟩ _
  refine ⟨fun e => ?_, fun e => ?_⟩
  · have hj2 : j < 2 := by simp at e; omega
    have : j = 0 ∨ j = 1 := by omega
    rcases this with rfl | rfl
    · refine ⟨b, 0, rfl, by decide, by decide, b, _, rfl, x, O.cell _, K17 ⟨_, rfl, step (fun e => ?_) fun e => ⟨1, by decide, rfl, rfl, rfl, rfl, 1, rfl, by decide, rfl, fun _ => e, by omega⟩⟩⟩
      rw [e, Bool.false_and] at H; exact H
    · refine ⟨b, 0, rfl, by decide, by decide, b, _, rfl, y, O.cell _, K17 ⟨_, rfl, step (fun e => ?_) fun e => ⟨0, by decide, rfl, rfl, rfl, rfl, 2, rfl, by decide, rfl, fun _ => hx (by omega), fun _ => e⟩⟩⟩
      rw [e, Bool.and_false] at H; exact H
  · have : j = 2 := by simp at e; omega
    rw [hx (by omega), hy (by omega)] at H
    exact H
/-- round.settle. -/
theorem K1068g {w near v : Int} {K : Nat} {ok : Bool} {f : Nat} {c1 c2 : Value} (h0 : 0 ≤ w) (h4 : w < 4) (hK : K ≤ 5000)
    (Hf : ok = true → ∀ {R' : Ending → Heap → Prop} h', Ext h h' → (∀ r q m e h'', Ext h' h'' → IntAt h'' r q m → 0 ≤ e + (K : Int) → e ≤ 7000 → bl m.natAbs ≤ 12000 → m * 2 ^ (e + (K : Int)).toNat = v → R' (.returned (.agg #[.pointer (some ⟨r, 0, none⟩), .int .i64 e, .bool false])) h'') →
      EntV Tryz.prog B (.func (.func f) #[] #[c1, c2]) #[] R' h')
    (H : ∀ h', Ext h h' → R (.returned (.tuple #[.int .i64 (if w = 0 ∨ ok = false ∨ v = 0 then near else dirV w.toNat v (-K)), .int .i64 (0 : Int)])) h') :
    Ent Tryz.prog B 9 #[.int .i64 w, .int .i64 near, .bool ok, .func (.func f) #[] #[c1, c2]] R h := by
  refine F1068_ok _ _ _ _ (K1076 (by omega) h4 fun wv h1 f1 W1 hone => ⟨_, _, rfl, alK fun r2 h2 e2 f2 o2 z2 => ⟨r2, 0, rfl, o2.stC (by simp) hone fun oa fa => ?_⟩⟩)
  generalize setCell h2 _ _ = h3 at *
  have oa : Own h3 r2 #[wv] := oa
  have F3 : Ext h h3 := Fr.trans (Ext.trans f1 f2) fa fun x hx e => by have := f1.size; omega
  have W3 : WayV h3 w.toNat wv := W1.ext (Fr.trans f2 fa fun x hx e => by omega)
  refine ⟨fun e => (by cases e), fun _ => ⟨fun e => ?_, fun e => ?_⟩⟩
  · have hw : w = 0 := of_decide_eq_true e
    have HH := H h3 F3
    rw [if_pos (.inl hw)] at HH
    exact ⟨fun _ => HH, fun e => (by cases e)⟩
  have hw : w ≠ 0 := of_decide_eq_false e
  cases hok : ok
  · have HH := H h3 F3
    rw [if_pos (.inr (.inl hok))] at HH
    exact ⟨fun _ => HH, fun e => (by cases e)⟩
  refine ⟨fun e => (by cases e), fun _ => ?_⟩
  refine Hf hok h3 F3 fun r q m e h4 f4 I4 g1 g2 hb hv => ⟨_, _, _, rfl, ?_⟩
  refine alK fun r5 h5 e5 f5 o5 z5 => ⟨r5, 0, rfl, o5.stC (by simp) rfl fun oq fq => oq.stC (by simp) rfl fun or fr => or.stC (by simp) rfl fun os fs => ?_⟩
  have fqs := Fr.trans (S := fun x => x = r5) (Fr.trans (S := fun x => x = r5) fq fr fun _ _ e => e) fs fun _ _ e => e
  generalize setCell (setCell (setCell h5 _ _) _ _) _ _ = h6 at *
  have os : Own h6 r5 #[.pointer (some ⟨r, 0, none⟩), .int .i64 e, .bool false] := os
  have E46 : Ext h4 h6 := Fr.trans f5 fqs fun x hx e => by omega
  have I6 := I4.ext E46
  have O6 := (oa.ext f4).ext E46
  have E6 := Ext.trans (Ext.trans F3 f4) E46
  have hp : (0 : Int) < 2 ^ (e + (K : Int)).toNat := Int.pow_pos (by decide)
  refine ⟨r5, 0, rfl, r5, 0, rfl, _, os.cell _, K75 I6 ⟨_, rfl, fun e1 => ?_, fun e1 => ?_⟩⟩
  · have hm := Int.sign_eq_zero_iff_zero.1 (of_decide_eq_true e1)
    have hv0 : v = 0 := by rw [← hv, hm, Int.zero_mul]
    have HH := H h6 E6
    rw [if_pos (.inr (.inr hv0))] at HH
    exact HH
  have hm : m ≠ 0 := fun hm => of_decide_eq_false e1 (by rw [hm]; rfl)
  have hv0 : v ≠ 0 := by rw [← hv]; exact Int.mul_ne_zero hm (by omega)
  refine ⟨r5, 0, rfl, _, os.cell _, _, os.cell _, _, os.cell _, r2, 0, rfl, _, O6.cell _, ?_⟩
  refine K1057 ((W3.ext f4).ext E46) hone I6 (by omega) (by omega) (by omega) fun h7 f7 => ⟨_, _, rfl, ?_⟩
  have HH := H h7 (Ext.trans E6 f7)
  obtain ⟨d1, d2⟩ := dirV_scale w.toNat m (-(K : Int)) (e + (K : Int)).toNat
  rw [hv, show -(K : Int) + ((e + (K : Int)).toNat : Int) = e by omega] at d1
  rw [if_neg (fun x => by rcases x with x | x | x; exact hw x; rw [hok] at x; cases x; exact hv0 x), d1] at HH
  exact HH
/-- The closure of round.Add. -/
theorem K1069 {rx ry : Nat} {a b : Int} (Ox : Own h rx #[.int .i64 a]) (Oy : Own h ry #[.int .i64 b]) (ht : TabH h) (fa : isFin a = true) (fb : isFin b = true)
    (H : ∀ r q m e h', Ext h h' → IntAt h' r q m → 0 ≤ e + ((1074 : Nat) : Int) → e ≤ 7000 → bl m.natAbs ≤ 12000 → m * 2 ^ (e + ((1074 : Nat) : Int)).toNat = fV a + fV b → R (.returned (.agg #[.pointer (some ⟨r, 0, none⟩), .int .i64 e, .bool false])) h') :
    Ent Tryz.prog B 42 #[.pointer (some ⟨rx, 0, none⟩), .pointer (some ⟨ry, 0, none⟩)] R h := by
  refine F1069_ok _ _ (alK fun r1 h1 e1 f1 o1 z1 => ⟨rx, 0, rfl, _, (Ox.ext f1).cell _, ry, 0, rfl, _, (Oy.ext f1).cell _, ?_⟩)
  refine K1071 (ht.fr f1 id) fa fun r q m e h2 f2 l2 l2q I2 ge le hv ho hz => ⟨_, _, _, rfl, same1 (Oy.ext f1) f2 id, ?_⟩
  refine K1071 ((ht.fr f1 id).fr f2 id) fb fun r' q' m' e' h3 f3 l3 l3q I3 ge' le' hv' ho' hz' => ⟨_, _, _, rfl, ?_⟩
  have V := fval_of fa ge hv hz
  have V' := fval_of fb ge' hv' hz'
  have := V.hi
  have := V'.hi
  refine K1070 (I2.ext f3) I3 (by have := V.bl; omega) (by have := V'.bl; omega) (by omega) (by omega) (by omega) (by omega) fun r4 q4 m4 e4 h4 f4 lr4 lq4 I4 he4 hm4 hb4 => ⟨_, _, _, rfl, ?_⟩
  have O1 := ((o1.ext f2).ext f3).ext f4
  have F : Ext h h4 := Ext.trans (Ext.trans (Ext.trans f1 f2) f3) f4
  have s1 := f2.size
  have s2 := f3.size
  have s4 := f4.size
  have l1 := o1.lt
  refine ⟨r1, 0, rfl, O1.stC (by simp) rfl fun oa fa => oa.stC (by simp) rfl fun ob fb => ob.stC (by simp) rfl fun oc fc => ⟨r1, 0, rfl, _, oc.cell _, _, oc.cell _, _, oc.cell _, ?_⟩⟩
  have fabc := Fr.trans (S := fun x => x = r1) (Fr.trans (S := fun x => x = r1) fa fb fun _ _ e => e) fc fun _ _ e => e
  have hval : m4 * 2 ^ (e4 + ((1074 : Nat) : Int)).toNat = fV a + fV b := by
    rw [hm4, hv, hv', Int.add_mul, Int.mul_assoc, Int.mul_assoc, ← Int.pow_add, ← Int.pow_add, show (e - e4).toNat + (e4 + ((1074 : Nat) : Int)).toNat = (e + 1074).toNat by omega, show (e' - e4).toNat + (e4 + ((1074 : Nat) : Int)).toNat = (e' + 1074).toNat by omega]
  exact H r4 q4 m4 e4 _ (Fr.trans F fabc fun x hx e => by omega) (I4.fr fabc (by omega) (by omega)) (by omega) (by omega) hb4 hval
/-- What round.Add tells. -/
def addW (w a b : Int) : Int :=
  if (isFin a && isFin b) = true ∧ w = 1 ∧ cls (addP a b) = 0 ∧ (a ≠ 0 ∨ b ≠ 0) then -9223372036854775808
  else if w = 0 ∨ (isFin a && isFin b) = false ∨ fV a + fV b = 0 then addP a b else dirV w.toNat (fV a + fV b) (-1074)
theorem ev2z {f : Nat} {p q : Value} (H : Ent Tryz.prog B f #[p, q] R h) : EntV Tryz.prog B (.func (.func f) #[] #[p, q]) #[] R h := H
/-- round.Add. -/
theorem K1045 {a b w : Int} (ht : TabH h) (ia : I64 a) (ib : I64 b) (h0 : 0 ≤ w) (h4 : w < 4) (H : ∀ h', Ext h h' → R (.returned (.tuple #[.int .i64 (addW w a b), .int .i64 (0 : Int)])) h') :
    Ent Tryz.prog B 18 #[.int .i64 a, .int .i64 b, .int .i64 w] R h := by
  refine F1045_ok _ _ _ (alK fun r1 h1 e1 f1 o1 z1 => alK fun r2 h2 e2 f2 o2 z2 => ?_)
  have O1 := o1.ext f2
  have F2 := Ext.trans f1 f2
  refine ⟨r1, 0, rfl, _, O1.cell _, r2, 0, rfl, _, o2.cell _, K54 ⟨_, rfl, same1 (S := fun _ => False) o2 Fr.rfl' id, K54 ⟨_, rfl, ?_⟩⟩⟩
  refine (wi_wd ia).add (wi_wd ib) fun z hz => K56 hz ⟨_, rfl, ?_⟩
  rw [addP_nl, addP_nr]
  refine ⟨r1, 0, rfl, _, O1.cell _, r2, 0, rfl, _, o2.cell _, alK fun r3 h3 e3 f3 o3 z3 => K1067g o3 ⟨_, rfl, ?_⟩⟩
  have T3 := ((ht.fr f1 id).fr f2 id).fr f3 id
  have F3 := Ext.trans F2 f3
  have neg : ((isFin a && isFin b) = true ∧ w = 1 ∧ cls (addP a b) = 0 ∧ (a ≠ 0 ∨ b ≠ 0)) → ∀ fl, F1045_j4 B R w (some ⟨r1, 0, none⟩) (some ⟨r2, 0, none⟩) (addP a b) fl true h3 := fun hc fl => by
    have HH := H h3 F3
    unfold addW at HH
    rw [if_pos hc] at HH
    exact ⟨fun _ => K99 (by unfold I64; omega) ⟨_, rfl, HH⟩, fun e => (by cases e)⟩
  have pos : ¬ ((isFin a && isFin b) = true ∧ w = 1 ∧ cls (addP a b) = 0 ∧ (a ≠ 0 ∨ b ≠ 0)) → F1045_j4 B R w (some ⟨r1, 0, none⟩) (some ⟨r2, 0, none⟩) (addP a b) (isFin a && isFin b) false h3 := fun hc => by
    refine ⟨fun e => (by cases e), fun _ => K1068g (v := fV a + fV b) (K := 1074) h0 h4 (by omega) (fun hok {R'} h4 f4 k => ?_) fun h4 f4 => ⟨_, _, rfl, ?_⟩⟩
    · rw [Bool.and_eq_true] at hok
      exact ev2z (K1069 ((O1.ext f3).ext f4) ((o2.ext f3).ext f4) (T3.fr f4 id) hok.1 hok.2 k)
    · have HH := H h4 (Ext.trans F3 f4)
      unfold addW at HH
      rw [if_neg hc] at HH
      exact HH
  refine ⟨fun e => ⟨fun e2 => K17 ⟨_, rfl, ⟨fun e3 => ⟨r1, 0, rfl, _, (O1.ext f3).cell _, fun e4 => ?_, fun e4 => ⟨r2, 0, rfl, _, (o2.ext f3).cell _, ?_⟩⟩, fun e3 => ?_⟩⟩, fun e2 => ⟨fun e3 => (by cases e3), fun _ => ?_⟩⟩, fun e => ⟨fun e2 => (by cases e2), fun _ => ⟨fun e3 => (by cases e3), fun _ => ?_⟩⟩⟩
  · have h1 := of_decide_eq_true e2
    have h2 := of_decide_eq_true e3
    have h3 : a ≠ 0 := by simpa using e4
    exact neg ⟨e, h1, h2, .inl h3⟩ _
  · have h1 := of_decide_eq_true e2
    have h2 := of_decide_eq_true e3
    have h3 : a = 0 := by simpa using e4
    by_cases hb : b = 0
    · rw [decide_eq_true hb]
      exact pos fun hc => hc.2.2.2.elim (fun x => x h3) fun x => x hb
    · rw [decide_eq_false hb]
      exact neg ⟨e, h1, h2, .inr hb⟩ _
  · have h2 := of_decide_eq_false e3
    exact pos fun hc => h2 hc.2.2.1
  · have h1 := of_decide_eq_false e2
    exact pos fun hc => h1 hc.2.1
  · exact pos fun hc => by rw [e] at hc; exact absurd hc.1 (by decide)
end Go.Proofs
set_option linter.unusedVariables false
namespace Go.Proofs
open Go Go.Eng
variable {B : World} {R : Ending → Heap → Prop} {h : Heap}
theorem dirV_I64 (w : Nat) (m e : Int) : I64 (dirV w m e) := by
  unfold dirV; split
  · unfold I64; omega
  · have := dirP_le w (decide (m < 0)) m.natAbs e
    have hI : INF = 9218868437227405312 := rfl
    exact pat_I64 (by omega)
end Go.Proofs
set_option linter.unusedVariables false
namespace Go.Eng
open Go
theorem dirV_nan (w : Nat) (m e : Int) : isNaN (dirV w m e) = false := by
  unfold dirV; split
  · decide
  · exact pat_nan (dirP_le _ _ _ _)
end Go.Eng
namespace Go.Proofs
open Go Go.Eng
variable {B : World} {R : Ending → Heap → Prop} {h : Heap}
end Go.Proofs
