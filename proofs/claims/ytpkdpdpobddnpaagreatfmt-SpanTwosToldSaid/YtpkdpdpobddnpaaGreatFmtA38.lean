import Derived.Test.YtpkdpdpobddnpaaGreatFmtA37
import Derived.Test.YtpkdpdpobddnpaaGreatFmtA35
/- Here stand lemmas: round.Add, round.Mul, span.Add, span.Mul. -/
set_option linter.unusedVariables false
set_option linter.unusedVariables false
namespace Go.Proofs
open Go Go.Eng
variable {B : World} {R : Ending -> Heap -> Prop} {h : Heap}
theorem K1067g {b c : Nat} {x y : Int} (O : Own h b #[.int .i64 x, .int .i64 y]) (H : R (.returned (.bool (isFin x && isFin y))) h) :
  Ent Tryz.prog B 59 #[.slice (some ⟨b, 0, none⟩) 2 c] R h := by
 have step : ∀ {z : Int} {K : Prop}, (isFin z = false -> R (.returned (.bool false)) h) -> (isFin z = true -> K) -> ((decide ((3 : Int) <= cls z)) = true -> R (.returned (.bool false)) h) /\ ((decide ((3 : Int) <= cls z)) = false -> K) := fun {z K} k1 k2 => by
  have := cls_fin z
  refine ⟨fun e => k1 ?_, fun e => k2 ?_⟩
  ·rw [<- this]; have := of_decide_eq_true e; exact decide_eq_false (by omega)
  ·rw [<- this]; have := of_decide_eq_false e; exact decide_eq_true (by omega)
 refine F1067_ok _ _ _ ⟨fun m vs h' => match vs with
  | [.slice p n _, .int _ nn, .int _ i] => p = some (⟨b, 0, none⟩ : Addr) /\ n = 2 /\ nn = 2 /\ h = h' /\ ∃ j : Nat, i = (j : Int) /\ j <= 2 /\ m = 2 - j /\ (0 < j -> isFin x = true) /\ (1 < j -> isFin y = true)
  | _ => False, 2, ⟨rfl, rfl, rfl, rfl, 0, rfl, by omega, rfl, by omega, by omega⟩, ?_⟩
 rintro m h' _ _ _ _ _ ⟨rfl, rfl, rfl, rfl, j, rfl, hj, rfl, hx, hy⟩ _
 refine ⟨fun e => ?_, fun e => ?_⟩
 ·have hj2 : j < 2 := by simp at e; omega
  have : j = 0 \/ j = 1 := by omega
  rcases this with rfl | rfl
  ·refine ⟨b, 0, rfl, by decide, by decide, b, _, rfl, x, O.cell _, K17 ⟨_, rfl, step (fun e => ?_) fun e => ⟨1, by decide, rfl, rfl, rfl, rfl, 1, rfl, by decide, rfl, fun _ => e, by omega⟩⟩⟩
   rw [e, Bool.false_and] at H; exact H
  ·refine ⟨b, 0, rfl, by decide, by decide, b, _, rfl, y, O.cell _, K17 ⟨_, rfl, step (fun e => ?_) fun e => ⟨0, by decide, rfl, rfl, rfl, rfl, 2, rfl, by decide, rfl, fun _ => hx (by omega), fun _ => e⟩⟩⟩
   rw [e, Bool.and_false] at H; exact H
 ·have : j = 2 := by simp at e; omega
  rw [hx (by omega), hy (by omega)] at H
  exact H
theorem K1068g {w near v : Int} {K : Nat} {ok : Bool} {f : Nat} {c1 c2 : Value} (h0 : 0 <= w) (h4 : w < 4) (hK : K <= 5000)
  (Hf : ok = true -> ∀ {R' : Ending -> Heap -> Prop} h', Ext h h' -> (∀ r q m e h'', Ext h' h'' -> IntAt h'' r q m -> 0 <= e + (K : Int) -> e <= 7000 -> bl m.natAbs <= 12000 -> m * 2 ^ (e + (K : Int)).toNat = v -> R' (.returned (.agg #[.pointer (some ⟨r, 0, none⟩), .int .i64 e, .bool false])) h'') ->
   EntV Tryz.prog B (.func (.func f) #[] #[c1, c2]) #[] R' h')
  (H : ∀ h', Ext h h' -> R (.returned (.tuple #[.int .i64 (if w = 0 \/ ok = false \/ v = 0 then near else dirV w.toNat v (-K)), .int .i64 (0 : Int)])) h') :
  Ent Tryz.prog B 60 #[.int .i64 w, .int .i64 near, .bool ok, .func (.func f) #[] #[c1, c2]] R h := by
 refine F1068_ok _ _ _ _ (K1076 (by omega) h4 fun wv h1 f1 W1 hone => ⟨_, _, rfl, alK fun r2 h2 e2 f2 o2 z2 => ⟨r2, 0, rfl, o2.stC (by simp) hone fun oa fa => ?_⟩⟩)
 generalize setCell h2 _ _ = h3 at *
 have oa : Own h3 r2 #[wv] := oa
 have F3 : Ext h h3 := Fr.trans (Ext.trans f1 f2) fa fun x hx e => by have := f1.size; omega
 have W3 : WayV h3 w.toNat wv := W1.ext (Fr.trans f2 fa fun x hx e => by omega)
 refine ⟨nofun, fun _ => ⟨fun e => ?_, fun e => ?_⟩⟩
 ·have hw : w = 0 := of_decide_eq_true e
  have HH := H h3 F3
  rw [if_pos (.inl hw)] at HH
  exact ⟨fun _ => HH, nofun⟩
 have hw : w ≠ 0 := of_decide_eq_false e
 cases hok : ok
 ·have HH := H h3 F3
  rw [if_pos (.inr (.inl hok))] at HH
  exact ⟨fun _ => HH, nofun⟩
 refine ⟨nofun, fun _ => ?_⟩
 refine Hf hok h3 F3 fun r q m e h4 f4 I4 g1 g2 hb hv => ⟨_, _, _, rfl, ?_⟩
 refine alK fun r5 h5 e5 f5 o5 z5 => ⟨r5, 0, rfl, o5.stC (by simp) rfl fun oq fq => oq.stC (by simp) rfl fun or fr => or.stC (by simp) rfl fun os fs => ?_⟩
 have fqs := Fr.trans (S := fun x => x = r5) (Fr.trans (S := fun x => x = r5) fq fr fun _ _ e => e) fs fun _ _ e => e
 generalize setCell (setCell (setCell h5 _ _) _ _) _ _ = h6 at *
 have os : Own h6 r5 #[.pointer (some ⟨r, 0, none⟩), .int .i64 e, .bool false] := os
 have E46 : Ext h4 h6 := Fr.trans f5 fqs fun x hx e => by omega
 have I6 := I4.ext E46
 have O6 := (oa.ext f4).ext E46
 have E6 := Ext.trans (Ext.trans F3 f4) E46
 have hp : (0 : Int) < 2 ^ (e + (K : Int)).toNat := Int.pow_pos (by decide)
 refine ⟨r5, 0, rfl, r5, 0, rfl, _, os.cell _, K75 I6 ⟨_, rfl, fun e1 => ?_, fun e1 => ?_⟩⟩
 ·have hm := Int.sign_eq_zero_iff_zero.1 (of_decide_eq_true e1)
  have hv0 : v = 0 := by rw [<- hv, hm, Int.zero_mul]
  have HH := H h6 E6
  rw [if_pos (.inr (.inr hv0))] at HH
  exact HH
 have hm : m ≠ 0 := fun hm => of_decide_eq_false e1 (by rw [hm]; rfl)
 have hv0 : v ≠ 0 := by rw [<- hv]; exact Int.mul_ne_zero hm (by omega)
 refine ⟨r5, 0, rfl, _, os.cell _, _, os.cell _, _, os.cell _, r2, 0, rfl, _, O6.cell _, ?_⟩
 refine K1057 ((W3.ext f4).ext E46) hone I6 (by omega) (by omega) (by omega) fun h7 f7 => ⟨_, _, rfl, ?_⟩
 have HH := H h7 (Ext.trans E6 f7)
 obtain ⟨d1, d2⟩ := dirV_scale w.toNat m (-(K : Int)) (e + (K : Int)).toNat
 rw [hv, show -(K : Int) + ((e + (K : Int)).toNat : Int) = e by omega] at d1
 rw [if_neg (fun x => by rcases x with x | x | x; exact hw x; rw [hok] at x; cases x; exact hv0 x), d1] at HH
 exact HH
theorem K1069 {rx ry : Nat} {a b : Int} (Ox : Own h rx #[.int .i64 a]) (Oy : Own h ry #[.int .i64 b]) (ht : TabH h) (fa : isFin a = true) (fb : isFin b = true)
  (H : ∀ r q m e h', Ext h h' -> IntAt h' r q m -> 0 <= e + ((1074 : Nat) : Int) -> e <= 7000 -> bl m.natAbs <= 12000 -> m * 2 ^ (e + ((1074 : Nat) : Int)).toNat = fV a + fV b -> R (.returned (.agg #[.pointer (some ⟨r, 0, none⟩), .int .i64 e, .bool false])) h') :
  Ent Tryz.prog B 61 #[.pointer (some ⟨rx, 0, none⟩), .pointer (some ⟨ry, 0, none⟩)] R h := by
 refine F1069_ok _ _ (alK fun r1 h1 e1 f1 o1 z1 => ⟨rx, 0, rfl, _, (Ox.ext f1).cell _, ry, 0, rfl, _, (Oy.ext f1).cell _, ?_⟩)
 refine K1071 (ht.fr f1 id) fa fun r q m e h2 f2 l2 l2q I2 ge le hv ho hz => ⟨_, _, _, rfl, same1 (Oy.ext f1) f2 id, ?_⟩
 refine K1071 ((ht.fr f1 id).fr f2 id) fb fun r' q' m' e' h3 f3 l3 l3q I3 ge' le' hv' ho' hz' => ⟨_, _, _, rfl, ?_⟩
 have V := fval_of fa ge hv hz
 have V' := fval_of fb ge' hv' hz'
 have := V.hi
 have := V'.hi
 refine K1070 (I2.ext f3) I3 (by have := V.bl; omega) (by have := V'.bl; omega) (by omega) (by omega) (by omega) (by omega) fun r4 q4 m4 e4 h4 f4 lr4 lq4 I4 he4 hm4 hb4 => ⟨_, _, _, rfl, ?_⟩
 have O1 := ((o1.ext f2).ext f3).ext f4
 have F : Ext h h4 := Ext.trans (Ext.trans (Ext.trans f1 f2) f3) f4
 have s1 := f2.size
 have s2 := f3.size
 have s4 := f4.size
 have l1 := o1.lt
 refine ⟨r1, 0, rfl, O1.stC (by simp) rfl fun oa fa => oa.stC (by simp) rfl fun ob fb => ob.stC (by simp) rfl fun oc fc => ⟨r1, 0, rfl, _, oc.cell _, _, oc.cell _, _, oc.cell _, ?_⟩⟩
 have fabc := Fr.trans (S := fun x => x = r1) (Fr.trans (S := fun x => x = r1) fa fb fun _ _ e => e) fc fun _ _ e => e
 have hval : m4 * 2 ^ (e4 + ((1074 : Nat) : Int)).toNat = fV a + fV b := by
  rw [hm4, hv, hv', Int.add_mul, Int.mul_assoc, Int.mul_assoc, <- Int.pow_add, <- Int.pow_add, show (e - e4).toNat + (e4 + ((1074 : Nat) : Int)).toNat = (e + 1074).toNat by omega, show (e' - e4).toNat + (e4 + ((1074 : Nat) : Int)).toNat = (e' + 1074).toNat by omega]
 exact H r4 q4 m4 e4 _ (Fr.trans F fabc fun x hx e => by omega) (I4.fr fabc (by omega) (by omega)) (by omega) (by omega) hb4 hval
theorem K1088 {rx ry : Nat} {a b : Int} (Ox : Own h rx #[.int .i64 a]) (Oy : Own h ry #[.int .i64 b]) (ht : TabH h) (hk : TabK h) (fa : isFin a = true) (fb : isFin b = true)
  (H : ∀ r q m e h', Ext h h' -> IntAt h' r q m -> 0 <= e + ((2148 : Nat) : Int) -> e <= 7000 -> bl m.natAbs <= 12000 -> m * 2 ^ (e + ((2148 : Nat) : Int)).toNat = fV a * fV b -> R (.returned (.agg #[.pointer (some ⟨r, 0, none⟩), .int .i64 e, .bool false])) h') :
  Ent Tryz.prog B 94 #[.pointer (some ⟨rx, 0, none⟩), .pointer (some ⟨ry, 0, none⟩)] R h := by
 refine F1088_ok _ _ (alK fun r1 h1 e1 f1 o1 z1 => ⟨rx, 0, rfl, _, (Ox.ext f1).cell _, ry, 0, rfl, _, (Oy.ext f1).cell _, ?_⟩)
 refine K1071 (ht.fr f1 id) fa fun r q m e h2 f2 l2 l2q I2 ge le hv ho hz => ⟨_, _, _, rfl, same1 (Oy.ext f1) f2 id, ?_⟩
 refine K1071 ((ht.fr f1 id).fr f2 id) fb fun r' q' m' e' h3 f3 l3 l3q I3 ge' le' hv' ho' hz' => ⟨_, _, _, rfl, ?_⟩
 have V := fval_of fa ge hv hz
 have V' := fval_of fb ge' hv' hz'
 have := V.hi
 have := V'.hi
 have lr := I2.lt
 refine K1089 (((hk.ext f1).ext f2).ext f3) (I2.ext f3) I3 (by omega) (by have := V.bl; omega) (by have := V'.bl; omega) (by omega) (by omega) (by omega) (by omega) fun r4 q4 h4 f4 lr4 lq4 I4 => ⟨_, _, _, rfl, ?_⟩
 have O1 := ((o1.ext f2).ext f3).ext f4
 have F : Ext h h4 := Ext.trans (Ext.trans (Ext.trans f1 f2) f3) f4
 have s1 := f2.size
 have s2 := f3.size
 have s4 := f4.size
 have l1 := o1.lt
 refine ⟨r1, 0, rfl, O1.stC (by simp) rfl fun oa fa => oa.stC (by simp) rfl fun ob fb => ob.stC (by simp) rfl fun oc fc => ⟨r1, 0, rfl, _, oc.cell _, _, oc.cell _, _, oc.cell _, ?_⟩⟩
 have fabc := Fr.trans (S := fun x => x = r1) (Fr.trans (S := fun x => x = r1) fa fb fun _ _ e => e) fc fun _ _ e => e
 have hval : m * m' * 2 ^ (e + e' + ((2148 : Nat) : Int)).toNat = fV a * fV b := by
  rw [hv, hv', show (e + e' + ((2148 : Nat) : Int)).toNat = (e + 1074).toNat + (e' + 1074).toNat by omega, Int.pow_add]
  ac_rfl
 exact H r4 q4 (m * m') (e + e') _ (Fr.trans F fabc fun x hx e => by omega) (I4.fr fabc (by omega) (by omega)) (by omega) (by omega) (by have := bl_mul V.bl V'.bl; omega) hval
def addW (w a b : Int) : Int :=
 if (isFin a && isFin b) = true /\ w = 1 /\ cls (addP a b) = 0 /\ (a ≠ 0 \/ b ≠ 0) then -9223372036854775808
 else if w = 0 \/ (isFin a && isFin b) = false \/ fV a + fV b = 0 then addP a b else dirV w.toNat (fV a + fV b) (-1074)
theorem ev2z {f : Nat} {p q : Value} (H : Ent Tryz.prog B f #[p, q] R h) : EntV Tryz.prog B (.func (.func f) #[] #[p, q]) #[] R h := H
theorem K1045 {a b w : Int} (ht : TabH h) (ia : I64 a) (ib : I64 b) (h0 : 0 <= w) (h4 : w < 4) (H : ∀ h', Ext h h' -> R (.returned (.tuple #[.int .i64 (addW w a b), .int .i64 (0 : Int)])) h') :
  Ent Tryz.prog B 37 #[.int .i64 a, .int .i64 b, .int .i64 w] R h := by
 refine F1045_ok _ _ _ (alK fun r1 h1 e1 f1 o1 z1 => alK fun r2 h2 e2 f2 o2 z2 => ?_)
 have O1 := o1.ext f2
 have F2 := Ext.trans f1 f2
 refine ⟨r1, 0, rfl, _, O1.cell _, r2, 0, rfl, _, o2.cell _, K54 ⟨_, rfl, same1 (S := fun _ => False) o2 Fr.rfl' id, K54 ⟨_, rfl, ?_⟩⟩⟩
 refine (wi_wd ia).add (wi_wd ib) fun z hz => K56 hz ⟨_, rfl, ?_⟩
 rw [addP_nl, addP_nr]
 refine ⟨r1, 0, rfl, _, O1.cell _, r2, 0, rfl, _, o2.cell _, alK fun r3 h3 e3 f3 o3 z3 => K1067g o3 ⟨_, rfl, ?_⟩⟩
 have T3 := ((ht.fr f1 id).fr f2 id).fr f3 id
 have F3 := Ext.trans F2 f3
 have neg : ((isFin a && isFin b) = true /\ w = 1 /\ cls (addP a b) = 0 /\ (a ≠ 0 \/ b ≠ 0)) -> ∀ fl, F1045_j4 B R w (some ⟨r1, 0, none⟩) (some ⟨r2, 0, none⟩) (addP a b) fl true h3 := fun hc fl => by
  have HH := H h3 F3
  unfold addW at HH
  rw [if_pos hc] at HH
  exact ⟨fun _ => K99 (by unfold I64; omega) ⟨_, rfl, HH⟩, nofun⟩
 have pos : ¬ ((isFin a && isFin b) = true /\ w = 1 /\ cls (addP a b) = 0 /\ (a ≠ 0 \/ b ≠ 0)) -> F1045_j4 B R w (some ⟨r1, 0, none⟩) (some ⟨r2, 0, none⟩) (addP a b) (isFin a && isFin b) false h3 := fun hc => by
  refine ⟨nofun, fun _ => K1068g (v := fV a + fV b) (K := 1074) h0 h4 (by omega) (fun hok {R'} h4 f4 k => ?_) fun h4 f4 => ⟨_, _, rfl, ?_⟩⟩
  ·rw [Bool.and_eq_true] at hok
   exact ev2z (K1069 ((O1.ext f3).ext f4) ((o2.ext f3).ext f4) (T3.fr f4 id) hok.1 hok.2 k)
  ·have HH := H h4 (Ext.trans F3 f4)
   unfold addW at HH
   rw [if_neg hc] at HH
   exact HH
 refine ⟨fun e => ⟨fun e2 => K17 ⟨_, rfl, ⟨fun e3 => ⟨r1, 0, rfl, _, (O1.ext f3).cell _, fun e4 => ?_, fun e4 => ⟨r2, 0, rfl, _, (o2.ext f3).cell _, ?_⟩⟩, fun e3 => ?_⟩⟩, fun e2 => ⟨fun e3 => (by cases e3), fun _ => ?_⟩⟩, fun e => ⟨fun e2 => (by cases e2), fun _ => ⟨fun e3 => (by cases e3), fun _ => ?_⟩⟩⟩
 ·have h1 := of_decide_eq_true e2
  have h2 := of_decide_eq_true e3
  have h3 : a ≠ 0 := by simpa using e4
  exact neg ⟨e, h1, h2, .inl h3⟩ _
 ·have h1 := of_decide_eq_true e2
  have h2 := of_decide_eq_true e3
  have h3 : a = 0 := by simpa using e4
  by_cases hb : b = 0
  ·rw [decide_eq_true hb]
   exact pos fun hc => hc.2.2.2.elim (fun x => x h3) fun x => x hb
  ·rw [decide_eq_false hb]
   exact neg ⟨e, h1, h2, .inr hb⟩ _
 ·have h2 := of_decide_eq_false e3
  exact pos fun hc => h2 hc.2.2.1
 ·have h1 := of_decide_eq_false e2
  exact pos fun hc => h1 hc.2.1
 ·exact pos fun hc => by rw [e] at hc; exact absurd hc.1 (by decide)
end Go.Proofs
set_option linter.unusedVariables false
namespace Go.Proofs
open Go Go.Eng
variable {B : World} {R : Ending -> Heap -> Prop} {h : Heap}
def mulW (w a b : Int) : Int := if w = 0 \/ (isFin a && isFin b) = false \/ fV a * fV b = 0 then mulP a b else dirV w.toNat (fV a * fV b) (-2148)
theorem K1072 {a b w : Int} (ht : TabH h) (hk : TabK h) (ia : I64 a) (ib : I64 b) (h0 : 0 <= w) (h4 : w < 4) (H : ∀ h', Ext h h' -> R (.returned (.tuple #[.int .i64 (mulW w a b), .int .i64 (0 : Int)])) h') :
  Ent Tryz.prog B 70 #[.int .i64 a, .int .i64 b, .int .i64 w] R h := by
 refine F1072_ok _ _ _ (alK fun r1 g1 e1 f1 o1 z1 => alK fun r2 g2 e2 f2 o2 z2 => ?_)
 have O1 := o1.ext f2
 have F2 := Ext.trans f1 f2
 have T2 := (ht.fr f1 id).fr f2 id
 have K2 := hk.ext F2
 refine ⟨r1, 0, rfl, _, O1.cell _, r2, 0, rfl, _, o2.cell _, r1, 0, rfl, _, O1.cell _, r2, 0, rfl, _, o2.cell _, ?_⟩
 have s1 : ∀ {g o}, Ext g2 g -> sameCells g g r1 o 1 := fun f => same1 (S := fun _ => False) (O1.ext f) Fr.rfl' id
 have s2 : ∀ {g o}, Ext g2 g -> sameCells g g r2 o 1 := fun f => same1 (S := fun _ => False) (o2.ext f) Fr.rfl' id
 have t1 : ∀ {g g' o}, Ext g2 g -> Ext g g' -> sameCells g g' r1 o 1 := fun f f' => same1 (O1.ext f) f' id
 have t2 : ∀ {g g' o}, Ext g2 g -> Ext g g' -> sameCells g g' r2 o 1 := fun f f' => same1 (o2.ext f) f' id
 have ee : Ext g2 g2 := Fr.rfl'
 have fin : ∀ (r3 : Nat) (g3 : Heap), Ext g2 g3 -> Own g3 r3 #[.int .i64 a, .int .i64 b] -> Ent Tryz.prog B 59 #[.slice (some ⟨r3, 0, none⟩) 2 2] (retE (fun x y => ∃ j, x = .bool j /\
   Ent Tryz.prog B 60 #[.int .i64 w, .int .i64 (mulP a b), .bool j, .func (.func 94) #[] #[.pointer (some ⟨r1, 0, none⟩), .pointer (some ⟨r2, 0, none⟩)]] (retE (fun k l => ∃ m n, k = .tuple #[.int .i64 m, .int .i64 n] /\
    R (.returned (.tuple #[.int .i64 m, .int .i64 n])) l) (fun _ _ => False)) y) (fun _ _ => False)) g3 := fun r3 g3 f3 o3 => by
  refine K1067g o3 ⟨_, rfl, K1068g (v := fV a * fV b) (K := 2148) h0 h4 (by omega) (fun hok {R'} g4 f4 k => ?_) fun g4 f4 => ⟨_, _, rfl, ?_⟩⟩
  ·rw [Bool.and_eq_true] at hok
   exact ev2z (K1088 ((O1.ext f3).ext f4) ((o2.ext f3).ext f4) ((T2.fr f3 id).fr f4 id) ((K2.ext f3).ext f4) hok.1 hok.2 k)
  ·exact H g4 (Ext.trans (Ext.trans F2 f3) f4)
 have mul : ∀ {K : Nat -> Prop}, (∀ z, WI z (mulP a b) -> K z) -> flW .f64 (FloatKind.f64.format.mul (wd a) (wd b)) (wd a) (wd b) K := fun k => (wi_wd ia).mul (wi_wd ib) fun z hz => k z (by rw [mulP_nl, mulP_nr] at hz; exact hz)
 refine ⟨K54 ⟨_, rfl, s2 ee, s1 ee, s2 ee, K54 ⟨_, rfl, s2 ee, s1 ee, mul fun z hz => ⟨s2 ee, s1 ee, K56 hz ⟨_, rfl, s2 ee, s1 ee, ?_⟩, ?_⟩, ?_⟩, ?_⟩, ?_⟩
 ·refine alK fun r3 g3 e3 f3 o3 z3 => ⟨t2 ee f3, t1 ee f3, fin r3 g3 f3 o3⟩
 ·refine alK fun r3 g3 e3 f3 o3 z3 => ⟨t2 ee f3, t1 ee f3, K56 hz ⟨_, rfl, s2 f3, s1 f3, fin r3 g3 f3 o3⟩⟩
 ·refine alK fun r3 g3 e3 f3 o3 z3 => ⟨t2 ee f3, t1 ee f3, mul fun z hz => ⟨s2 f3, s1 f3, K56 hz ⟨_, rfl, s2 f3, s1 f3, fin r3 g3 f3 o3⟩⟩⟩
 ·refine alK fun r3 g3 e3 f3 o3 z3 => ⟨t2 ee f3, t1 ee f3, K54 ⟨_, rfl, s2 f3, s1 f3, mul fun z hz => ⟨s2 f3, s1 f3, K56 hz ⟨_, rfl, s2 f3, s1 f3, fin r3 g3 f3 o3⟩⟩⟩⟩
 ·refine alK fun r3 g3 e3 f3 o3 z3 => ⟨t2 ee f3, t1 ee f3, K54 ⟨_, rfl, s2 f3, s1 f3, s2 f3, K54 ⟨_, rfl, s2 f3, s1 f3, mul fun z hz => ⟨s2 f3, s1 f3, K56 hz ⟨_, rfl, s2 f3, s1 f3, fin r3 g3 f3 o3⟩⟩⟩⟩⟩
end Go.Proofs
set_option linter.unusedVariables false
namespace Go.Proofs
open Go Go.Eng
variable {B : World} {R : Ending -> Heap -> Prop} {h : Heap}
theorem pz_I64 {a : Int} (ha : I64 a) : I64 (pz a) := by
 unfold pz; split
 ·unfold I64; omega
 ·exact ha
theorem dirV_I64 (w : Nat) (m e : Int) : I64 (dirV w m e) := by
 unfold dirV; split
 ·unfold I64; omega
 ·have := dirP_le w (decide (m < 0)) m.natAbs e
  have hI : INF = 9218868437227405312 := rfl
  exact pat_I64 (by omega)
theorem mulW_I64 (w a b : Int) : I64 (mulW w a b) := by
 unfold mulW; split
 ·exact mulP_I64 a b
 ·exact dirV_I64 _ _ _
theorem addW_I64 (w a b : Int) : I64 (addW w a b) := by
 unfold addW; split
 ·unfold I64; omega
 ·split
  ·exact addP_I64 a b
  ·exact dirV_I64 _ _ _
def timW (w a b : Int) : Int := if cls a = 0 \/ cls b = 0 then 0 else mulW w a b
theorem timW_I64 (w a b : Int) : I64 (timW w a b) := by
 unfold timW; split
 ·unfold I64; omega
 ·exact mulW_I64 w a b
theorem K1046 {a b w : Int} (ht : TabH h) (hk : TabK h) (ia : I64 a) (ib : I64 b) (h0 : 0 <= w) (h4 : w < 4) (H : ∀ h', Ext h h' -> R (.returned (.float .f64 (wd (timW w a b)))) h') :
  Ent Tryz.prog B 44 #[.int .i64 a, .int .i64 b, .int .i64 w] R h := by
 have j2 : ∀ d : Bool, d = decide (cls a = 0 \/ cls b = 0) -> F1046_j2 B R a b w d h := fun d hd => by
  refine ⟨fun e => ?_, fun e => ?_⟩
  ·rw [e] at hd
   have HH := H h Fr.rfl'
   unfold timW at HH
   rw [if_pos (of_decide_eq_true hd.symm)] at HH
   exact HH
  ·rw [e] at hd
   refine K1072 ht hk ia ib h0 h4 fun h1 f1 => ⟨_, _, rfl, K54 ⟨_, rfl, ?_⟩⟩
   have HH := H h1 f1
   unfold timW at HH
   rw [if_neg (of_decide_eq_false hd.symm)] at HH
   exact HH
 refine F1046_ok _ _ _ (K17 ⟨_, rfl, fun e => j2 true ?_, fun e => K17 ⟨_, rfl, j2 _ ?_⟩⟩)
 ·exact (decide_eq_true (.inl (of_decide_eq_true e))).symm
 ·have := of_decide_eq_false e
  rw [decide_eq_decide]
  exact ⟨fun x => .inr x, fun x => x.elim (fun y => absurd y this) id⟩
theorem K1019 {a b c d : Int} (ht : TabH h) (hN : NoneH h) (ia : I64 a) (ib : I64 b) (ic : I64 c) (id' : I64 d)
  (Hbad : (vS a b && vS c d) = false -> ∀ h', Ext h h' -> R (.returned (.tuple #[.agg #[.int .i64 0, .int .i64 0], .int .i64 (1 : Int)])) h')
  (Hyes : (vS a b && vS c d) = true -> ∀ h', Ext h h' -> R (.returned (.tuple #[.agg #[.int .i64 (cnP (addW 1 a c)), .int .i64 (cnP (addW 2 b d))], .int .i64 (0 : Int)])) h') :
  Ent Tryz.prog B 9 #[.agg #[.int .i64 a, .int .i64 b], .agg #[.int .i64 c, .int .i64 d]] R h := by
 refine F1019_ok _ _ _ _ (alK fun r1 h1 e1 f1 o1 z1 => alK fun r2 h2 e2 f2 o2 z2 => alK fun r3 h3 e3 f3 o3 z3 => ?_)
 have O1 := (o1.ext f2).ext f3
 have O2 := o2.ext f3
 have F3 := Ext.trans (Ext.trans f1 f2) f3
 refine ⟨r1, 0, rfl, _, O1.cell _, _, O1.cell _, r2, 0, rfl, _, O2.cell _, _, O2.cell _, alK fun r4 h4 e4 f4 o4 z4 => K1040p o4 ia ib ic id' fun h5 f5 => ⟨_, rfl, ?_⟩⟩
 rw [okS2]
 have F5 := Ext.trans F3 (Ext.trans f4 f5)
 have O3 := (o3.ext f4).ext f5
 have O1 := (O1.ext f4).ext f5
 have O2 := (O2.ext f4).ext f5
 have N5 := hN.ext F5
 have n3 : h.size <= r3 := by have := f1.size; have := f2.size; omega
 cases hv : (vS a b && vS c d)
 ·refine ⟨fun _ => ⟨_, 0, rfl, _, N5.c0, _, N5.c1, r3, 0, rfl, O3.stC (by simp) rfl fun oa fa => oa.stC (by simp) rfl fun ob fb => ⟨r3, 0, rfl, _, ob.cell _, _, ob.cell _, ?_⟩⟩, nofun⟩
  have fab := Fr.trans (S := fun x => x = r3) fa fb fun _ _ e => e
  exact Hbad hv _ (Fr.trans F5 fab fun x hx e => by omega)
 ·refine ⟨nofun, fun _ => ⟨r1, 0, rfl, r1, 0, rfl, _, O1.cell _, r2, 0, rfl, r2, 0, rfl, _, O2.cell _, ?_⟩⟩
  refine K1045 (ht.fr F5 id) ia ic (by omega) (by omega) fun h6 f6 => ⟨_, _, rfl, ?_⟩
  have O1 := O1.ext f6
  have O2 := O2.ext f6
  refine ⟨r1, 0, rfl, r1, 0 + 1, rfl, _, O1.cell _, r2, 0, rfl, r2, 0 + 1, rfl, _, O2.cell _, ?_⟩
  refine K1045 ((ht.fr F5 id).fr f6 id) ib id' (by omega) (by omega) fun h7 f7 => ⟨_, _, rfl, ?_⟩
  refine K1041 (addW_I64 _ _ _) (addW_I64 _ _ _) fun h8 f8 => ⟨_, _, _, rfl, ?_⟩
  have F8 := Ext.trans (Ext.trans (Ext.trans F5 f6) f7) f8
  refine ⟨r3, 0, rfl, (((O3.ext f6).ext f7).ext f8).stC (by simp) rfl fun oc fc => oc.stC (by simp) rfl fun od fd => ⟨r3, 0, rfl, _, od.cell _, _, od.cell _, ?_⟩⟩
  have fcd := Fr.trans (S := fun x => x = r3) fc fd fun _ _ e => e
  exact Hyes hv _ (Fr.trans F8 fcd fun x hx e => by omega)
end Go.Proofs
set_option linter.unusedVariables false
namespace Go.Eng
open Go
theorem fV_cls0 {a : Int} (ha : I64 a) (hf : isFin a = true) : fV a = 0 ↔ cls a = 0 := by
 obtain ⟨s, k, hk, rfl⟩ := as_pat ha (fin_not hf).1
 have lk : k < 9218868437227405312 := by
  unfold isFin at hf
  rw [pat_fE s (by omega), decide_eq_true_eq] at hf
  omega
 rw [fV_mag lk, cls_zero (by omega)]
 have h1 := @magK_lt 0 k
 rw [magK_zero] at h1
 have h2 : k = 0 -> magK k = 0 := fun e => by rw [e, magK_zero]
 cases s <;> simp only [Bool.false_eq_true, if_false, if_true] <;> omega
theorem pat_nan' {ng : Bool} {m : Nat} {e : Int} : isNaN (pat ng (rung m e)) = false := pat_nan (Nat.min_le_right _ _)
theorem dirV_nan (w : Nat) (m e : Int) : isNaN (dirV w m e) = false := by
 unfold dirV; split
 ·decide
 ·exact pat_nan (dirP_le _ _ _ _)
theorem inf_cls {a : Int} (hi : isInf a = true) : cls a = 3 := by
 have := cls_inf a
 rw [hi] at this
 exact of_decide_eq_true this
theorem fin_or {a : Int} (hn : isNaN a = false) : isFin a = true /\ isInf a = false \/ isFin a = false /\ isInf a = true := by
 have h1 := cls_fin a
 have h2 := cls_inf a
 have h3 := cls_nan a
 rw [hn] at h3
 have h3 := of_decide_eq_false h3
 unfold cls at *
 rw [<- h1, <- h2]
 (repeat' split) <;> simp_all
end Go.Eng
namespace Go.Proofs
open Go Go.Eng
variable {B : World} {R : Ending -> Heap -> Prop} {h : Heap}
theorem tim_nan {w a b : Int} (ia : I64 a) (ib : I64 b) (na : isNaN a = false) (nb : isNaN b = false) : isNaN (timW w a b) = false := by
 unfold timW
 split
 ·decide
 ·rename_i hc
  have ca : cls a ≠ 0 := fun e => hc (.inl e)
  have cb : cls b ≠ 0 := fun e => hc (.inr e)
  unfold mulW
  split
  ·unfold mulP timesP
   have za : zr (isNaN a) (isInf a) (fW a) = false := by
    unfold zr
    rcases fin_or na with ⟨f, i⟩ | ⟨f, i⟩
    ·have : fW a ≠ 0 := by unfold fW; rw [if_pos f]; exact fun e => ca ((fV_cls0 ia f).1 e)
     rw [decide_eq_false this]; simp
    ·rw [i]; simp
   have zb : zr (isNaN b) (isInf b) (fW b) = false := by
    unfold zr
    rcases fin_or nb with ⟨f, i⟩ | ⟨f, i⟩
    ·have : fW b ≠ 0 := by unfold fW; rw [if_pos f]; exact fun e => cb ((fV_cls0 ib f).1 e)
     rw [decide_eq_false this]; simp
    ·rw [i]; simp
   rw [za, zb, na, nb]
   simp only [Bool.or_self, Bool.and_false, Bool.false_eq_true, if_false]
   split
   ·exact pat_nan (by omega)
   ·exact pat_nan'
  ·exact dirV_nan _ _ _
def loR (f : Nat -> Int) : Nat -> Int
 | 0 => 9218868437227405312
 | j + 1 => min (loR f j) (f j)
def hiR (f : Nat -> Int) : Nat -> Int
 | 0 => -9218868437227405312
 | j + 1 => max (hiR f j) (f j)
def ptX (a b : Int) (j : Nat) : Int := if j < 2 then a else b
def ptY (c d : Int) (j : Nat) : Int := if j % 2 = 0 then c else d
def SMulI (a b c d : Int) (r3 : Nat) (g : Heap) (m : Nat) (l : List Value) (h' : Heap) : Prop :=
 match l with
 | [.pointer p, .float _ lo, .float _ hi, .agg cs, .int _ i] => p = some (⟨r3, 0, none⟩ : Addr) /\ cs = #[.int .i64 a, .int .i64 c, .int .i64 a, .int .i64 d, .int .i64 b, .int .i64 c, .int .i64 b, .int .i64 d] /\ Ext g h' /\
   ∃ (j : Nat) (x y : Int), i = (j : Int) /\ j <= 4 /\ m = 4 - j /\ lo = wd x /\ hi = wd y /\ I64 x /\ I64 y /\ isNaN x = false /\ isNaN y = false /\ rk x = loR (fun k => rk (timW 1 (ptX a b k) (ptY c d k))) j /\ rk y = hiR (fun k => rk (timW 2 (ptX a b k) (ptY c d k))) j
 | _ => False
theorem inf_rk : rk 9218868437227405312 = 9218868437227405312 /\ isNaN 9218868437227405312 = false := ⟨by decide, by decide +kernel⟩
theorem ninf_rk : rk (-4503599627370496) = -9218868437227405312 /\ isNaN (-4503599627370496) = false := ⟨by decide, by decide +kernel⟩
end Go.Proofs
set_option linter.unusedVariables false
namespace Go.Proofs
open Go Go.Eng
variable {B : World} {R : Ending -> Heap -> Prop} {h : Heap}
theorem wd_inf : wd 9218868437227405312 = 9218868437227405312 := by decide
theorem wd_ninf : wd (-4503599627370496) = 9218868437227405312 + 9223372036854775808 := by decide
theorem K185p (H : R (.returned (.float .f64 (wd 9218868437227405312))) h) : Ent Tryz.prog B 43 #[.int .i64 (1 : Int)] R h :=
 K185 (ng := false) rfl (by rw [wd_inf] at H; rw [wordN_f]; exact H)
theorem K185m (H : R (.returned (.float .f64 (wd (-4503599627370496)))) h) : Ent Tryz.prog B 43 #[.int .i64 (-1 : Int)] R h :=
 K185 (ng := true) rfl (by rw [wd_ninf] at H; rw [wordN_t]; exact H)
set_option maxHeartbeats 2000000 in
/-- span.Mul. -/
theorem K1020 {a b c d : Int} (ht : TabH h) (hk : TabK h) (hN : NoneH h) (ia : I64 a) (ib : I64 b) (ic : I64 c) (id' : I64 d)
  (Hbad : (vS a b && vS c d) = false -> ∀ h', Ext h h' -> R (.returned (.tuple #[.agg #[.int .i64 0, .int .i64 0], .int .i64 (1 : Int)])) h')
  (Hyes : (vS a b && vS c d) = true -> ∀ x y h', Ext h h' -> I64 x -> I64 y -> isNaN x = false -> isNaN y = false -> rk x = loR (fun k => rk (timW 1 (ptX a b k) (ptY c d k))) 4 -> rk y = hiR (fun k => rk (timW 2 (ptX a b k) (ptY c d k))) 4 ->
   R (.returned (.tuple #[.agg #[.int .i64 (cnP x), .int .i64 (cnP y)], .int .i64 (0 : Int)])) h') :
  Ent Tryz.prog B 13 #[.agg #[.int .i64 a, .int .i64 b], .agg #[.int .i64 c, .int .i64 d]] R h := by
 refine F1020_ok _ _ _ _ (alK fun r1 h1 e1 f1 o1 z1 => alK fun r2 h2 e2 f2 o2 z2 => alK fun r3 h3 e3 f3 o3 z3 => ?_)
 have O1 := (o1.ext f2).ext f3
 have O2 := o2.ext f3
 have F3 := Ext.trans (Ext.trans f1 f2) f3
 refine ⟨r1, 0, rfl, _, O1.cell _, _, O1.cell _, r2, 0, rfl, _, O2.cell _, _, O2.cell _, alK fun r4 h4 e4 f4 o4 z4 => K1040p o4 ia ib ic id' fun h5 f5 => ⟨_, rfl, ?_⟩⟩
 rw [okS2]
 have F5 := Ext.trans F3 (Ext.trans f4 f5)
 have O3 := (o3.ext f4).ext f5
 have O1 := (O1.ext f4).ext f5
 have O2 := (O2.ext f4).ext f5
 have N5 := hN.ext F5
 have n3 : h.size <= r3 := by have := f1.size; have := f2.size; omega
 have l3 := O3.lt
 cases hv : (vS a b && vS c d)
 ·refine ⟨fun _ => ⟨_, 0, rfl, _, N5.c0, _, N5.c1, r3, 0, rfl, O3.stC (by simp) rfl fun oa fa => oa.stC (by simp) rfl fun ob fb => ⟨r3, 0, rfl, _, ob.cell _, _, ob.cell _, ?_⟩⟩, nofun⟩
  have fab := Fr.trans (S := fun x => x = r3) fa fb fun _ _ e => e
  exact Hbad hv _ (Fr.trans F5 fab fun x hx e => by omega)
 have hvv := hv
 rw [Bool.and_eq_true] at hvv
 obtain ⟨na, nb, _, _, _⟩ := vS_parts hvv.1
 obtain ⟨nc, nd, _, _, _⟩ := vS_parts hvv.2
 refine ⟨nofun, fun _ => ⟨r1, 0, rfl, r1, 0, rfl, _, O1.cell _, r2, 0, rfl, r2, 0, rfl, _, O2.cell _, r1, 0, rfl, r1, 0, rfl, _, O1.cell _, r2, 0, rfl, r2, 0 + 1, rfl, _, O2.cell _, r1, 0, rfl, r1, 0 + 1, rfl, _, O1.cell _, r2, 0, rfl, r2, 0, rfl, _, O2.cell _,
  r1, 0, rfl, r1, 0 + 1, rfl, _, O1.cell _, r2, 0, rfl, r2, 0 + 1, rfl, _, O2.cell _, alK fun r6 h6 e6 f6 o6 z6 => ?_⟩⟩
 refine ⟨r6, 0, rfl, o6.stC (by simp) rfl fun q1 g1 => q1.stC (by simp) rfl fun q2 g2 => q2.stC (by simp) rfl fun q3 g3 => q3.stC (by simp) rfl fun q4 g4 => q4.stC (by simp) rfl fun q5 g5 => q5.stC (by simp) rfl fun q6 g6 => q6.stC (by simp) rfl fun q7 g7 => q7.stC (by simp) rfl fun q8 g8 => ?_⟩
 have g12 := Fr.trans (S := fun x => x = r6) g1 g2 fun _ _ e => e
 have g14 := Fr.trans (S := fun x => x = r6) (Fr.trans (S := fun x => x = r6) g12 g3 fun _ _ e => e) g4 fun _ _ e => e
 have g16 := Fr.trans (S := fun x => x = r6) (Fr.trans (S := fun x => x = r6) g14 g5 fun _ _ e => e) g6 fun _ _ e => e
 have g18 := Fr.trans (S := fun x => x = r6) (Fr.trans (S := fun x => x = r6) g16 g7 fun _ _ e => e) g8 fun _ _ e => e
 generalize setCell (setCell (setCell (setCell (setCell (setCell (setCell (setCell h6 _ _) _ _) _ _) _ _) _ _) _ _) _ _) _ _ = h7 at *
 have O7 : Own h7 r6 #[.int .i64 a, .int .i64 c, .int .i64 a, .int .i64 d, .int .i64 b, .int .i64 c, .int .i64 b, .int .i64 d] := q8
 clear q1 q2 q3 q4 q5 q6 q7 q8 g1 g2 g3 g4 g5 g6 g7 g8 g12 g14 g16
 have E57 : Ext h5 h7 := Fr.trans f6 g18 fun x hx e => by omega
 have F7 := Ext.trans F5 E57
 have O3 := O3.ext E57
 refine K185p ⟨_, rfl, K185m ⟨_, rfl, r6, 0, rfl, _, O7.cell _, _, O7.cell _, _, O7.cell _, _, O7.cell _, _, O7.cell _, _, O7.cell _, _, O7.cell _, _, O7.cell _, ?_⟩⟩
 refine ⟨SMulI a b c d r3 h7, 4, ⟨rfl, rfl, Fr.rfl', 0, 9218868437227405312, -4503599627370496, rfl, by omega, rfl, rfl, rfl, by unfold I64; omega, by unfold I64; omega, inf_rk.2, ninf_rk.2, inf_rk.1, ninf_rk.1⟩, ?_⟩
 rintro m g _ lo hi _ _ _ _ _ _ _ _ _ ⟨rfl, hcs, fg, j, x, y, rfl, hj, rfl, rfl, rfl, ix, iy, nx, ny, rx, ry⟩ _
 cases hcs
 have Fg := Ext.trans F7 fg
 refine ⟨fun e => ?_, fun e => ?_⟩
 ·have hj4 : j < 4 := by simp at e; omega
  have cX : I64 (ptX a b j) /\ isNaN (ptX a b j) = false := by unfold ptX; split; exact ⟨ia, na⟩; exact ⟨ib, nb⟩
  have cY : I64 (ptY c d j) /\ isNaN (ptY c d j) = false := by unfold ptY; split; exact ⟨ic, nc⟩; exact ⟨id', nd⟩
  refine ⟨by omega, by omega, ptX a b j, ptY c d j, ?_, ?_⟩
  ·have : j = 0 \/ j = 1 \/ j = 2 \/ j = 3 := by omega
   rcases this with rfl | rfl | rfl | rfl <;> rfl
  refine alK fun r8 g8 e8 f8 o8 z8 => ⟨r8, 0, rfl, o8.stC (by simp) rfl fun oa fa => oa.stC (by simp) rfl fun ob fb => ?_⟩
  have fab := Fr.trans (S := fun x => x = r8) fa fb fun _ _ e => e
  generalize setCell (setCell g8 _ _) _ _ = g9 at *
  have ob : Own g9 r8 #[.int .i64 (ptX a b j), .int .i64 (ptY c d j)] := ob
  have E9 : Ext g g9 := Fr.trans f8 fab fun x hx e => by omega
  have F9 := Ext.trans Fg E9
  refine ⟨r8, 0, rfl, by decide, by decide, r8, 0 + (0 : Int).toNat * 1, rfl, _, ob.cell _, r8, 0, rfl, by decide, by decide, r8, 0 + (1 : Int).toNat * 1, rfl, _, ob.cell _, ?_⟩
  refine K1046 (ht.fr F9 id) (hk.ext F9) cX.1 cY.1 (by omega) (by omega) fun g10 f10 => ⟨_, rfl, ?_⟩
  obtain ⟨o, x', p1, p2, p3, p4, p5⟩ := min_wd ix (timW_I64 1 (ptX a b j) (ptY c d j)) nx (tim_nan cX.1 cY.1 cX.2 cY.2)
  have ob10 := ob.ext f10
  refine ⟨o, p1, r8, 0, rfl, by decide, by decide, r8, 0 + (0 : Int).toNat * 1, rfl, _, ob10.cell _, r8, 0, rfl, by decide, by decide, r8, 0 + (1 : Int).toNat * 1, rfl, _, ob10.cell _, ?_⟩
  refine K1046 ((ht.fr F9 id).fr f10 id) ((hk.ext F9).ext f10) cX.1 cY.1 (by omega) (by omega) fun g11 f11 => ⟨_, rfl, ?_⟩
  obtain ⟨o', y', q1, q2, q3, q4, q5⟩ := max_wd iy (timW_I64 2 (ptX a b j) (ptY c d j)) ny (tim_nan cX.1 cY.1 cX.2 cY.2)
  refine ⟨o', q1, 4 - (j + 1), by omega, rfl, rfl, Ext.trans (Ext.trans (Ext.trans fg E9) f10) f11, j + 1, x', y', by rw [i64_in (by omega) (by omega)]; rfl, by omega, rfl, p2, q2, p3, q3, p4, q4, ?_, ?_⟩
  ·rw [p5, rx]; rfl
  ·rw [q5, ry]; rfl
 ·have hj4 : j = 4 := by simp at e; omega
  subst hj4
  refine K56 (wi_nn ix nx) ⟨_, rfl, K56 (wi_nn iy ny) ⟨_, rfl, K1041 ix iy fun g8 f8 => ⟨_, _, _, rfl, ?_⟩⟩⟩
  refine ⟨r3, 0, rfl, ((O3.ext fg).ext f8).stC (by simp) rfl fun oc fc => oc.stC (by simp) rfl fun od fd => ⟨r3, 0, rfl, _, od.cell _, _, od.cell _, ?_⟩⟩
  have fcd := Fr.trans (S := fun x => x = r3) fc fd fun _ _ e => e
  exact Hyes hv x y _ (Fr.trans (Ext.trans Fg f8) fcd fun x hx e => by omega) ix iy nx ny rx ry
end Go.Proofs
