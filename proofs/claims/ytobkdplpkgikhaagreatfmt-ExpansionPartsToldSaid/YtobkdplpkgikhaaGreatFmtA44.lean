import Derived.Test.YtobkdplpkgikhaaGreatFmtA43
import Derived.Test.YtobkdplpkgikhaaGreatFmtA24
import Derived.Test.YtobkdplpkgikhaaGreatFmtA23
import Derived.Test.YtobkdplpkgikhaaGreatFmtA32
/- Here stand lemmas and contracts, in the order in which they are used. -/
set_option linter.unusedVariables false
set_option linter.unusedVariables false
namespace Go.Proofs
open Go Go.Eng
variable {B : World} {R : Ending → Heap → Prop} {h : Heap}
/-- round.ways. -/
theorem K1092 (H : ∀ p1 p2 h', Ext h h' → Own h' p1 #[.func (.func 149) #[] #[]] → Own h' p2 #[.func (.func 148) #[] #[]] →
    R (.returned (.agg #[.func (.func 150) #[] #[], .func (.func 148) #[] #[], .func (.func 149) #[] #[], .func (.func 151) #[] #[.pointer (some ⟨p1, 0, none⟩), .pointer (some ⟨p2, 0, none⟩)]])) h') :
    Ent Tryz.prog B 119 #[] R h := by
  refine F1092_ok (alK fun r1 h1 e1 f1 o1 z1 => alK fun r2 h2 e2 f2 o2 z2 => ⟨r2, 0, rfl, o2.stC (by simp) rfl fun oa fa => ?_⟩)
  generalize setCell h2 _ _ = h3 at *
  have oa : Own h3 r2 #[.func (.func 148) #[] #[]] := oa
  refine alK fun r4 h4 e4 f4 o4 z4 => ⟨r4, 0, rfl, o4.stC (by simp) rfl fun ob fb => ?_⟩
  generalize setCell h4 _ _ = h5 at *
  have ob : Own h5 r4 #[.func (.func 149) #[] #[]] := ob
  have s3 := fa.size
  have s5 := fb.size
  have l2 := oa.lt
  have l1 := o1.lt
  have oa' : Own h5 r2 #[.func (.func 148) #[] #[]] := (oa.ext f4).fr fb (by omega)
  have o1' := (((o1.ext f2).fr fa (by omega)).ext f4).fr fb (by omega)
  have F5 : Ext h h5 := Fr.trans (Fr.trans (Fr.trans (Ext.trans f1 f2) fa fun x hx e => by omega) f4 fun x hx e => e) fb fun x hx e => by omega
  refine ⟨rfl, r2, 0, rfl, _, oa'.cell _, rfl, r4, 0, rfl, _, ob.cell _, rfl, rfl, r1, 0, rfl, o1'.stC (by simp) rfl fun q1 g1 => q1.stC (by simp) rfl fun q2 g2 => q2.stC (by simp) rfl fun q3 g3 => q3.stC (by simp) rfl fun q4 g4 => ?_⟩
  have g14 := Fr.trans (S := fun x => x = r1) (Fr.trans (S := fun x => x = r1) (Fr.trans (S := fun x => x = r1) g1 g2 fun _ _ e => e) g3 fun _ _ e => e) g4 fun _ _ e => e
  refine ⟨r1, 0, rfl, _, q4.cell _, _, q4.cell _, _, q4.cell _, _, q4.cell _, ?_⟩
  exact H r4 r2 _ (Fr.trans F5 g14 fun x hx e => by omega) (ob.fr g14 (by omega)) (oa'.fr g14 (by omega))
/-- round.find. -/
theorem K1076 {w : Int} (h0 : 0 ≤ w) (h4 : w < 4) (H : ∀ v h', Ext h h' → WayV h' w.toNat v → oneCell v = true → R (.returned (.tuple #[.agg #[v], .bool true])) h') : Ent Tryz.prog B 80 #[.int .i64 w] R h := by
  refine F1076_ok _ (alK fun r1 h1 e1 f1 o1 z1 => ⟨fun e => absurd (of_decide_eq_true e) (by omega), fun _ => K1092 fun p1 p2 h2 f2 _ _ => ⟨_, _, _, _, rfl, ?_⟩⟩)
  rw [decide_eq_false (show ¬ (4 : Int) ≤ w by omega)]
  refine ⟨fun e => (by cases e), fun _ => K1092 fun p3 p4 h3 f3 c3 c4 => ⟨_, _, _, _, rfl, h0, h4, ?_⟩⟩
  have O3 := (o1.ext f2).ext f3
  have F3 := Ext.trans (Ext.trans f1 f2) f3
  have n3 : p3 ≠ r1 := fun e => by subst e; have := O3.inj c3; cases this
  have n4 : p4 ≠ r1 := fun e => by subst e; have := O3.inj c4; cases this
  have fin : ∀ v, oneCell v = true → (∀ h', Fr (fun x => x = r1) h3 h' → WayV h' w.toNat v) → isP (some ⟨r1, 0, none⟩) fun s0 t0 => stC h3 s0 t0 v fun u0 =>
      isP (some ⟨r1, 0, none⟩) fun v0 w0 => ∃ x0, cell? u0 ⟨v0, w0, none⟩ = some x0 ∧ R (.returned (.tuple #[.agg #[x0], .bool true])) u0 := fun v hv hw => by
    refine ⟨r1, 0, rfl, O3.stC (by simp) hv fun oa fa => ⟨r1, 0, rfl, v, oa.cell _, ?_⟩⟩
    exact H v _ (Fr.trans F3 fa fun x hx e => by omega) (hw _ fa) hv
  have hw : w = 0 ∨ w = 1 ∨ w = 2 ∨ w = 3 := by omega
  rcases hw with rfl | rfl | rfl | rfl
  · exact ⟨_, rfl, fin _ rfl fun _ _ => rfl⟩
  · exact ⟨_, rfl, fin _ rfl fun _ _ => rfl⟩
  · exact ⟨_, rfl, fin _ rfl fun _ _ => rfl⟩
  · exact ⟨_, rfl, fin _ rfl fun h' f => ⟨_, _, rfl, c3.fr f n3, c4.fr f n4⟩⟩
end Go.Proofs
set_option linter.unusedVariables false
namespace Go.Proofs
open Go Go.Eng
variable {B : World} {R : Ending → Heap → Prop} {h : Heap}
def OpnI (r1 r2 : Nat) (n : Nat) (ds : List Nat) (g : Heap) (m : Nat) (vs : List Value) (h' : Heap) : Prop :=
  match vs with
  | [.pointer a, .pointer b, .pointer pr, .int _ nn, .int _ i] => a = some (⟨r1, 0, none⟩ : Addr) ∧ b = some (⟨r2, 0, none⟩ : Addr) ∧ some (⟨g.size, 0, none⟩ : Addr) = pr ∧ (n : Int) = nn ∧ ∃ (j q : Nat), i = (j : Int) ∧ j ≤ n ∧ m = n - j ∧ Ext g h' ∧ g.size ≤ q ∧ IntAt h' g.size q (val B30 (ds.drop (n - j)) : Int)
  | _ => False
/-- round.open, of a valid number. -/
theorem K1077 {neg : Bool} {p : Option Addr} {n c : Nat} {e : Int} {ds : List Nat} (hd0 : DigI h p n ds) (hn : n ≤ 30000)
    (H : ∀ (r q : Nat) (h' : Heap), Ext h h' → h.size ≤ r → h.size ≤ q → IntAt h' r q (if neg then -(val B30 ds : Int) else (val B30 ds : Int)) → R (.returned (.agg #[.pointer (some ⟨r, 0, none⟩), .int .i64 e, .bool false])) h') :
    Ent Tryz.prog B 81 #[.agg #[.bool neg, .slice p n c, .int .i64 e]] R h := by
  have hl := hd0.len
  have hbl : ∀ j, j ≤ n → bl (val B30 (ds.drop j)) ≤ 30 * (n - j) := fun j hj => by
    have := bl_dig (k := 30) rfl (hd0.dig.drop j)
    rw [List.length_drop, hl] at this; exact this
  refine F1077_ok _ _ _ _ _ (alK fun r1 h1 e1 f1 o1 z1 => alK fun r2 g e2 f2 o2 z2 => alK fun r3 h3 e3 f3 o3 z3 => ?_)
  have O1 := o1.ext f2
  have hd := (hd0.ext f1).ext f2
  have F0 := Ext.trans f1 f2
  subst e3
  refine ⟨r1, 0, rfl, r1, 0 + 1, rfl, _, _, _, (O1.ext f3).cell _, OpnI r1 r2 n ds g, n, ⟨rfl, rfl, rfl, rfl, 0, g.size, rfl, by omega, rfl, f3, Nat.le_refl _, ?_⟩, ?_⟩
  · rw [Nat.sub_zero, List.drop_of_length_le (by omega)]
    exact ZeroAt.int o3
  rintro m h' _ _ _ _ _ ⟨rfl, rfl, rfl, rfl, j, q, rfl, hj, rfl, f, hq, hI⟩ _
  refine ⟨fun e => ?_, fun e => ?_⟩
  · have hjn : j < n := by simp at e; omega
    have hb1 := hbl (n - j) (by omega)
    refine K128i (s := 30) hI (by rw [Int.natAbs_natCast]; omega) (by decide) (by decide) fun q1 h1 f1 d1 I1 => ⟨_, rfl, ?_⟩
    have hhs := f.size
    have hq1 : g.size ≤ q1 := by rcases d1 with e | e | e; omega; exact e.1 ▸ hq; omega
    have fx : Ext g h1 := Fr.trans f f1 fun x hx e => by rcases e with e | e; omega; have := e.1; omega
    have dj : ds[n - 1 - j]'(by omega) < 1073741824 := hd.dig.get (by omega)
    have ei : IntKind.i64.wrap (IntKind.i64.wrap ((n : Int) - 1) - (j : Int)) = ((n - 1 - j : Nat) : Int) := by
      rw [i64_in (x := (n : Int) - 1) (by omega) (by omega), i64_in (by omega) (by omega)]; omega
    have Ox := O1.ext fx
    refine ⟨r1, 0, rfl, r1, 0 + 1, rfl, _, _, _, Ox.cell _, r1, 0, rfl, r1, 0 + 1, rfl, _, _, _, Ox.cell _, ?_⟩
    rw [ei]
    refine (hd.sl.ext fx).get (n - 1 - j) rfl (by omega) (by omega) (K120 (by omega) (by omega) fun r2 q2 h2 f2 hr2 hr2' hq2 I2 => ⟨_, rfl, ?_⟩)
    have ev : ((val B30 (ds.drop (n - j)) : Nat) : Int) * 2 ^ 30 = ((val B30 (ds.drop (n - j)) * 2 ^ 30 : Nat) : Int) := by
      rw [Int.natCast_mul, Int.natCast_pow]; rfl
    rw [ev] at I1
    have hdr : val B30 (ds.drop (n - (j + 1))) = (val B30 (ds.drop (n - j)) * 2 ^ 30 ||| ds[n - 1 - j]'(by omega)) := by
      rw [or30 dj, show n - (j + 1) = n - 1 - j by omega, val_drop _ _ (by omega), show n - 1 - j + 1 = n - j by omega, show (2 : Nat) ^ 30 = B30 from rfl, Nat.mul_comm B30]; omega
    have hpos : 0 < val B30 (ds.drop (n - (j + 1))) := by
      have hne : ds.drop (n - (j + 1)) ≠ [] := by
        intro e0
        have := congrArg List.length e0
        rw [List.length_drop] at this; simp at this; omega
      have ht : Trim (ds.drop (n - (j + 1))) := by
        have := hd.trim
        unfold Trim at this ⊢
        rw [List.getLast?_drop, if_neg (by omega)]; exact this
      exact Nat.lt_of_lt_of_le (Nat.pow_pos (by decide)) (val_pos hne ht (by decide : 0 < B30))
    have hI1 := I1.ext f2
    have hb2 : bl (val B30 (ds.drop (n - j)) * 2 ^ 30) ≤ 1000000 := by
      have h1 := bl_lt (val B30 (ds.drop (n - j)))
      have h2 : val B30 (ds.drop (n - j)) * 2 ^ 30 < 2 ^ bl (val B30 (ds.drop (n - j))) * 2 ^ 30 := Nat.mul_lt_mul_of_pos_right h1 (Nat.pow_pos (by decide))
      rw [← Nat.pow_add] at h2
      exact bl_of_lt h2 (by omega)
    have hb3 : bl (ds[n - 1 - j]'(by omega)) ≤ 1000000 := by
      have : bl (ds[n - 1 - j]'(by omega)) ≤ 30 := bl_le_iff.2 dj
      omega
    refine K175i hI1 I2 (by have := I1.lq; omega) hb2 hb3 (by rw [← hdr]; exact hpos) fun q3 h3 f3 d3 I3 => ⟨_, rfl, n - (j + 1), by omega, rfl, rfl, rfl, rfl, j + 1, q3, by rw [i64_in (by omega) (by omega)]; rfl, by omega, rfl, ?_, ?_, ?_⟩
    · exact Fr.trans (Ext.trans fx f2) f3 fun x hx e => by rcases e with e | e; omega; have := e.1; omega
    · have := fx.size; have := f2.size
      rcases d3 with e | e | e; omega; have := e.1; omega; omega
    · rw [hdr]; exact I3
  · have hjn : j = n := by simp at e; omega
    subst hjn
    rw [Nat.sub_self, List.drop_zero] at hI
    have hhs := f.size
    have lg := O1.lt
    have lg2 := o2.lt
    have fin : ∀ h9 q9, Ext g h9 → g.size ≤ q9 → IntAt h9 g.size q9 (if neg then -(val B30 ds : Int) else (val B30 ds : Int)) → F1077_j10 B R (some ⟨r1, 0, none⟩) (some ⟨r2, 0, none⟩) (some ⟨g.size, 0, none⟩) h9 := fun h9 q9 f9 l9 I9 => by
      refine ⟨r1, 0, rfl, r1, 0 + 2, rfl, _, (O1.ext f9).cell _, r2, 0, rfl, (o2.ext f9).stC (by simp) rfl fun oa fa => oa.stC (by simp) rfl fun ob fb => ob.stC (by simp) rfl fun oc fc => ⟨r2, 0, rfl, _, oc.cell _, _, oc.cell _, _, oc.cell _, ?_⟩⟩
      have fabc := Fr.trans (S := fun x => x = r2) (Fr.trans (S := fun x => x = r2) fa fb fun _ _ e => e) fc fun _ _ e => e
      exact H g.size q9 _ (Fr.trans (Ext.trans F0 f9) fabc fun x hx e => by omega) (by omega) (by omega) (I9.fr fabc (by omega) (by omega))
    refine ⟨r1, 0, rfl, r1, 0, rfl, _, (O1.ext f).cell _, fun e => ?_, fun e => ?_⟩
    · subst e
      refine K74i hI fun q1 h1 f1 d1 I1 => ⟨_, rfl, ?_⟩
      refine fin _ q1 (Fr.trans f f1 fun x hx e => by rcases e with e | e; omega; have := e.1; omega) ?_ I1
      rcases d1 with e | e | e; omega; exact e.1 ▸ hq; omega
    · subst e
      exact fin _ q f hq hI
end Go.Proofs
set_option linter.unusedVariables false
namespace Go.Proofs
open Go Go.Eng
variable {B : World} {R : Ending → Heap → Prop} {h : Heap}
/-- What is not the lower nought. -/
def pz (a : Int) : Int := if a = -9223372036854775808 then 0 else a
/-- round.self. -/
theorem K1056 {b c : Nat} {r : OA} {e : Int} (O : Own h b #[.pointer r, .int .i64 e, .bool false])
    (H : ∀ h', Ext h h' → R (.returned (.tuple #[.agg #[.pointer r, .int .i64 e, .bool false], .int .i64 (0 : Int)])) h') :
    Ent Tryz.prog B 50 #[.slice (some ⟨b, 0, none⟩) 1 c] R h := by
  refine F1056_ok _ _ _ (alK fun r1 h1 e1 f1 o1 z1 => ⟨b, 0, rfl, by decide, by decide, b, _, rfl, _, (O.ext f1).cell _, _, (O.ext f1).cell _, _, (O.ext f1).cell _, r1, 0, rfl, o1.stC (by simp) rfl fun oa fa => oa.stC (by simp) rfl fun ob fb => ob.stC (by simp) rfl fun oc fc => ⟨r1, 0, rfl, _, oc.cell _, _, oc.cell _, _, oc.cell _, ?_⟩⟩)
  have fabc := Fr.trans (S := fun x => x = r1) (Fr.trans (S := fun x => x = r1) fa fb fun _ _ e => e) fc fun _ _ e => e
  exact H _ (Fr.trans f1 fabc fun x hx e => by omega)
def RndI (w b p1 u : Nat) (wv : Value) (e M : Int) (h v0 : Heap) (m : Nat) (l : List Value) (h' : Heap) : Prop :=
  match l with
  | [i, j, .int _ k, .pointer d, .slice a an ac, .slice s sn sc, .int _ nn, .int _ ii] =>
    i = .func (.func 50) #[] #[] ∧ j = .func (.func 51) #[] #[] ∧ k = -9223372036854775808 ∧ d = some (⟨p1, 0, none⟩ : Addr) ∧ a = some (⟨u, 0, none⟩ : Addr) ∧ an = 1 ∧ s = some (⟨b, 0, none⟩ : Addr) ∧ sn = 1 ∧ nn = 1 ∧
    ((ii = 0 ∧ m = 1 ∧ h' = v0) ∨ (ii = 1 ∧ m = 0 ∧ Ext h h' ∧ ∃ r q, Own h' u #[.pointer (some ⟨r, 0, none⟩), .int .i64 e, .bool false] ∧ IntAt h' r q M ∧ Own h' p1 #[wv] ∧ WayV h' w wv))
  | _ => False
theorem mk3 : mkCells #[.pointer none, .int .i64 0, .bool false] (Int.toNat ((1 : Nat) : Int) * 3) = #[.pointer none, .int .i64 0, .bool false] := by
  apply Array.ext
  · simp [mkCells]
  · intro i h1 h2
    have h3 : i < 3 := h2
    have : i = 0 ∨ i = 1 ∨ i = 2 := by omega
    rcases this with rfl | rfl | rfl <;> simp [mkCells]
/-- round.rounded, of one number as it is. -/
theorem K1055s {b c : Nat} {neg : Bool} {p : Option Addr} {n cc : Nat} {e w : Int} {ds : List Nat} (Ob : Own h b #[.bool neg, .slice p n cc, .int .i64 e]) (N : NumI h neg p n e ds) (h0 : 0 ≤ w) (h4 : w < 4)
    (H : ∀ h', Ext h h' → R (.returned (.tuple #[.int .i64 (pz (dirV w.toNat (if neg then -(val B30 ds : Int) else (val B30 ds : Int)) e)), .bool (inxV (if neg then -(val B30 ds : Int) else (val B30 ds : Int)) e), .int .i64 (0 : Int)])) h') :
    Ent Tryz.prog B 49 #[.int .i64 w, .slice (some ⟨b, 0, none⟩) 1 c, .func (.func 50) #[] #[], .func (.func 51) #[] #[], .int .i64 (-9223372036854775808 : Int)] R h := by
  have hbl : bl (val B30 ds) ≤ 60000 := by
    have : bl (val B30 ds) ≤ 30 * ds.length := bl_dig (k := 30) rfl N.d.dig
    have h1 := N.d.len
    have h2 := N.le
    omega
  have he : -1048576 ≤ e ∧ e ≤ 1048576 := by
    by_cases h1 : n = 0
    · have := (N.zero h1).2; omega
    · exact (N.pos (by omega)).2
  have hnv : (if neg then -(val B30 ds : Int) else (val B30 ds : Int)).natAbs = val B30 ds := by cases neg <;> simp
  generalize hM : (if neg then -(val B30 ds : Int) else (val B30 ds : Int)) = M at *
  refine F1055_ok _ _ _ _ _ _ _ (K1076 h0 h4 fun wv h1 f1 W1 hone => ⟨_, _, rfl, alK fun r2 h2 e2 f2 o2 z2 => ⟨r2, 0, rfl, o2.stC (by simp) hone fun oa fa => ?_⟩⟩)
  generalize setCell h2 _ _ = h3 at *
  have oa : Own h3 r2 #[wv] := oa
  have F3 : Ext h h3 := Fr.trans (Ext.trans f1 f2) fa fun x hx e => by have := f1.size; omega
  have W3 : WayV h3 w.toNat wv := W1.ext (Fr.trans f2 fa fun x hx e => by omega)
  refine ⟨fun e => (by cases e), fun _ => ⟨by decide, by decide, by decide, by decide, alK fun r4 h5 e4 f4 o4 z4 => ?_⟩⟩
  have o4 : Own h5 r4 #[.pointer none, .int .i64 0, .bool false] := by rw [mk3] at o4; exact o4
  have F5 := Ext.trans F3 f4
  have oa5 := oa.ext f4
  have W5 := W3.ext f4
  have Ob5 := Ob.ext F5
  have lb := Ob.lt
  have s3 := F3.size
  have lp := oa.lt
  refine ⟨RndI w.toNat b r2 r4 wv e M h h5, 1, ⟨rfl, rfl, rfl, rfl, rfl, rfl, rfl, rfl, rfl, .inl ⟨rfl, rfl, rfl⟩⟩, ?_⟩
  rintro m g _ _ _ _ _ _ _ _ _ _ _ _ ⟨rfl, rfl, rfl, rfl, rfl, rfl, rfl, rfl, rfl, hc⟩ _
  rcases hc with ⟨rfl, rfl, rfl⟩ | ⟨rfl, rfl, Fg, r, q, Og, Ig, Op, Wg⟩
  · refine ⟨fun _ => ⟨b, 0, rfl, by decide, by decide, b, _, rfl, _, Ob5.cell _, _, _, _, Ob5.cell _, _, Ob5.cell _, ?_⟩, fun e => by simp at e⟩
    refine alK fun r6 h7 e6 f6 o6 z6 => ⟨r6, 0, rfl, o6.stC (by simp) rfl fun oq fq => oq.stC (by simp) rfl fun or fr => or.stC (by simp) rfl fun os fs => ?_⟩
    have fqs := Fr.trans (S := fun x => x = r6) (Fr.trans (S := fun x => x = r6) fq fr fun _ _ e => e) fs fun _ _ e => e
    generalize setCell (setCell (setCell h7 _ _) _ _) _ _ = h8 at *
    have os : Own h8 r6 #[.bool neg, .slice p n cc, .int .i64 e] := os
    have E8 : Ext g h8 := Fr.trans f6 fqs fun x hx e => by omega
    have N8 := (N.ext F5).ext E8
    refine ⟨r6, 0, rfl, _, os.cell _, _, _, _, os.cell _, _, os.cell _, K129 N8 fun h9 f9 => ⟨_, rfl, fun e => (by cases e), fun _ => ?_⟩⟩
    have os9 := os.ext f9
    have E9 := Ext.trans E8 f9
    refine ⟨r6, 0, rfl, _, os9.cell _, _, _, _, os9.cell _, _, os9.cell _, K1077 (N8.ext f9).d (by have := N.le; omega) fun r q h10 f10 lr lq I10 => ⟨_, _, _, rfl, ?_⟩⟩
    rw [hM] at I10
    have E10 := Ext.trans E9 f10
    refine ⟨r4, 0, rfl, by decide, by decide, r4, _, rfl, (o4.ext E10).stC (by simp) rfl fun ox fx => ox.stC (by simp) rfl fun oy fy => oy.stC (by simp) rfl fun oz fz => ?_⟩
    have fxz := Fr.trans (S := fun x => x = r4) (Fr.trans (S := fun x => x = r4) fx fy fun _ _ e => e) fz fun _ _ e => e
    have l4 := o4.lt
    have s9 := E9.size
    have E11 : Ext h _ := Fr.trans (Ext.trans F5 E10) fxz fun x hx e => by omega
    refine ⟨0, by omega, rfl, rfl, rfl, rfl, rfl, rfl, rfl, rfl, rfl, .inr ⟨rfl, rfl, E11, r, q, oz, I10.fr fxz (by omega) (by omega), (oa5.ext E10).fr fxz (by omega), ?_⟩⟩
    exact W3.ext (Fr.trans (Ext.trans f4 E10) fxz fun x hx e => by omega)
  · refine ⟨fun e => by simp at e, fun _ => ev0 (K1056 Og fun h2 f2 => ⟨_, _, _, _, rfl, ?_⟩)⟩
    refine alK fun r6 h7 e6 f6 o6 z6 => ⟨r6, 0, rfl, o6.stC (by simp) rfl fun oq fq => oq.stC (by simp) rfl fun or fr => or.stC (by simp) rfl fun os fs => ?_⟩
    have fqs := Fr.trans (S := fun x => x = r6) (Fr.trans (S := fun x => x = r6) fq fr fun _ _ e => e) fs fun _ _ e => e
    generalize setCell (setCell (setCell h7 _ _) _ _) _ _ = h8 at *
    have os : Own h8 r6 #[.pointer (some ⟨r, 0, none⟩), .int .i64 e, .bool false] := os
    have E8 : Ext g h8 := Fr.trans (Ext.trans f2 f6) fqs fun x hx e => by have := f2.size; omega
    refine ⟨fun e => (by cases e), fun _ => ⟨r6, 0, rfl, _, os.cell _, _, os.cell _, _, os.cell _, r2, 0, rfl, _, (Op.ext E8).cell _, ?_⟩⟩
    refine ev0 (K1057 (Wg.ext E8) hone (Ig.ext E8) (by rw [hnv]; omega) (by omega) (by omega) fun h9 f9 => ⟨_, _, rfl, ?_⟩)
    have HH := H h9 (Ext.trans (Ext.trans Fg E8) f9)
    unfold pz at HH
    refine ⟨fun e => ?_, fun e => ?_⟩
    · rw [if_pos (of_decide_eq_true e)] at HH; exact HH
    · rw [if_neg (of_decide_eq_false e)] at HH; exact HH
theorem num_dirV {K : Nat} {neg : Bool} {p : Option Addr} {n : Nat} {e v : Int} (N : NumS K h neg p n e v) : ∃ ds, NumI h neg p n e ds ∧ ∀ w,
    dirV w (if neg then -(val B30 ds : Int) else (val B30 ds : Int)) e = dirV w v (-K) ∧ inxV (if neg then -(val B30 ds : Int) else (val B30 ds : Int)) e = inxV v (-K) := by
  obtain ⟨M, N1, N2, N3⟩ := N
  refine ⟨_, N1, fun w => ?_⟩
  rw [digs_val (by decide)]
  have hv : v = (if neg then -(M : Int) else (M : Int)) * 2 ^ (e + (K : Int)).toNat := by
    rw [N3]
    unfold Ieee.signed
    rw [Nat.shiftLeft_eq]
    have h1 : (2 : Int) ^ (e + (K : Int)).toNat = ((2 ^ (e + (K : Int)).toNat : Nat) : Int) := by rw [Int.natCast_pow]; rfl
    rw [h1]
    cases neg
    · simp only [Bool.false_eq_true, if_false, Int.natCast_mul]
    · simp only [if_true, Int.natCast_mul, Int.neg_mul]
  obtain ⟨d1, d2⟩ := dirV_scale w (if neg then -(M : Int) else (M : Int)) (-(K : Int)) (e + (K : Int)).toNat
  rw [← hv, show -(K : Int) + ((e + (K : Int)).toNat : Int) = e by omega] at d1 d2
  exact ⟨d1.symm, d2.symm⟩
/-- round.To. -/
theorem K1030 {K : Nat} {neg : Bool} {p : Option Addr} {n c : Nat} {e v w : Int} (N : NumS K h neg p n e v) (h0 : 0 ≤ w) (h4 : w < 4)
    (H : ∀ h', Ext h h' → R (.returned (.tuple #[.int .i64 (pz (dirV w.toNat v (-K))), .bool (inxV v (-K)), .int .i64 (0 : Int)])) h') :
    Ent Tryz.prog B 29 #[.agg #[.bool neg, .slice p n c, .int .i64 e], .int .i64 w] R h := by
  refine F1030_ok _ _ _ _ _ _ (alK fun r1 h1 e1 f1 o1 z1 => ⟨r1, 0, rfl, _, o1.cell _, _, _, _, o1.cell _, _, o1.cell _, alK fun r2 h2 e2 f2 o2 z2 => ?_⟩)
  obtain ⟨ds, N1, Hd⟩ := num_dirV N
  obtain ⟨d1, d2⟩ := Hd w.toNat
  refine K1055s o2 ((N1.ext f1).ext f2) h0 h4 fun h3 f3 => ⟨_, _, _, rfl, ?_⟩
  rw [d1, d2]
  exact H h3 (Ext.trans (Ext.trans f1 f2) f3)
end Go.Proofs
set_option linter.unusedVariables false
namespace Go.Eng
open Go
theorem pow2_odd {m : Int} {i j : Nat} (ho : m = 0 ∨ m.natAbs % 2 = 1) (h : m * 2 ^ i = 2 ^ j) : m = 1 ∧ i = j := by
  have hj : (0 : Int) < 2 ^ j := Int.pow_pos (by decide)
  have hi : (0 : Int) < 2 ^ i := Int.pow_pos (by decide)
  have hm : 0 < m := by
    rcases Int.lt_or_le 0 m with h1 | h1
    · exact h1
    · have := Int.mul_nonpos_of_nonpos_of_nonneg h1 (Int.le_of_lt hi); omega
  obtain ⟨k, rfl⟩ : ∃ k : Nat, m = (k : Int) := ⟨m.toNat, by omega⟩
  have hk : k % 2 = 1 := by rcases ho with h | h <;> omega
  have hN : k * 2 ^ i = 2 ^ j := by
    have : ((k * 2 ^ i : Nat) : Int) = ((2 ^ j : Nat) : Int) := by rw [Int.natCast_mul, Int.natCast_pow, Int.natCast_pow]; exact h
    exact Int.ofNat.inj this
  rcases Nat.lt_trichotomy i j with h1 | h1 | h1
  · exfalso
    have : k = 2 ^ (j - i) := by
      have e : 2 ^ j = 2 ^ (j - i) * 2 ^ i := by rw [← Nat.pow_add]; congr 1; omega
      rw [e] at hN
      exact Nat.eq_of_mul_eq_mul_right (Nat.pow_pos (by decide)) hN
    rw [show j - i = (j - i - 1) + 1 by omega, Nat.pow_succ] at this
    omega
  · subst h1
    have := Nat.eq_of_mul_eq_mul_right (Nat.pow_pos (by decide)) (hN.trans (Nat.one_mul _).symm)
    exact ⟨by omega, rfl⟩
  · exfalso
    have h2 : 2 ^ j < 2 ^ i := Nat.pow_lt_pow_right (by decide) h1
    have h3 : 1 * 2 ^ i ≤ k * 2 ^ i := Nat.mul_le_mul_right _ (by omega)
    omega
end Go.Eng
namespace Go.Proofs
open Go Go.Eng
variable {B : World} {R : Ending → Heap → Prop} {h : Heap}
end Go.Proofs
set_option linter.unusedVariables false
namespace Go.Proofs
open Go Go.Eng
variable {B : World} {R : Ending → Heap → Prop} {h : Heap}
/-- A float that is 2^e, e from 0 on. -/
def Pw (b : Int) (e : Nat) : Prop := I64 b ∧ isFin b = true ∧ fV b = 2 ^ (e + 1074) ∧ e ≤ 30
theorem Pw.val {b m ee : Int} {e : Nat} (P : Pw b e) (h1 : -1074 ≤ ee) (h : fV b = m * 2 ^ (ee + 1074).toNat) (ho : m = 0 ∨ m.natAbs % 2 = 1) : m = 1 ∧ ee = (e : Int) := by
  rw [P.2.2.1] at h
  obtain ⟨a, b⟩ := pow2_odd ho h.symm
  exact ⟨a, by omega⟩
end Go.Proofs
set_option linter.unusedVariables false
/-! The order of floats is that of their ranks. -/
namespace Go.Eng
open Go
/-- A rank's magnitude, in units of 2^-1074. -/
def magK (k : Nat) : Nat := if k / 4503599627370496 = 0 then k % 4503599627370496 else (4503599627370496 + k % 4503599627370496) * 2 ^ (k / 4503599627370496 - 1)
theorem magK_step (k : Nat) : magK k < magK (k + 1) := by
  unfold magK
  by_cases h : k % 4503599627370496 + 1 < 4503599627370496
  · rw [show (k + 1) / 4503599627370496 = k / 4503599627370496 by omega, show (k + 1) % 4503599627370496 = k % 4503599627370496 + 1 by omega]
    split
    · omega
    · exact Nat.mul_lt_mul_of_pos_right (by omega) (Nat.pow_pos (by decide))
  · have e1 : (k + 1) / 4503599627370496 = k / 4503599627370496 + 1 := by omega
    have e2 : (k + 1) % 4503599627370496 = 0 := by omega
    have e3 : k % 4503599627370496 = 4503599627370495 := by omega
    rw [e1, e2, e3, if_neg (show ¬ k / 4503599627370496 + 1 = 0 by omega)]
    by_cases h0 : k / 4503599627370496 = 0
    · rw [if_pos h0, h0]; decide
    · rw [if_neg h0]
      obtain ⟨E, hE⟩ : ∃ E, k / 4503599627370496 = E + 1 := ⟨k / 4503599627370496 - 1, by omega⟩
      rw [hE, show E + 1 - 1 = E by omega, show E + 1 + 1 - 1 = E + 1 by omega, Nat.pow_succ]
      have : 0 < 2 ^ E := Nat.pow_pos (by decide)
      generalize 2 ^ E = p at *
      omega
theorem magK_lt {k j : Nat} (h : k < j) : magK k < magK j := by
  obtain ⟨d, rfl⟩ : ∃ d, j = k + 1 + d := ⟨j - (k + 1), by omega⟩
  clear h
  induction d with
  | zero => exact magK_step k
  | succ d ih => exact Nat.lt_trans ih (magK_step (k + 1 + d))
theorem magK_zero : magK 0 = 0 := rfl
theorem fV_mag {ng : Bool} {k : Nat} (hk : k < 9218868437227405312) : fV (pat ng k) = if ng then -(magK k : Int) else (magK k : Int) := by
  unfold fV
  rw [pat_neg ng (by omega)]
  have e : fM (pat ng k) * 2 ^ (fX (pat ng k) + 1074).toNat = magK k := by
    unfold fM fX magK
    rw [pat_fE ng (by omega), pat_fT ng (by omega)]
    by_cases h : k / 4503599627370496 = 0
    · rw [if_pos h, if_pos h, if_pos h]
      show _ * 2 ^ 0 = _
      rw [Nat.pow_zero, Nat.mul_one]
    · rw [if_neg h, if_neg h, if_neg h, show ((k / 4503599627370496 : Nat) : Int) - 1075 + 1074 = ((k / 4503599627370496 - 1 : Nat) : Int) by omega, Int.toNat_natCast]
  unfold Ieee.signed
  rw [Nat.shiftLeft_eq, e]
/-- A pattern's rank. -/
def rk (a : Int) : Int := if a < 0 then -(a + 9223372036854775808) else a
theorem rk_pat {ng : Bool} {k : Nat} (hk : k < 9223372036854775808) : rk (pat ng k) = if ng then -(k : Int) else (k : Int) := by
  unfold rk pat
  cases ng
  · simp only [Bool.false_eq_true, if_false]; rw [if_neg (by omega)]
  · simp only [if_true]; rw [if_pos (by omega)]; omega
/-- What is no NaN is a sign and a rank. -/
theorem as_pat {a : Int} (ha : I64 a) (hn : isNaN a = false) : ∃ ng k, k ≤ 9218868437227405312 ∧ a = pat ng k := by
  unfold I64 at ha
  unfold isNaN fE fT at hn
  refine ⟨decide (a < 0), (if a < 0 then a + 9223372036854775808 else a).toNat, ?_, ?_⟩
  · rw [Bool.and_eq_false_iff, decide_eq_false_iff_not, Bool.not_eq_false', decide_eq_true_eq] at hn
    split <;> omega
  · unfold pat
    by_cases h : a < 0
    · simp only [decide_eq_true h, if_true, if_pos h]; omega
    · simp only [decide_eq_false h, Bool.false_eq_true, if_false, if_neg h]; omega
theorem mag_sgn {ng mg : Bool} {k j : Nat} : ((if ng then -(magK k : Int) else (magK k : Int)) < (if mg then -(magK j : Int) else (magK j : Int)) ↔ (if ng then -(k : Int) else (k : Int)) < (if mg then -(j : Int) else (j : Int))) ∧
    ((if ng then -(magK k : Int) else (magK k : Int)) = (if mg then -(magK j : Int) else (magK j : Int)) ↔ (if ng then -(k : Int) else (k : Int)) = (if mg then -(j : Int) else (j : Int))) := by
  have h1 := @magK_lt k j
  have h2 := @magK_lt j k
  have h3 := @magK_lt 0 k
  have h4 := @magK_lt 0 j
  have h5 : k = j → magK k = magK j := fun e => by rw [e]
  rw [magK_zero] at h3 h4
  have h6 : k = 0 → magK k = 0 := fun e => by rw [e, magK_zero]
  have h7 : j = 0 → magK j = 0 := fun e => by rw [e, magK_zero]
  generalize magK k = x at *
  generalize magK j = y at *
  cases ng <;> cases mg <;> simp only [Bool.false_eq_true, if_false, if_true] <;> omega
theorem fV_rk {a b : Int} (ha : I64 a) (hb : I64 b) (fa : isFin a = true) (fb : isFin b = true) : (fV a < fV b ↔ rk a < rk b) ∧ (fV a = fV b ↔ rk a = rk b) := by
  have na : isNaN a = false := (fin_not fa).1
  have nb : isNaN b = false := (fin_not fb).1
  obtain ⟨s, k, hk, rfl⟩ := as_pat ha na
  obtain ⟨t, j, hj, rfl⟩ := as_pat hb nb
  have lk : k < 9218868437227405312 := by
    unfold isFin at fa
    rw [pat_fE s (by omega), decide_eq_true_eq] at fa
    omega
  have lj : j < 9218868437227405312 := by
    unfold isFin at fb
    rw [pat_fE t (by omega), decide_eq_true_eq] at fb
    omega
  rw [fV_mag lk, fV_mag lj, rk_pat (by omega), rk_pat (by omega)]
  exact mag_sgn
end Go.Eng
set_option linter.unusedVariables false
/-! The rung below, as a value. -/
namespace Go.Eng
open Go
theorem cut_bd {m : Nat} (e : Int) (hm : m ≠ 0) : cutX m e < 2 ^ (53 + cutD m e) ∧ (lastP m e ≠ -1074 → 2 ^ (52 + cutD m e) ≤ cutX m e) := by
  have h := (Nat.log2_eq_iff hm).1 rfl
  unfold cutX cutD
  have hL : lastP m e = max (e + m.log2 - 52) (-1074) := rfl
  generalize lastP m e = L at *
  by_cases hc : L ≤ e
  · rw [show (L - e).toNat = 0 by omega]
    obtain ⟨j, hj⟩ : ∃ j : Nat, (e - L).toNat = j ∧ m.log2 + j ≤ 52 := ⟨_, rfl, by omega⟩
    rw [hj.1]
    refine ⟨?_, fun hne => ?_⟩
    · have a1 : m * 2 ^ j < 2 ^ (m.log2 + 1) * 2 ^ j := Nat.mul_lt_mul_of_pos_right h.2 (Nat.pow_pos (by decide))
      rw [← Nat.pow_add] at a1
      exact Nat.lt_of_lt_of_le a1 (Nat.pow_le_pow_right (by decide) (by omega))
    · have a2 : 2 ^ m.log2 * 2 ^ j ≤ m * 2 ^ j := Nat.mul_le_mul_right _ h.1
      rw [← Nat.pow_add, show m.log2 + j = 52 + 0 by omega] at a2
      exact a2
  · rw [show (e - L).toNat = 0 by omega, Nat.pow_zero, Nat.mul_one]
    refine ⟨Nat.lt_of_lt_of_le h.2 (Nat.pow_le_pow_right (by decide) (by omega)), fun hne => ?_⟩
    exact Nat.le_trans (Nat.pow_le_pow_right (by decide) (by omega)) h.1
theorem magK_form {L q : Nat} (h1 : q ≤ 9007199254740992) (h2 : L = 0 ∨ 4503599627370496 ≤ q) : magK (L * 4503599627370496 + q) = q * 2 ^ L := by
  unfold magK
  by_cases hq : q < 4503599627370496
  · have hL : L = 0 := by omega
    subst hL
    rw [show (0 * 4503599627370496 + q) / 4503599627370496 = 0 by omega, if_pos rfl, Nat.pow_zero]
    omega
  · by_cases hq2 : q = 9007199254740992
    · subst hq2
      rw [show (L * 4503599627370496 + 9007199254740992) / 4503599627370496 = L + 2 by omega, show (L * 4503599627370496 + 9007199254740992) % 4503599627370496 = 0 by omega, if_neg (by omega), show L + 2 - 1 = L + 1 by omega, Nat.pow_succ]
      generalize 2 ^ L = p
      omega
    · rw [show (L * 4503599627370496 + q) / 4503599627370496 = L + 1 by omega, show (L * 4503599627370496 + q) % 4503599627370496 = q - 4503599627370496 by omega, if_neg (by omega), show L + 1 - 1 = L by omega, show 4503599627370496 + (q - 4503599627370496) = q by omega]
theorem flo_val {m K : Nat} (hK : 1074 ≤ K) (hm : m ≠ 0) : magK (flo m (-(K : Int))) * 2 ^ (K - 1074) ≤ m ∧ m < magK (flo m (-(K : Int)) + 1) * 2 ^ (K - 1074) ∧ odd m (-(K : Int)) = decide (magK (flo m (-(K : Int))) * 2 ^ (K - 1074) ≠ m) := by
  obtain ⟨b1, b2⟩ := cut_bd (-(K : Int)) hm
  have hl := lastP_ge m (-(K : Int))
  have hX : cutX m (-(K : Int)) = m := by unfold cutX; rw [show (-(K : Int) - lastP m (-(K : Int))).toNat = 0 by omega, Nat.pow_zero, Nat.mul_one]
  have hD : cutD m (-(K : Int)) = (lastP m (-(K : Int)) + 1074).toNat + (K - 1074) := by unfold cutD; omega
  have p : 0 < 2 ^ cutD m (-(K : Int)) := Nat.pow_pos (by decide)
  have q1 : cutX m (-(K : Int)) / 2 ^ cutD m (-(K : Int)) < 9007199254740992 := by
    rw [Nat.div_lt_iff_lt_mul p, show (9007199254740992 : Nat) = 2 ^ 53 by decide, ← Nat.pow_add]; exact b1
  have q2 : (lastP m (-(K : Int)) + 1074).toNat = 0 ∨ 4503599627370496 ≤ cutX m (-(K : Int)) / 2 ^ cutD m (-(K : Int)) := by
    by_cases h : lastP m (-(K : Int)) = -1074
    · left; omega
    · right
      rw [Nat.le_div_iff_mul_le p, show (4503599627370496 : Nat) = 2 ^ 52 by decide, ← Nat.pow_add]; exact b2 h
  have e1 : magK (flo m (-(K : Int))) = cutX m (-(K : Int)) / 2 ^ cutD m (-(K : Int)) * 2 ^ (lastP m (-(K : Int)) + 1074).toNat := magK_form (by omega) q2
  have e2 : magK (flo m (-(K : Int)) + 1) = (cutX m (-(K : Int)) / 2 ^ cutD m (-(K : Int)) + 1) * 2 ^ (lastP m (-(K : Int)) + 1074).toNat := by
    unfold flo; rw [Nat.add_assoc]; exact magK_form (by omega) (by omega)
  rw [e1, e2, Nat.mul_assoc, Nat.mul_assoc, ← Nat.pow_add, ← hD]
  unfold odd
  rw [hX]
  generalize 2 ^ cutD m (-(K : Int)) = d at *
  have dm := Nat.div_add_mod m d
  have ml := Nat.mod_lt m p
  rw [Nat.add_mul, Nat.one_mul, Nat.mul_comm (m / d) d]
  refine ⟨by omega, by omega, ?_⟩
  rw [decide_eq_decide]; omega
end Go.Eng
set_option linter.unusedVariables false
/-! The nearest of the two floats beside a number. -/
namespace Go.Eng
open Go
/-- A number goes to the rung above just where that one is nearer, or as near and even. -/
theorem near_val {m K : Nat} (hK : 1074 ≤ K) (hm : m ≠ 0) : incN m (-(K : Int)) = decide (magK (flo m (-(K : Int)) + 1) * 2 ^ (K - 1074) - m < m - magK (flo m (-(K : Int))) * 2 ^ (K - 1074) ∨
    (magK (flo m (-(K : Int)) + 1) * 2 ^ (K - 1074) - m = m - magK (flo m (-(K : Int))) * 2 ^ (K - 1074) ∧ flo m (-(K : Int)) % 2 = 1)) := by
  obtain ⟨b1, b2⟩ := cut_bd (-(K : Int)) hm
  have hl := lastP_ge m (-(K : Int))
  have hX : cutX m (-(K : Int)) = m := by unfold cutX; rw [show (-(K : Int) - lastP m (-(K : Int))).toNat = 0 by omega, Nat.pow_zero, Nat.mul_one]
  have hD : cutD m (-(K : Int)) = (lastP m (-(K : Int)) + 1074).toNat + (K - 1074) := by unfold cutD; omega
  have p : 0 < 2 ^ cutD m (-(K : Int)) := Nat.pow_pos (by decide)
  have q1 : cutX m (-(K : Int)) / 2 ^ cutD m (-(K : Int)) < 9007199254740992 := by
    rw [Nat.div_lt_iff_lt_mul p, show (9007199254740992 : Nat) = 2 ^ 53 by decide, ← Nat.pow_add]; exact b1
  have q2 : (lastP m (-(K : Int)) + 1074).toNat = 0 ∨ 4503599627370496 ≤ cutX m (-(K : Int)) / 2 ^ cutD m (-(K : Int)) := by
    by_cases h : lastP m (-(K : Int)) = -1074
    · left; omega
    · right
      rw [Nat.le_div_iff_mul_le p, show (4503599627370496 : Nat) = 2 ^ 52 by decide, ← Nat.pow_add]; exact b2 h
  have e1 : magK (flo m (-(K : Int))) = cutX m (-(K : Int)) / 2 ^ cutD m (-(K : Int)) * 2 ^ (lastP m (-(K : Int)) + 1074).toNat := magK_form (by omega) q2
  have e2 : magK (flo m (-(K : Int)) + 1) = (cutX m (-(K : Int)) / 2 ^ cutD m (-(K : Int)) + 1) * 2 ^ (lastP m (-(K : Int)) + 1074).toNat := by
    unfold flo; rw [Nat.add_assoc]; exact magK_form (by omega) (by omega)
  have ef : flo m (-(K : Int)) % 2 = cutX m (-(K : Int)) / 2 ^ cutD m (-(K : Int)) % 2 := by unfold flo; omega
  rw [e1, e2, Nat.mul_assoc, Nat.mul_assoc, ← Nat.pow_add, ← hD, ef]
  unfold incN
  rw [hX] at *
  have d1 := Nat.div_add_mod m (2 ^ cutD m (-(K : Int)))
  have d2 := Nat.mod_lt m p
  clear b1 b2 hD q1 q2 e1 e2 ef
  generalize 2 ^ cutD m (-(K : Int)) = D at *
  rw [Nat.add_mul, Nat.one_mul, decide_eq_decide]
  rw [Nat.mul_comm] at d1
  generalize m / D * D = u at *
  generalize m % D = r at *
  generalize m / D = q at *
  omega
/-- The nearest is one of both beside the number. -/
theorem rung_side (m : Nat) (e : Int) : rung m e = min (flo m e + (incN m e).toNat) INF := rung_idx m e false
end Go.Eng
