import Derived.Test.YtedmhkimbbkdgaaGreatFmtA10
import Derived.Test.YtedmhkimbbkdgaaGreatFmtA12
/- Here stand lemmas: dyadic: contracts, first part. -/
set_option linter.unusedVariables false
namespace Go.Proofs
open Go Go.Eng
variable {B : World} {R : Ending → Heap → Prop} {h : Heap}
abbrev B30 : Nat := 1073741824
/-- A number's digits, to the base 2^30. -/
structure DigI (h : Heap) (p : Option Addr) (n : Nat) (ds : List Nat) : Prop where
  pt : Pt p
  sl : Sl .i64 h p ds
  len : ds.length = n
  dig : Dig B30 ds
  trim : Trim ds
theorem DigI.ext {h h' : Heap} {p : Option Addr} {n : Nat} {ds : List Nat} (H : DigI h p n ds) (f : Ext h h') : DigI h' p n ds := ⟨H.pt, H.sl.ext f, H.len, H.dig, H.trim⟩
/-- nat.Valid of valid digits. -/
theorem K174 {p : Option Addr} {n c : Nat} {ds : List Nat} (hd : DigI h p n ds) (hn : n ≤ 2000) (H : R (.returned (.bool true)) h) : Ent Tryz.prog B 31 #[.slice p n c] R h := by
  have hl := hd.len
  refine F174_ok _ _ _ ⟨fun m vs h' => match vs with
    | [.slice p1 n1 _, .slice p2 n2 _, .int _ nn, .int _ i] => p = p1 ∧ n = n1 ∧ p = p2 ∧ n = n2 ∧ (n : Int) = nn ∧ h = h' ∧ ∃ j : Nat, i = (j : Int) ∧ j ≤ n ∧ m = n - j
    | _ => False, n, ⟨rfl, rfl, rfl, rfl, rfl, rfl, 0, rfl, by omega, rfl⟩, ?_⟩
  rintro m h' _ _ _ _ _ _ _ _ ⟨rfl, rfl, rfl, rfl, rfl, rfl, j, rfl, hj, rfl⟩ _
  refine ⟨fun e => ?_, fun e => ⟨fun e1 => ⟨fun _ => H, fun e2 => ?_⟩, fun e1 => ?_⟩⟩
  · have hjn : j < n := by simp at e; omega
    have dj : ds[j]'(by omega) < 1073741824 := hd.dig.get (by omega)
    refine hd.sl.get j rfl (by omega) (by omega) ⟨fun e => by simp at e; omega, fun _ => ?_⟩
    have : decide ((1073741824 : Int) ≤ ((ds[j]'(by omega) : Nat) : Int)) = false := by simp; omega
    rw [this]
    exact ⟨fun e => (by cases e), fun _ => ⟨n - (j + 1), by omega, rfl, rfl, rfl, rfl, rfl, rfl, j + 1, by rw [i64_in (by omega) (by omega)]; rfl, by omega, rfl⟩⟩
  · have hn0 : 0 < n := by simp at e2; omega
    refine hd.sl.get (n - 1) (by rw [i64_in (by omega) (by omega)]; omega) (by omega) (by omega) ?_
    have hw : ds[n - 1]'(by omega) ≠ 0 := by
      intro e0
      apply hd.trim
      rw [List.getLast?_eq_getElem?, hl, List.getElem?_eq_getElem (by omega), e0]
    have : (!decide (((ds[n - 1]'(by omega) : Nat) : Int) = 0)) = true := by simp; omega
    rw [this]; exact H
  · simp at e1; omega
theorem bl_dig {b k : Nat} {ds : List Nat} (hb : b = 2 ^ k) (hd : Dig b ds) : bl (val b ds) ≤ k * ds.length := by
  rw [bl_le_iff, Nat.pow_mul, ← hb]; exact val_lt hd
theorem or30 {v d : Nat} (hd : d < B30) : v * 2 ^ 30 ||| d = v * 2 ^ 30 + d := or_add hd
/-- dyadic.whole. -/
theorem K130 {neg : Bool} {p : Option Addr} {n c : Nat} {ds : List Nat} (hd : DigI h p n ds) (hn : n ≤ 30000)
    (H : ∀ (r q : Nat) (h' : Heap), Ext h h' → h.size ≤ r → h.size ≤ q → IntAt h' r q (if neg then -(val B30 ds : Int) else (val B30 ds : Int)) → R (.returned (.pointer (some ⟨r, 0, none⟩))) h') :
    Ent Tryz.prog B 63 #[.bool neg, .slice p n c] R h := by
  have hl := hd.len
  have hbl : ∀ j, j ≤ n → bl (val B30 (ds.drop j)) ≤ 30 * (n - j) := fun j hj => by
    have := bl_dig (k := 30) rfl (hd.dig.drop j)
    rw [List.length_drop, hl] at this; exact this
  refine F130_ok _ _ _ _ ?_
  refine ⟨fun m vs h' => match vs with
    | [.bool z, .slice p1 n1 c1, .pointer pr, .int _ nn, .int _ i] => neg = z ∧ p = p1 ∧ n = n1 ∧ c = c1 ∧ some (⟨h.size, 0, none⟩ : Addr) = pr ∧ (n : Int) = nn ∧ ∃ (j q : Nat), i = (j : Int) ∧ j ≤ n ∧ m = n - j ∧ Ext h h' ∧ h.size ≤ q ∧ IntAt h' h.size q (val B30 (ds.drop (n - j)) : Int)
    | _ => False, n, ⟨rfl, rfl, rfl, rfl, rfl, rfl, 0, h.size, rfl, by omega, rfl, Ext.push, Nat.le_refl _, ?_⟩, ?_⟩
  · rw [Nat.sub_zero, List.drop_of_length_le (by omega)]
    exact ZeroAt.int own_new
  rintro m h' _ _ _ _ _ _ _ ⟨rfl, rfl, rfl, rfl, rfl, rfl, j, q, rfl, hj, rfl, f, hq, hI⟩ _
  refine ⟨fun e => ?_, fun e => ?_⟩
  · have hjn : j < n := by simp at e; omega
    have hb1 := hbl (n - j) (by omega)
    refine K128i (s := 30) hI (by rw [Int.natAbs_natCast]; omega) (by decide) (by decide) fun q1 h1 f1 d1 I1 => ⟨_, rfl, ?_⟩
    have hhs := f.size
    have hq1 : h.size ≤ q1 := by rcases d1 with e | e | e; omega; exact e.1 ▸ hq; omega
    have fx : Ext h h1 := Fr.trans f f1 fun x hx e => by rcases e with e | e; omega; have := e.1; omega
    have dj : ds[n - 1 - j]'(by omega) < 1073741824 := hd.dig.get (by omega)
    have ei : IntKind.i64.wrap (IntKind.i64.wrap ((n : Int) - 1) - (j : Int)) = ((n - 1 - j : Nat) : Int) := by
      rw [i64_in (x := (n : Int) - 1) (by omega) (by omega), i64_in (by omega) (by omega)]; omega
    rw [ei]
    refine (hd.sl.ext fx).get (n - 1 - j) rfl (by omega) (by omega) (K120 (by omega) (by omega) fun r2 q2 h2 f2 hr2 hr2' hq2 I2 => ⟨_, rfl, ?_⟩)
    have ev : ((val B30 (ds.drop (n - j)) : Nat) : Int) * 2 ^ 30 = ((val B30 (ds.drop (n - j)) * 2 ^ 30 : Nat) : Int) := by
      rw [Int.natCast_mul, Int.natCast_pow]; rfl
    rw [ev] at I1
    have hdr : val B30 (ds.drop (n - (j + 1))) = (val B30 (ds.drop (n - j)) * 2 ^ 30 ||| ds[n - 1 - j]'(by omega)) := by
      rw [or30 dj, show n - (j + 1) = n - 1 - j by omega, val_drop _ _ (by omega), show n - 1 - j + 1 = n - j by omega, show (2 : Nat) ^ 30 = B30 from rfl, Nat.mul_comm B30]; omega
    have hpos : 0 < val B30 (ds.drop (n - (j + 1))) := by
      have hne : ds.drop (n - (j + 1)) ≠ [] := by
        intro e0
        have := congrArg List.length e0
        rw [List.length_drop] at this; simp at this; omega
      have ht : Trim (ds.drop (n - (j + 1))) := by
        have := hd.trim
        unfold Trim at this ⊢
        rw [List.getLast?_drop, if_neg (by omega)]; exact this
      exact Nat.lt_of_lt_of_le (Nat.pow_pos (by decide)) (val_pos hne ht (by decide : 0 < B30))
    have hI1 := I1.ext f2
    have hb2 : bl (val B30 (ds.drop (n - j)) * 2 ^ 30) ≤ 1000000 := by
      have h1 := bl_lt (val B30 (ds.drop (n - j)))
      have h2 : val B30 (ds.drop (n - j)) * 2 ^ 30 < 2 ^ bl (val B30 (ds.drop (n - j))) * 2 ^ 30 := Nat.mul_lt_mul_of_pos_right h1 (Nat.pow_pos (by decide))
      rw [← Nat.pow_add] at h2
      exact bl_of_lt h2 (by omega)
    have hb3 : bl (ds[n - 1 - j]'(by omega)) ≤ 1000000 := by
      have : bl (ds[n - 1 - j]'(by omega)) ≤ 30 := bl_le_iff.2 dj
      omega
    refine K175i hI1 I2 (by have := I1.lq; omega) hb2 hb3 (by rw [← hdr]; exact hpos) fun q3 h3 f3 d3 I3 => ⟨_, rfl, n - (j + 1), by omega, rfl, rfl, rfl, rfl, rfl, rfl, j + 1, q3, by rw [i64_in (by omega) (by omega)]; rfl, by omega, rfl, ?_, ?_, ?_⟩
    · exact Fr.trans (Ext.trans fx f2) f3 fun x hx e => by rcases e with e | e; omega; have := e.1; omega
    · have := fx.size; have := f2.size
      rcases d3 with e | e | e; omega; have := e.1; omega; omega
    · rw [hdr]; exact I3
  · have hjn : j = n := by simp at e; omega
    subst hjn
    rw [Nat.sub_self, List.drop_zero] at hI
    have hhs := f.size
    cases neg with
    | false => exact ⟨fun e => (by cases e), fun _ => H _ _ _ f (Nat.le_refl _) hq hI⟩
    | true =>
      refine ⟨fun _ => K74i hI fun q1 h1 f1 d1 I1 => ⟨_, rfl, ?_⟩, fun e => (by cases e)⟩
      refine H _ q1 _ (Fr.trans f f1 fun x hx e => by rcases e with e | e; omega; have := e.1; omega) (Nat.le_refl _) ?_ I1
      rcases d1 with e | e | e; omega; exact e.1 ▸ hq; omega
end Go.Proofs
namespace Go.Proofs
open Go Go.Eng
variable {B : World} {R : Ending → Heap → Prop} {h : Heap}
theorem and1_i64 {a : Nat} (ha : a < 9223372036854775808) : bitsI .and .i64 (a : Int) (1 : Int) = ((a % 2 : Nat) : Int) := by
  have h1 : bitsI .and .i64 (a : Int) (1 : Int) = IntKind.i64.wrap (((BitVec.ofInt 64 (a : Int) &&& BitVec.ofInt 64 ((1 : Nat) : Int)).toNat : Nat) : Int) := rfl
  rw [h1, ofInt_nat, ofInt_nat, BitVec.toNat_and, BitVec.toNat_ofNat, BitVec.toNat_ofNat, Nat.mod_eq_of_lt (by omega : a < 2 ^ 64), Nat.mod_eq_of_lt (by omega : 1 < 2 ^ 64), show a &&& 1 = a % 2 from Nat.and_two_pow_sub_one_eq_mod a 1]
  exact i64_in (by omega) (by omega)
/-- An exact number in its one form. -/
structure NumI (h : Heap) (neg : Bool) (p : Option Addr) (n : Nat) (e : Int) (ds : List Nat) : Prop where
  d : DigI h p n ds
  le : n ≤ 2000
  zero : n = 0 → neg = false ∧ e = 0
  pos : 0 < n → val B30 ds % 2 = 1 ∧ -1048576 ≤ e ∧ e ≤ 1048576
theorem NumI.ext {h h' : Heap} {neg : Bool} {p : Option Addr} {n : Nat} {e : Int} {ds : List Nat} (H : NumI h neg p n e ds) (f : Ext h h') : NumI h' neg p n e ds := ⟨H.d.ext f, H.le, H.zero, H.pos⟩
theorem val_mod2 {ds : List Nat} (hn : 0 < ds.length) : val B30 ds % 2 = ds[0] % 2 := by
  have := val_drop B30 ds (i := 0) hn
  rw [List.drop_zero] at this
  rw [this]; unfold B30; omega
/-- dyadic.Valid of a valid one. -/
theorem K129 {neg : Bool} {p : Option Addr} {n c : Nat} {e : Int} {ds : List Nat} (hx : NumI h neg p n e ds) (H : ∀ h', Ext h h' → R (.returned (.bool true)) h') : Ent Tryz.prog B 15 #[.agg #[.bool neg, .slice p n c, .int .i64 e]] R h := by
  have o : Own (h.push (.cells #[.bool neg, .slice p n c, .int .i64 e] 27)) h.size #[.bool neg, .slice p n c, .int .i64 e] := own_new
  have f : Ext h (h.push (.cells #[.bool neg, .slice p n c, .int .i64 e] 27)) := Ext.push
  have ld0 : ∀ {K : Bool → Prop}, K neg → isP (some ⟨h.size, 0, none⟩) fun b o => isP (some ⟨b, o, none⟩) fun b o => ∃ x, cell? (h.push (.cells #[.bool neg, .slice p n c, .int .i64 e] 27)) ⟨b, o, none⟩ = some (.bool x) ∧ K x :=
    fun k => ⟨h.size, 0, rfl, h.size, 0, rfl, neg, o.cell _, k⟩
  have ld1 : ∀ {K : Option Addr → Nat → Nat → Prop}, K p n c → isP (some ⟨h.size, 0, none⟩) fun b o => isP (some ⟨b, o + 1, none⟩) fun b o => ∃ x xn xc, cell? (h.push (.cells #[.bool neg, .slice p n c, .int .i64 e] 27)) ⟨b, o, none⟩ = some (.slice x xn xc) ∧ K x xn xc :=
    fun k => ⟨h.size, 0, rfl, h.size, 0 + 1, rfl, p, n, c, o.cell _, k⟩
  have ld2 : ∀ {K : Int → Prop}, K e → isP (some ⟨h.size, 0, none⟩) fun b o => isP (some ⟨b, o + 2, none⟩) fun b o => ∃ x, cell? (h.push (.cells #[.bool neg, .slice p n c, .int .i64 e] 27)) ⟨b, o, none⟩ = some (.int .i64 x) ∧ K x :=
    fun k => ⟨h.size, 0, rfl, h.size, 0 + 2, rfl, e, o.cell _, k⟩
  refine F129_ok _ _ _ _ _ (ld1 ⟨fun e0 => ld0 ?_, fun e0 => ld1 (K174 (hx.d.ext f) hx.le ⟨_, rfl, fun _ => ld1 ?_, fun e => (by cases e)⟩)⟩)
  · have hn : n = 0 := by simpa using e0
    obtain ⟨rfl, rfl⟩ := hx.zero hn
    exact ⟨fun _ => ld2 (H _ f), fun e => (by cases e)⟩
  · have hn : 0 < n := by simp at e0; omega
    obtain ⟨p1, p2, p3⟩ := hx.pos hn
    have hl := hx.d.len
    have hdg : ds[0]'(by omega) < 1073741824 := hx.d.dig.get (by omega)
    refine (hx.d.sl.ext f).get 0 rfl (by omega) (by omega) ?_
    rw [and1_i64 (by omega), ← val_mod2, p1]
    refine ⟨fun _ => ld2 ⟨fun _ => ld2 ?_, fun e => ?_⟩, fun e => by simp at e⟩
    · have : decide (e ≤ (1048576 : Int)) = true := by simp; omega
      rw [this]; exact H _ f
    · simp at e; omega
end Go.Proofs
namespace Go.Eng
open Go
theorem alK {h : Heap} {cs : Array Value} {e : TypeId} {K : Nat → Heap → Prop} (k : ∀ r h', r = h.size → Ext h h' → Own h' r cs → h'.size = h.size + 1 → K r h') : alW h (.cells cs e) K :=
  k _ _ rfl Ext.push own_new (by simp)
theorem same1 {h h' : Heap} {b o : Nat} {cs : Array Value} {S : Nat → Prop} (H : Own h b cs) (f : Fr S h h') (hb : ¬ S b) : sameCells h h' b o 1 := by
  have h1 := H.fr f hb
  simp only [sameCells]
  simp [H.cell, h1.cell]
end Go.Eng
namespace Go.Proofs
open Go Go.Eng
variable {B : World} {R : Ending → Heap → Prop} {h : Heap}
/-- dyadic.times, one of the two being of one word at most. -/
theorem K68 {r q ry qy : Nat} {v w : Int} {e f : Int} (hx : IntAt h r q v) (hy : IntAt h ry qy w) (hxy : r ≠ ry) (hb : bl v.natAbs ≤ 1000000) (hb2 : bl w.natAbs ≤ 1000000)
    (h64 : bl v.natAbs ≤ 64 ∨ bl w.natAbs ≤ 64) (he : -4611686018427387904 ≤ e ∧ e ≤ 4611686018427387903) (hf : -4611686018427387904 ≤ f ∧ f ≤ 4611686018427387903)
    (H : ∀ (rz qz : Nat) (h' : Heap), Ext h h' → h.size ≤ rz → h.size ≤ qz → IntAt h' rz qz (v * w) → R (.returned (.agg #[.pointer (some ⟨rz, 0, none⟩), .int .i64 (e + f)])) h') :
    Ent Tryz.prog B 115 #[.agg #[.pointer (some ⟨r, 0, none⟩), .int .i64 e], .agg #[.pointer (some ⟨ry, 0, none⟩), .int .i64 f]] R h := by
  refine F68_ok _ _ _ _ (alK fun r5 h6 e5 f5 o5 z5 => alK fun r7 h8 e7 f7 o7 z7 => alK fun r9 h10 e9 f9 o9 z9 => ?_)
  have o5' := (o5.ext f7).ext f9
  have o7' := o7.ext f9
  have f10 : Ext h h10 := Ext.trans f5 (Ext.trans f7 f9)
  refine ⟨r5, 0, rfl, r5, 0, rfl, _, o5'.cell _, r7, 0, rfl, r7, 0, rfl, _, o7'.cell _, r5, 0, rfl, r5, 0 + 1, rfl, _, o5'.cell _, r7, 0, rfl, r7, 0 + 1, rfl, _, o7'.cell _, ?_⟩
  refine alK fun r31 h32 e31 f31 o31 z31 => ⟨same1 o7' f31 id, same1 o5' f31 id, same1 o7' f31 id, same1 o5' f31 id, ?_⟩
  have f32 := Ext.trans f10 f31
  have lr := hx.lt
  have lry := hy.lt
  refine K131f o31 (hx.ext f32) (hy.ext f32) (by omega) (by omega) hxy hb hb2 h64 fun qz h34 f34 d34 I34 => ⟨_, rfl, ?_⟩
  have n5 : ¬ (r5 = r31 ∨ False) := fun e => by rcases e with e | e; omega; exact e
  have n7 : ¬ (r7 = r31 ∨ False) := fun e => by rcases e with e | e; omega; exact e
  have n9 : ¬ (r9 = r31 ∨ False) := fun e => by rcases e with e | e; omega; exact e
  refine ⟨same1 (o7'.ext f31) f34 n7, same1 (o5'.ext f31) f34 n5, r9, 0, rfl, ?_⟩
  have o9' := (o9.ext f31).fr f34 n9
  rw [i64_in (x := e + f) (by omega) (by omega)]
  refine o9'.stC (by simp) rfl fun o9a fa => o9a.stC (by simp) rfl fun o9b fb => ?_
  refine ⟨r9, 0, rfl, _, o9b.cell _, _, o9b.cell _, ?_⟩
  have fab := Fr.trans (S := fun x => x = r9) fa fb fun _ _ e => e
  have hq : r31 = qz ∨ h32.size ≤ qz := by rcases d34 with e | e | e; exact .inl e.symm; exact e.elim; exact .inr e
  refine H r31 qz _ ?_ (by omega) (by omega) (IntAt.fr (S := fun x => x = r9) I34 fab (show ¬ r31 = r9 by omega) (show ¬ qz = r9 by omega))
  exact Fr.trans (T := fun x => x = r9) (Fr.trans f32 f34 fun x hx e => by rcases e with e | e; omega; exact e) fab fun x hx e => by omega
end Go.Proofs
namespace Go.Eng
open Go
theorem digs_snoc {b w : Nat} (hb : 1 < b) (hw : 0 < w) (l : List Nat) : l ++ digs b w = (l ++ [w % b]) ++ digs b (w / b) := by
  rw [digs_ne hb (by omega)]; simp
theorem digs_len {b k w n : Nat} (hb : b = 2 ^ k) (hk : 0 < k) (h : bl w ≤ k * n) : (digs b w).length ≤ n := by
  have h1 : 1 < b := by rw [hb]; exact Nat.one_lt_two_pow (by omega)
  have hv : val b (digs b w) < b ^ n := by rw [digs_val h1, hb, ← Nat.pow_mul]; exact bl_le_iff.1 h
  by_cases he : digs b w = []
  · rw [he]; simp
  · have := val_pos (b := b) he (digs_trim h1 w) (by omega)
    have h3 : b ^ ((digs b w).length - 1) < b ^ n := Nat.lt_of_le_of_lt this hv
    have := (Nat.pow_lt_pow_iff_right h1).1 h3
    omega
/-- An element appended where there is room. -/
theorem ap1i {k : IntKind} {h : Heap} {p : Option Addr} {n c r e : Nat} {ws : List Nat} {x : Nat} {S : Nat → Prop} {zero : Array Value} {bytes : Nat} {K : Option Addr → Nat → Nat → Heap → Prop}
    (hs : Sl k h p ws) (hr : Room h p c S) (hn : ws.length = n) (hc : n + 1 ≤ c) (hx : Own h r #[.int k (x : Int)])
    (hk : ∀ h', Sl k h' p (ws ++ [x]) → Room h' p c S → Fr S h h' → K p (n + 1) c h') :
    apW h p n c (some ⟨r, 0, none⟩) 1 1 bytes e zero K := by
  have hrow : rowAt h (some ⟨r, 0, none⟩) (1 * 1) [.int k (x : Int)] := by
    refine ⟨rfl, r, 0, rfl, fun i hi => ?_⟩
    have : i = 0 := by simp at hi; exact hi
    subst this
    rw [hx.cell]; rfl
  refine ⟨fun hle => ?_, fun hlt => by omega⟩
  refine ⟨_, hrow, ?_⟩
  rcases hr with hr | ⟨b, o, cs, e1, e2, e3, e4⟩
  · omega
  subst e1
  have hsz : o + n < cs.size := by omega
  refine ⟨b, o, rfl, fun y hy => ?_, fun i hi => ?_, ?_⟩
  · rw [List.mem_singleton] at hy; subst hy; rfl
  · have : i = 0 := by simp at hi; exact hi
    subst this
    exact ⟨⟨_, by rw [e2.cell, Array.getElem?_eq_getElem (by omega)]⟩, e2.frozen _⟩
  · simp only [setRow, Nat.mul_one]
    have H' := own_set (o := o + n) (v := .int k (x : Int)) e2
    refine hk _ (.inr ⟨b, o, _, rfl, H', fun i hi => ?_⟩) (.inr ⟨b, o, _, rfl, H', by simpa using e3, e4⟩) (Fr.mono fr_setCell fun y _ hy => hy ▸ e4)
    rw [List.length_append, List.length_singleton] at hi
    by_cases hil : i < ws.length
    · rw [Array.getElem?_setIfInBounds_ne (by omega), List.getElem_append_left hil]
      rcases hs with hs | ⟨b', o', cs', f1, f2, f3⟩
      · subst hs; exact absurd hil (by simp)
      · cases f1; rw [e2.inj f2]; exact f3 i hil
    · have : i = ws.length := by omega
      subst this
      simp only [hn, List.getElem_concat_length]
      rw [Array.getElem?_setIfInBounds_self_of_lt hsz]
end Go.Eng
namespace Go.Proofs
open Go Go.Eng
variable {B : World} {R : Ending → Heap → Prop} {h : Heap}
/-- What told needs to know of the heap, once its loop runs. -/
structure Told (h0 h : Heap) (r3 r5 rx rm qm bd : Nat) (e : Int) : Prop where
  f : Ext h0 h
  o3 : Own h r3 #[.pointer (some ⟨rx, 0, none⟩), .int .i64 e]
  o5 : Own h r5 #[.bool false, .slice none 0 0, .int .i64 0]
  im : IntAt h rm qm ((1073741823 : Nat) : Int)
  g3 : h0.size ≤ r3
  g5 : h0.size ≤ r5
  gm : h0.size ≤ rm
  gq : h0.size ≤ qm
  gb : h0.size ≤ bd
  d3 : bd ≠ r3
  d5 : bd ≠ r5
  dm : bd ≠ rm
  dq : bd ≠ qm
  ne : r3 ≠ r5
theorem Told.fr {h0 h h' : Heap} {r3 r5 rx rm qm bd : Nat} {e : Int} {S : Nat → Prop} (T : Told h0 h r3 r5 rx rm qm bd e) (f : Fr S h h') (h3 : ¬ S r3) (h5 : ¬ S r5) (hm : ¬ S rm) (hq : ¬ S qm) (h0s : ∀ x, x < h0.size → ¬ S x) : Told h0 h' r3 r5 rx rm qm bd e :=
  ⟨Fr.trans T.f f fun x hx s => h0s x hx s, T.o3.fr f h3, T.o5.fr f h5, T.im.fr f hm hq, T.g3, T.g5, T.gm, T.gq, T.gb, T.d3, T.d5, T.dm, T.dq, T.ne⟩
end Go.Proofs
namespace Go.Eng
open Go
/-- Not in a block of h. -/
def Fresh (h : Heap) (p : Option Addr) : Prop := ∀ b o, p = some (⟨b, o, none⟩ : Addr) → h.size ≤ b
theorem Fresh.nil {h : Heap} : Fresh h none := fun _ _ e => by cases e
theorem Fresh.mono {h h' : Heap} {p : Option Addr} (H : Fresh h' p) (f : h.size ≤ h'.size) : Fresh h p := fun b o e => Nat.le_trans f (H b o e)
end Go.Eng
namespace Go.Proofs
open Go Go.Eng
variable {B : World} {R : Ending → Heap → Prop} {h : Heap}
theorem td30 (s : Nat) : Int.tdiv (s : Int) (30 : Int) = ((s / 30 : Nat) : Int) := by
  rw [Int.tdiv_eq_ediv_of_nonneg (by omega)]; rfl
theorem and_mask30 (w : Nat) : w &&& 1073741823 = w % B30 := Nat.and_two_pow_sub_one_eq_mod w 30
theorem K65j {h0 h : Heap} {r3 r5 rx qx r37 q37 : Nat} {v : Int} {e e0 : Int} {M : Nat} (f : Ext h0 h) (hx : IntAt h0 rx qx v) (o3 : Own h r3 #[.pointer (some ⟨rx, 0, none⟩), .int .i64 e0]) (o5 : Own h r5 #[.bool false, .slice none 0 0, .int .i64 0])
    (g3 : h0.size ≤ r3) (g5 : h0.size ≤ r5) (ne : r3 ≠ r5) (im : IntAt h r37 q37 (M : Int)) (gm : h0.size ≤ r37) (gq : h0.size ≤ q37) (n3 : r3 ≠ r37 ∧ r3 ≠ q37) (n5 : r5 ≠ r37 ∧ r5 ≠ q37) (hM : bl M ≤ 60000)
    (H : ∀ p n c h', Ext h0 h' → Fresh h0 p → Room h' p c (fun b => h0.size ≤ b) → n ≤ c → DigI h' p n (digs B30 M) → R (.returned (.agg #[.bool (decide (v < 0)), .slice p n c, .int .i64 e])) h') :
    F65_j66 B R (some ⟨r3, 0, none⟩) (some ⟨r5, 0, none⟩) (some ⟨r37, 0, none⟩) e false h := by
  refine ⟨fun e => (by cases e), fun _ => K124 im ⟨_, rfl, by decide, ?_⟩⟩
  have eC : IntKind.i64.wrap (IntKind.i64.wrap (Int.tdiv ((bl (M : Int).natAbs : Nat) : Int) (30 : Int)) + (1 : Int)) = ((bl M / 30 + 1 : Nat) : Int) := by
    rw [Int.natAbs_natCast, td30, i64_in (x := ((bl M / 30 : Nat) : Int)) (by omega) (by omega), i64_in (by omega) (by omega)]; rfl
  rw [eC]
  refine ⟨by omega, by omega, by omega, by omega, alK fun r78 h79 e78 f79 o78 z79 => ?_⟩
  have l3 := o3.lt
  have l5 := o5.lt
  have lq := im.lq
  have lr := im.lt
  refine K120 (v := 1073741823) (by decide) (by decide) fun rm qm h81 f81 grm grm' gqm I81 => ⟨_, rfl, ?_⟩
  have hs79 : h79.size = h.size + 1 := z79
  have fs := f.size
  have T0 : Told h0 h81 r3 r5 rx rm qm r78 e0 :=
    ⟨Ext.trans f (Ext.trans f79 f81), (o3.ext f79).ext f81, (o5.ext f79).ext f81, I81, g3, g5, by omega, by omega, by omega, by omega, by omega, by omega, by omega, ne⟩
  refine ⟨fun m vs h' => match vs with
    | [.pointer p3, .pointer p5, .pointer p37, .int _ ee, .slice p n c, .pointer pm] => p3 = some (⟨r3, 0, none⟩ : Addr) ∧ p5 = some (⟨r5, 0, none⟩ : Addr) ∧ p37 = some (⟨r37, 0, none⟩ : Addr) ∧ ee = e ∧ pm = some (⟨rm, 0, none⟩ : Addr) ∧ c = bl M / 30 + 1 ∧
        ∃ (l : List Nat) (q : Nat), Told h0 h' r3 r5 rx rm qm r78 e0 ∧ IntAt h' r37 q (m : Int) ∧ h0.size ≤ q ∧ q ≠ r3 ∧ q ≠ r5 ∧ q ≠ rm ∧ q ≠ qm ∧ q ≠ r78 ∧ m ≤ M ∧ Sl .i64 h' p l ∧ l.length = n ∧ Room h' p c (fun b => b = r78) ∧ Pt p ∧ Dig B30 l ∧ l ++ digs B30 m = digs B30 M
    | _ => False, M, ⟨rfl, rfl, rfl, rfl, rfl, ?_, [], q37, T0, (im.ext f79).ext f81, gq, by omega, by omega, by omega, by omega, by omega, Nat.le_refl _, Sl.nil, rfl, ?_, pt_some, Dig.nil, rfl⟩, ?_⟩
  · rfl
  · refine .inr ⟨r78, 0, _, rfl, o78.ext f81, ?_, rfl⟩
    simp [mkCells]
  rintro m h' _ _ _ _ p n c _ ⟨rfl, rfl, rfl, rfl, rfl, rfl, l, q, T, I, hq, q3, q5, qrm, qqm, qbd, hmM, hsl, hln, hroom, hpt, hdl, hdig⟩ _
  refine K75 I ⟨_, rfl, fun e => ?_, fun e => ?_⟩
  · have hm0 : 0 < m := by
      rcases Nat.eq_zero_or_pos m with h | h
      · subst h; simp at e
      · exact h
    have hbm : bl m ≤ 60000 := by
      exact Nat.le_trans (bl_mono hmM) hM
    have hmask : bl 1073741823 ≤ 1000000 := by
      have : bl 1073741823 ≤ 30 := bl_le_iff.2 (by decide)
      omega
    refine alK fun r100 h101 e101 f101 o101 z101 => ?_
    refine K125f o101 (I.ext f101) (T.im.ext f101) (by omega) hmask hm0 (by decide) fun q100 h103 f103 d103 I103 => ⟨_, rfl, ?_⟩
    rw [and_mask30] at I103
    have hdig30 : m % B30 < 1073741824 := Nat.mod_lt _ (by decide)
    refine K126 I103 (by rw [Int.natAbs_natCast]; omega) ⟨_, rfl, ?_⟩
    refine alK fun r112 h113 e113 f113 o113 z113 => ?_
    have F13 : Ext h' h113 := by
      refine Fr.trans (Fr.trans f101 f103 fun x hx e => ?_) f113 fun _ _ e => e
      rcases e with e | e
      · omega
      · exact e
    have T13 := T.fr F13 id id id id fun _ _ => id
    have I13 := I.ext F13
    have hcap : l.length < bl M / 30 + 1 := by
      have h1 := digs_len (b := B30) (k := 30) (w := M) (n := bl M / 30 + 1) rfl (by decide) (by omega)
      rw [← hdig, List.length_append, digs_ne (by decide) (by omega), List.length_cons] at h1
      omega
    have ec : n = l.length := hln.symm
    subst ec
    refine ap1i (k := .i64) (x := m % B30) (S := fun b => b = r78) (hsl.ext F13) (hroom.ext F13) rfl (by omega) o113 fun h114 s114 r114 f114 => ?_
    have hx113 : h'.size ≤ h113.size := F13.size
    have T14 := T13.fr f114 T.d3.symm T.d5.symm T.dm.symm T.dq.symm fun x hx e => by have := T.gb; omega
    have I14 : IntAt h114 r37 q (m : Int) := I13.fr f114 (show ¬ r37 = r78 by omega) qbd
    refine K122i (s := 30) I14 (by omega) (by decide) (by decide) fun q2 h119 f119 d119 I119 => ⟨_, rfl, ?_⟩
    have hl114 := f114.size
    have lq' := I.lq
    have n2 : ∀ x, x ≠ r37 → x ≠ q → ¬ (x = r37 ∨ Rm r37 q x) := fun x h1 h2 hh => by
      rcases hh with hh | hh
      · exact h1 hh
      · exact h2 hh.1
    have T19 := T14.fr f119 (n2 _ n3.1 q3.symm) (n2 _ n5.1 q5.symm) (n2 _ (by omega) qrm.symm) (n2 _ (by omega) qqm.symm) (fun x hx => n2 x (by omega) (by omega))
    have nb : ¬ (r78 = r37 ∨ Rm r37 q r78) := n2 _ (by omega) qbd.symm
    have l3' := T.o3.lt
    have l5' := T.o5.lt
    have lm' := T.im.lt
    have lqm' := T.im.lq
    have lg := T.gb
    have lb : r78 < h'.size := by
      rcases hroom with e0 | ⟨b, o, cs, e1, e2, e3, e4⟩
      · omega
      · have := e2.lt; omega
    have q2n : ∀ x, x ≠ r37 → x ≠ q → x < h'.size → q2 ≠ x := fun x h1 h2 h3 e => by
      subst e
      rcases d119 with hh | hh | hh
      · exact h1 hh
      · exact h2 hh.1
      · omega
    refine ⟨m / 2 ^ 30, Nat.div_lt_self hm0 (by decide), rfl, rfl, rfl, rfl, rfl, rfl, l ++ [m % B30], q2, T19, I119, ?_, q2n _ n3.1 q3.symm l3', q2n _ n5.1 q5.symm l5', q2n _ (by omega) qrm.symm lm', q2n _ (by omega) qqm.symm lqm', q2n _ (by omega) qbd.symm lb, ?_, ?_, by simp, r114.fr f119 fun b e => e ▸ nb, hpt, hdl.snoc (Nat.mod_lt _ (by decide)), ?_⟩
    · have := T.f.size
      rcases d119 with hh | hh | hh
      · omega
      · have := hh.1; omega
      · omega
    · exact Nat.le_trans (Nat.div_le_self _ _) hmM
    · refine s114.fr f119 fun b o e _ => ?_
      rcases r114 with e0 | ⟨b', o', cs, e1, e2, e3, e4⟩
      · omega
      · rw [e1] at e; cases e; exact e4 ▸ nb
    · rw [← hdig]; exact (digs_snoc (by decide) hm0 l).symm
  · have hm0 : m = 0 := by
      rcases Nat.eq_zero_or_pos m with h | h
      · exact h
      · rw [Int.sign_eq_one_of_pos (by omega)] at e; cases e
    subst hm0
    rw [digs_zero, List.append_nil] at hdig
    have hsg : decide (v.sign < 0) = decide (v < 0) := by
      rcases Int.lt_trichotomy v 0 with h | h | h
      · rw [Int.sign_eq_neg_one_of_neg h]; simp [h]
      · subst h; rfl
      · rw [Int.sign_eq_one_of_pos h]; have : ¬ v < 0 := by omega
        simp [this]
    refine ⟨r3, 0, rfl, r3, 0, rfl, _, T.o3.cell _, K75 (hx.ext T.f) ⟨_, rfl, r5, 0, rfl, ?_⟩⟩
    rw [hsg]
    refine T.o5.stC (by simp) rfl fun oa fa => oa.stC (by simp) rfl fun ob fb => ob.stC (by simp) rfl fun oc fc => ⟨r5, 0, rfl, _, oc.cell _, _, _, _, oc.cell _, _, oc.cell _, ?_⟩
    have fabc := Fr.trans (S := fun x => x = r5) (Fr.trans (S := fun x => x = r5) fa fb fun _ _ e => e) fc fun _ _ e => e
    have hpb : ∀ b o, p = some (⟨b, o, none⟩ : Addr) → b = r78 := by
      intro b o e
      rcases hroom with e0 | ⟨b', o', cs, e1, e2, e3, e4⟩
      · omega
      · rw [e1] at e; cases e; exact e4
    refine H p n _ _ (Fr.trans T.f fabc fun x hx e => by have := T.g5; omega) (fun b o e => by rw [hpb b o e]; exact T.gb) ((hroom.fr fabc fun b e => e ▸ T.d5).mono fun b e => e ▸ T.gb) ?_ ⟨hpt, ?_, ?_, digs_dig (by decide) _, digs_trim (by decide) _⟩
    · have h1 := digs_len (b := B30) (k := 30) (w := M) (n := bl M / 30 + 1) rfl (by decide) (by omega)
      rw [← hdig] at h1; omega
    · rw [← hdig]; exact hsl.fr fabc fun b o e _ => by rw [hpb b o e]; exact T.d5
    · rw [← hdig]; exact hln
end Go.Proofs
namespace Go.Eng
open Go
theorem bl_eq {v : Nat} (h : v ≠ 0) : bl v = v.log2 + 1 := by rw [bl, if_neg h]
theorem bl_scale {m : Nat} (k : Nat) (h : m ≠ 0) : bl (m * 2 ^ k) = bl m + k := by
  have hk : 0 < 2 ^ k := Nat.pow_pos (by decide)
  rw [bl_eq h, bl_eq (Nat.mul_ne_zero h (by omega)), log2_scale k h]; omega
end Go.Eng
namespace Go.Proofs
open Go Go.Eng
variable {B : World} {R : Ending → Heap → Prop} {h : Heap}
theorem TabH.ext {h h' : Heap} (H : TabH h) (f : Ext h h') : TabH h' := H.fr f id
/-- An exact number in its one form, of value v in units of 2^-K. -/
def NumS (K : Nat) (h : Heap) (neg : Bool) (p : Option Addr) (n : Nat) (e v : Int) : Prop :=
  ∃ M : Nat, NumI h neg p n e (digs B30 M) ∧ 0 ≤ e + (K : Int) ∧ v = Ieee.signed neg M (e + (K : Int)).toNat
theorem NumS.ext {K : Nat} {h h' : Heap} {neg : Bool} {p : Option Addr} {n : Nat} {e v : Int} (H : NumS K h neg p n e v) (f : Ext h h') : NumS K h' neg p n e v :=
  let ⟨M, a, b⟩ := H; ⟨M, a.ext f, b⟩
theorem NumS.fr {K : Nat} {h h' : Heap} {neg : Bool} {p : Option Addr} {n : Nat} {e v : Int} {S : Nat → Prop} (H : NumS K h neg p n e v) (f : Fr S h h') (hp : ∀ b o, p = some ⟨b, o, none⟩ → ¬ S b) : NumS K h' neg p n e v :=
  let ⟨M, a, b⟩ := H; ⟨M, ⟨⟨a.d.pt, a.d.sl.fr f fun b o e _ => hp b o e, a.d.len, a.d.dig, a.d.trim⟩, a.le, a.zero, a.pos⟩, b⟩
theorem NumI.fr {h h' : Heap} {neg : Bool} {p : Option Addr} {n : Nat} {e : Int} {ds : List Nat} {S : Nat → Prop} (H : NumI h neg p n e ds) (f : Fr S h h') (hs : ∀ x, x < h.size → ¬ S x) : NumI h' neg p n e ds :=
  H.ext ⟨f.size, fun b hb _ => f.same b hb (hs b hb)⟩
theorem Fr.toExt {h h' : Heap} {S : Nat → Prop} (f : Fr S h h') (hs : ∀ x, x < h.size → ¬ S x) : Ext h h' := ⟨f.size, fun b hb _ => f.same b hb (hs b hb)⟩
theorem digI_nil {h : Heap} : DigI h none 0 (digs B30 0) := by
  rw [digs_zero]; exact ⟨.inl rfl, Sl.nil, rfl, Dig.nil, by simp [Trim]⟩
theorem numS_zero (K : Nat) (h : Heap) : NumS K h false none 0 0 0 :=
  ⟨0, ⟨digI_nil, by decide, fun _ => ⟨rfl, rfl⟩, fun h => absurd h (by decide)⟩, by omega, by simp [Ieee.signed]⟩
theorem signed_val (m : Int) (k : Nat) : Ieee.signed (decide (m < 0)) m.natAbs k = m * 2 ^ k := by
  have h1 : (2 : Int) ^ k = ((2 ^ k : Nat) : Int) := by rw [Int.natCast_pow]; rfl
  unfold Ieee.signed
  rw [Nat.shiftLeft_eq, h1]
  by_cases h : m < 0
  · rw [decide_eq_true h, if_pos rfl, Int.natCast_mul, show (m.natAbs : Int) = -m by omega, Int.neg_mul, Int.neg_neg]
  · rw [decide_eq_false h, if_neg (by decide), Int.natCast_mul, show (m.natAbs : Int) = m by omega]
theorem abs_val (m : Int) (k : Nat) : (m * 2 ^ k).natAbs = m.natAbs * 2 ^ k := by rw [Int.natAbs_mul, Int.natAbs_pow]; rfl
/-- dyadic.told, where there is a number to tell. -/
theorem K65R {r q : Nat} {m e : Int} {K : Nat} {v : Int} (ht : TabH h) (hx : IntAt h r q m) (he : 0 ≤ e + (K : Int)) (hv : v = m * 2 ^ (e + (K : Int)).toNat) (hb : bl v.natAbs ≤ 60000) (hK : K ≤ 1048576)
    (H : ∀ neg p n c e' h', Ext h h' → Fresh h p → Room h' p c (fun b => h.size ≤ b) → n ≤ c → NumS K h' neg p n e' v → R (.returned (.agg #[.bool neg, .slice p n c, .int .i64 e'])) h') :
    Ent Tryz.prog B 40 #[.agg #[.pointer (some ⟨r, 0, none⟩), .int .i64 e]] R h := by
  refine F65_ok _ _ (alK fun r3 h4 e3 f3 o3 z3 => alK fun r5 h6 e5 f5 o5 z5 => ?_)
  have o3' := o3.ext f5
  have fx := Ext.trans f3 f5
  refine ⟨r3, 0, rfl, r3, 0, rfl, _, o3'.cell _, K75 (hx.ext fx) ⟨_, rfl, fun e0 => ?_, fun e0 => ?_⟩⟩
  · have hm : m = 0 := Int.sign_eq_zero_iff_zero.1 (of_decide_eq_true e0)
    refine ⟨r5, 0, rfl, o5.stC (by simp) rfl fun oa fa => oa.stC (by simp) rfl fun ob fb => ob.stC (by simp) rfl fun oc fc => ⟨r5, 0, rfl, _, oc.cell _, _, _, _, oc.cell _, _, oc.cell _, ?_⟩⟩
    have fabc := Fr.trans (S := fun x => x = r5) (Fr.trans (S := fun x => x = r5) fa fb fun _ _ e => e) fc fun _ _ e => e
    have hv0 : v = 0 := by rw [hv, hm, Int.zero_mul]
    subst hv0
    refine H false none 0 0 0 _ (Fr.trans fx fabc fun x hx e => by omega) Fresh.nil (.inl rfl) (Nat.le_refl _) (numS_zero K _)
  · have hm : m ≠ 0 := fun h => by rw [h] at e0; cases e0
    have hm2 : m.natAbs ≠ 0 := by omega
    have hva : v.natAbs = m.natAbs * 2 ^ (e + (K : Int)).toNat := by rw [hv, abs_val]
    have hbm : bl v.natAbs = bl m.natAbs + (e + (K : Int)).toNat := by rw [hva, bl_scale _ hm2]
    refine ⟨r3, 0, rfl, r3, 0, rfl, _, o3'.cell _, K121 (hx.ext fx) hm (by omega) (ht.ext fx) fun t k ek => ⟨_, rfl, ?_⟩⟩
    have hM : m.natAbs / 2 ^ t = 2 * k + 1 := by rw [ek, Nat.mul_div_cancel_left _ (Nat.pow_pos (by decide))]
    have hbt : bl m.natAbs = bl (2 * k + 1) + t := by rw [ek, Nat.mul_comm, bl_scale _ (by omega)]
    refine alK fun r37 h38 e37 f37 o37 z37 => alK fun r39 h40 e39 f39 o39 z39 => ⟨r3, 0, rfl, r3, 0, rfl, _, ((o3'.ext f37).ext f39).cell _, ?_⟩
    have lx := hx.lt
    have lq := hx.lq
    refine K123f o39 (((hx.ext fx).ext f37).ext f39) (by omega) (by omega) fun q47 h47 f47 d47 I47 => ⟨_, rfl, ?_⟩
    have n47 : ∀ x, x ≠ r39 → ¬ (x = r39 ∨ False) := fun x h1 h2 => by rcases h2 with h2 | h2; exact h1 h2; exact h2
    have o37' : ZeroAt h47 r37 := (o37.ext f39).fr f47 (n47 _ (by omega))
    rw [i64_in (x := (t : Int)) (by omega) (by omega), show IntKind.u64.wrap (t : Int) = (t : Int) from wrap_u64_in (by omega) (by omega)]
    refine K122f o37' I47 (by omega) (by omega) fun q52 h52 f52 d52 I52 => ⟨_, rfl, ?_⟩
    rw [hM] at I52
    have n52 : ∀ x, x ≠ r37 → ¬ (x = r37 ∨ False) := fun x h1 h2 => by rcases h2 with h2 | h2; exact h1 h2; exact h2
    have o3a := (((o3'.ext f37).ext f39).fr f47 (n47 _ (by omega))).fr f52 (n52 _ (by omega))
    have o5a := (((o5.ext f37).ext f39).fr f47 (n47 _ (by omega))).fr f52 (n52 _ (by omega))
    have F : Ext h h52 := by
      refine Fr.trans (Fr.trans (Ext.trans fx (Ext.trans f37 f39)) f47 fun x hx e => ?_) f52 fun x hx e => ?_
      · exact n47 x (by omega) e
      · exact n52 x (by omega) e
    have s47 := f47.size
    refine ⟨r3, 0, rfl, r3, 0 + 1, rfl, _, o3a.cell _, K124 I52 ⟨_, rfl, fun e1 => ?_, fun e1 => ⟨fun e2 => ?_, fun e2 => ?_⟩⟩⟩
    · rw [Int.natAbs_natCast] at e1; simp at e1; omega
    · rw [i64_in (x := e + (t : Int)) (by omega) (by omega)] at e2; simp at e2; omega
    · rw [i64_in (x := e + (t : Int)) (by omega) (by omega)]
      have e3 : decide ((1048576 : Int) < e + (t : Int)) = false := by
        have : bl (2 * k + 1) ≠ 0 := Nat.pos_iff_ne_zero.1 (bl_pos (by omega))
        simp; omega
      rw [e3]
      have d52' : q52 = r37 ∨ h47.size ≤ q52 := by rcases d52 with e | e | e; exact .inl e; exact e.elim; exact .inr e
      refine K65j F hx o3a o5a (by omega) (by omega) (by omega) I52 (by omega) (by omega) (by omega) (by omega) (by omega) fun p n c h' f' fr rm le D => ?_
      refine H _ p n c _ h' f' fr rm le ⟨2 * k + 1, ⟨D, ?_, fun h0 => ?_, fun _ => ⟨?_, by omega, by
        have : bl (2 * k + 1) ≠ 0 := Nat.pos_iff_ne_zero.1 (bl_pos (by omega))
        omega⟩⟩, by omega, ?_⟩
      · rw [← D.len]; exact digs_len (k := 30) rfl (by decide) (by omega)
      · exfalso
        have := D.len
        rw [h0, digs_ne (by decide) (by omega)] at this
        simp at this
      · rw [digs_val (by decide)]; omega
      · rw [hv, ← signed_val, show e + (t : Int) + (K : Int) = (((e + (K : Int)).toNat + t : Nat) : Int) by omega, Int.toNat_natCast, ek]
        unfold Ieee.signed
        have : (2 ^ t * (2 * k + 1)) <<< (e + (K : Int)).toNat = (2 * k + 1) <<< ((e + (K : Int)).toNat + t) := by
          rw [Nat.shiftLeft_eq, Nat.shiftLeft_eq, Nat.pow_add]; ac_rfl
        rw [this]
/-- The same, without the room. -/
theorem K65 {r q : Nat} {m e : Int} {K : Nat} {v : Int} (ht : TabH h) (hx : IntAt h r q m) (he : 0 ≤ e + (K : Int)) (hv : v = m * 2 ^ (e + (K : Int)).toNat) (hb : bl v.natAbs ≤ 60000) (hK : K ≤ 1048576)
    (H : ∀ neg p n c e' h', Ext h h' → Fresh h p → NumS K h' neg p n e' v → R (.returned (.agg #[.bool neg, .slice p n c, .int .i64 e'])) h') :
    Ent Tryz.prog B 40 #[.agg #[.pointer (some ⟨r, 0, none⟩), .int .i64 e]] R h :=
  K65R ht hx he hv hb hK fun neg p n c e' h' F fr _ _ N => H neg p n c e' h' F fr N
end Go.Proofs
namespace Go.Proofs
open Go Go.Eng
variable {B : World} {R : Ending → Heap → Prop} {h : Heap}
/-- A list of exact numbers, in units of 2^-K. -/
def NumL (K : Nat) (h : Heap) (p : Option Addr) (vs : List Int) : Prop :=
  vs = [] ∨ ∃ b o cs, p = some ⟨b, o, none⟩ ∧ Own h b cs ∧ ∀ i (hi : i < vs.length), ∃ neg q n c e, cs[o + i * 3]? = some (.bool neg) ∧ cs[o + i * 3 + 1]? = some (.slice q n c) ∧ cs[o + i * 3 + 1 + 1]? = some (.int .i64 e) ∧ NumS K h neg q n e vs[i]
theorem NumL.ext {K : Nat} {h h' : Heap} {p : Option Addr} {vs : List Int} (H : NumL K h p vs) (f : Ext h h') : NumL K h' p vs := by
  rcases H with H | ⟨b, o, cs, h1, h2, h3⟩
  · exact .inl H
  · exact .inr ⟨b, o, cs, h1, h2.ext f, fun i hi => let ⟨neg, q, n, c, e, a1, a2, a3, a4⟩ := h3 i hi; ⟨neg, q, n, c, e, a1, a2, a3, a4.ext f⟩⟩
/-- An exact number as it is reckoned with: where its big.Int lies, the Int's words; m times 2^e. -/
structure Ex where
  r : Nat
  q : Nat
  m : Int
  e : Int
def ExE (K : Nat) (h : Heap) (x : Ex) (v : Int) : Prop := IntAt h x.r x.q x.m ∧ 0 ≤ x.e + (K : Int) ∧ x.e ≤ 1048576 ∧ v = x.m * 2 ^ (x.e + (K : Int)).toNat ∧ (x.m = 0 ∨ x.m.natAbs % 2 = 1)
def exApart (x y : Ex) : Prop := x.r < y.r ∧ x.q < y.r ∧ x.r < y.q ∧ x.q < y.q
structure ExL (K : Nat) (h : Heap) (b : Nat) (xs : List Ex) (vs : List Int) : Prop where
  len : xs.length = vs.length
  own : ∃ cs, Own h b cs ∧ ∀ i (hi : i < xs.length), cs[i * 2]? = some (.pointer (some ⟨xs[i].r, 0, none⟩)) ∧ cs[i * 2 + 1]? = some (.int .i64 xs[i].e)
  at_ : ∀ i (hi : i < xs.length) (hv : i < vs.length), ExE K h xs[i] vs[i] ∧ b < xs[i].r ∧ b < xs[i].q
  apart : ∀ i j (hij : i < j) (hj : j < xs.length), exApart (xs[i]'(by omega)) xs[j]
theorem ExE.ext {K : Nat} {h h' : Heap} {x : Ex} {v : Int} (H : ExE K h x v) (f : Ext h h') : ExE K h' x v := ⟨H.1.ext f, H.2⟩
theorem ExL.ext {K : Nat} {h h' : Heap} {b : Nat} {xs : List Ex} {vs : List Int} (H : ExL K h b xs vs) (f : Ext h h') : ExL K h' b xs vs :=
  ⟨H.len, let ⟨cs, a, b⟩ := H.own; ⟨cs, a.ext f, b⟩, fun i hi hv => ⟨(H.at_ i hi hv).1.ext f, (H.at_ i hi hv).2⟩, H.apart⟩
def OpenI (K : Nat) (h : Heap) (r2 n c : Nat) (p : Option Addr) (vs : List Int) (m : Nat) (l : List Value) (h' : Heap) : Prop :=
  match l with
  | [.slice a an ac, .slice b bn bc, .int _ nn, .int _ i] => a = some (⟨r2, 0, none⟩ : Addr) ∧ n = an ∧ n = ac ∧ p = b ∧ n = bn ∧ c = bc ∧ nn = (n : Int) ∧ ∃ (j : Nat) (xs : List Ex), i = (j : Int) ∧ j ≤ n ∧ m = n - j ∧ xs.length = j ∧ Ext h h' ∧
      (∃ cs, Own h' r2 cs ∧ cs.size = n * 2 ∧ ∀ i (hi : i < xs.length), cs[i * 2]? = some (.pointer (some ⟨xs[i].r, 0, none⟩)) ∧ cs[i * 2 + 1]? = some (.int .i64 xs[i].e)) ∧
      (∀ i (hi : i < xs.length) (hv : i < vs.length), ExE K h' xs[i] vs[i] ∧ r2 < xs[i].r ∧ r2 < xs[i].q) ∧ ∀ i j (hij : i < j) (hj : j < xs.length), exApart (xs[i]'(by omega)) xs[j]
  | _ => False
/-- dyadic.open, of valid ones. -/
theorem K67 {p : Option Addr} {n c K : Nat} {vs : List Int} (hx : NumL K h p vs) (hn : vs.length = n) (hl : n ≤ 1099511627776)
    (H : ∀ xs h', Ext h h' → ExL K h' h.size xs vs → R (.returned (.slice (some ⟨h.size, 0, none⟩) n n)) h') : Ent Tryz.prog B 38 #[.slice p n c] R h := by
  refine F67_ok _ _ _ ⟨by omega, by omega, by omega, by omega, alK fun r2 h3 e2 f2 o2 z2 => ?_⟩
  rw [Int.toNat_natCast] at *
  refine ⟨OpenI K h r2 n c p vs, n, ⟨rfl, rfl, rfl, rfl, rfl, rfl, rfl, 0, [], rfl, by omega, rfl, rfl, f2, ⟨_, o2, by simp [mkCells], fun i hi => absurd hi (by simp)⟩, fun i hi => absurd hi (by simp), fun i j hij hj => absurd hj (by simp)⟩, ?_⟩
  rintro m h' _ _ _ _ _ _ _ _ ⟨rfl, rfl, rfl, rfl, rfl, rfl, rfl, j, xs, rfl, hj, rfl, hxl, f, ⟨cs2, O2, hcs, hcell⟩, hE, hA⟩ _
  refine ⟨fun e => ?_, fun e => ?_⟩
  · have hjn : j < n := by simp at e; omega
    rcases hx with hx | ⟨b, o, cs, rfl, O, E⟩
    · rw [hx] at hn; simp at hn; omega
    obtain ⟨neg, q, m1, c1, e1, a1, a2, a3, N⟩ := E j (by omega)
    have O' := O.ext f
    refine ⟨b, o, rfl, by omega, by omega, b, _, rfl, _, by rw [Int.toNat_natCast, O'.cell]; exact a1, _, _, _, by rw [Int.toNat_natCast, O'.cell]; exact a2, _, by rw [Int.toNat_natCast, O'.cell]; exact a3, ?_⟩
    refine alK fun r19 h20 e19 f19 o19 z19 => ⟨r19, 0, rfl, o19.stC (by simp) rfl fun oa fa => oa.stC (by simp) rfl fun ob fb => ob.stC (by simp) rfl fun oc fc => ⟨r19, 0, rfl, _, oc.cell _, _, _, _, oc.cell _, _, oc.cell _, ?_⟩⟩
    have fabc := Fr.trans (S := fun x => x = r19) (Fr.trans (S := fun x => x = r19) fa fb fun _ _ e => e) fc fun _ _ e => e
    have F25 : Ext h' _ := Fr.trans f19 fabc fun x hx e => by omega
    obtain ⟨M, N1, N2, N3⟩ := N
    refine K129 ((N1.ext f).ext F25) fun h32 f32 => ⟨_, rfl, fun e => (by cases e), fun _ => ?_⟩
    have oc' := oc.ext f32
    have F32 : Ext h' h32 := Ext.trans F25 f32
    refine ⟨r19, 0, rfl, r19, 0, rfl, _, oc'.cell _, r19, 0, rfl, r19, 0 + 1, rfl, _, _, _, oc'.cell _, r19, 0, rfl, r19, 0 + 2, rfl, _, oc'.cell _, ?_⟩
    refine K130 ((N1.d.ext f).ext F32) (by have := N1.le; omega) fun rz qz h52 f52 hrz hqz I52 => ⟨_, rfl, same1 oc' f52 id, r2, 0, rfl, by omega, by omega, r2, _, rfl, ?_⟩
    rw [Int.toNat_natCast, Nat.zero_add]
    have F52 : Ext h' h52 := Ext.trans F32 f52
    have l2 := O2.lt
    have s32 := F32.size
    refine (O2.ext F52).stC (by omega) rfl fun og fg => og.stC (by simp; omega) rfl fun oh fh => ?_
    have fgh := Fr.trans (S := fun x => x = r2) fg fh fun _ _ e => e
    have F : Ext h _ := Fr.trans (Ext.trans f F52) fgh fun x hx e => by omega
    refine ⟨n - (j + 1), by omega, rfl, rfl, rfl, rfl, rfl, rfl, rfl, j + 1, xs ++ [⟨rz, qz, if neg then -(val B30 (digs B30 M) : Int) else (val B30 (digs B30 M) : Int), e1⟩], by rw [i64_in (by omega) (by omega)]; rfl, by omega, rfl, by simp [hxl], F, ⟨_, oh, by simp [hcs], fun i hi => ?_⟩, fun i hi hv => ?_, fun i k hik hk => ?_⟩
    · rw [List.length_append, List.length_singleton] at hi
      by_cases hij : i < xs.length
      · rw [List.getElem_append_left hij, Array.getElem?_setIfInBounds_ne (by omega), Array.getElem?_setIfInBounds_ne (by omega), Array.getElem?_setIfInBounds_ne (by omega), Array.getElem?_setIfInBounds_ne (by omega)]
        exact hcell i hij
      · have : i = xs.length := by omega
        subst this
        simp only [List.getElem_concat_length]
        subst hxl
        refine ⟨?_, ?_⟩
        · rw [Array.getElem?_setIfInBounds_ne (by omega), Array.getElem?_setIfInBounds_self_of_lt (by omega)]
        · rw [Array.getElem?_setIfInBounds_self_of_lt (by simp; omega)]
    · rw [List.length_append, List.length_singleton] at hi
      by_cases hij : i < xs.length
      · obtain ⟨⟨p1, p2⟩, p3, p4⟩ := hE i hij hv
        simp only [List.getElem_append_left hij]
        exact ⟨⟨(p1.ext F52).fr fgh (show ¬ xs[i].r = r2 by omega) (show ¬ xs[i].q = r2 by omega), p2⟩, p3, p4⟩
      · have : i = xs.length := by omega
        subst this
        simp only [List.getElem_concat_length]
        subst hxl
        refine ⟨⟨I52.fr fgh (show ¬ rz = r2 by omega) (show ¬ qz = r2 by omega), N2, ?_, ?_, ?_⟩, by show r2 < rz; omega, by show r2 < qz; omega⟩
        · show e1 ≤ 1048576
          by_cases h0 : m1 = 0
          · have := (N1.zero h0).2; omega
          · have := (N1.pos (by omega)).2; omega
        · show vs[xs.length] = (if neg then -(val B30 (digs B30 M) : Int) else (val B30 (digs B30 M) : Int)) * 2 ^ (e1 + (K : Int)).toNat
          rw [N3, digs_val (by decide)]
          unfold Ieee.signed
          rw [Nat.shiftLeft_eq]
          have h1 : (2 : Int) ^ (e1 + (K : Int)).toNat = ((2 ^ (e1 + (K : Int)).toNat : Nat) : Int) := by rw [Int.natCast_pow]; rfl
          rw [h1]
          cases neg
          · simp only [Bool.false_eq_true, if_false, Int.natCast_mul]
          · simp only [if_true, Int.natCast_mul, Int.neg_mul]
        · have hnv : (if neg then -(val B30 (digs B30 M) : Int) else (val B30 (digs B30 M) : Int)).natAbs = val B30 (digs B30 M) := by cases neg <;> simp
          show (if neg then -(val B30 (digs B30 M) : Int) else (val B30 (digs B30 M) : Int)) = 0 ∨ (if neg then -(val B30 (digs B30 M) : Int) else (val B30 (digs B30 M) : Int)).natAbs % 2 = 1
          rw [hnv]
          by_cases h0 : m1 = 0
          · left
            have hl := N1.d.len
            have : digs B30 M = [] := List.eq_nil_of_length_eq_zero (by omega)
            rw [this]
            cases neg <;> rfl
          · exact .inr (N1.pos (by omega)).1
    · rw [List.length_append, List.length_singleton] at hk
      by_cases hkx : k < xs.length
      · simp only [List.getElem_append_left hkx, List.getElem_append_left (show i < xs.length by omega)]
        exact hA i k hik hkx
      · have : k = xs.length := by omega
        subst this
        simp only [List.getElem_concat_length, List.getElem_append_left (show i < xs.length by omega)]
        obtain ⟨⟨p1, p2⟩, p3, p4⟩ := hE i (by omega) (by omega)
        have := p1.lt
        have := p1.lq
        unfold exApart
        show _ < rz ∧ _ < rz ∧ _ < qz ∧ _ < qz
        omega
  · have hjn : j = n := by simp at e; omega
    subst hjn
    subst e2
    exact H xs _ f ⟨by omega, ⟨cs2, O2, hcell⟩, hE, hA⟩
/-- A sum of one and of another one, shifted. -/
theorem addSh {g : Heap} {u w r6 rA qA rB qB k : Nat} {mA mB eu sh : Int} {cu cw : Array Value} {x0 x1 : Value} {J : Heap → Prop}
    (Ou : Own g u cu) (Ow : Own g w cw) (O6 : Own g r6 #[x0, x1]) (IA : IntAt g rA qA mA) (IB : IntAt g rB qB mB) (hsh : sh = (k : Int)) (hk : k < 4294967296)
    (bA : bl mA.natAbs ≤ 1000000) (bB : bl mB.natAbs ≤ 1000000) (bS : bl (mB * 2 ^ k).natAbs ≤ 1000000)
    (H : ∀ r q g', Fr (fun x => x = r6) g g' → Own g' r6 #[.pointer (some ⟨r, 0, none⟩), .int .i64 eu] → IntAt g' r q (mA + mB * 2 ^ k) → g.size ≤ r → g.size ≤ q → J g') :
    (alW g (.cells #[.bool false, .slice none 0 0] 125) fun r111 h112 =>
 sameCells g h112 u (0 + 1) 1 ∧ sameCells g h112 u (0 + 1) 1 ∧ sameCells g h112 w (0 + 1) 1 ∧ sameCells g h112 w 0 1 ∧ sameCells g h112 u 0 1 ∧ alW h112 (.cells #[.bool false, .slice none 0 0] 125) fun r113 h114 =>
 sameCells h112 h114 u (0 + 1) 1 ∧ sameCells h112 h114 u (0 + 1) 1 ∧ sameCells h112 h114 w (0 + 1) 1 ∧ sameCells h112 h114 w 0 1 ∧ sameCells h112 h114 u 0 1 ∧ Ent Tryz.prog B 78 #[.pointer (some ⟨r113, 0, none⟩), .pointer (some ⟨rB, 0, none⟩), .int .u64 sh] (retE (fun v115 h116 => ∃ x119, v115 = .pointer x119 ∧
 sameCells h114 h116 u (0 + 1) 1 ∧ sameCells h114 h116 u 0 1 ∧ Ent Tryz.prog B 77 #[.pointer (some ⟨r111, 0, none⟩), .pointer (some ⟨rA, 0, none⟩), .pointer x119] (retE (fun v120 h121 => ∃ x124, v120 = .pointer x124 ∧
 sameCells h116 h121 u (0 + 1) 1 ∧ isP (some ⟨r6, 0, none⟩) fun b125 o126 => stC h121 b125 o126 (.pointer x124) fun h127 =>
 stC h127 b125 (o126 + 1) (.int .i64 eu) fun h128 => J h128)
 (fun _ _ => False)) h116)
 (fun _ _ => False)) h114) ∧
(alW g (.cells #[.bool false, .slice none 0 0] 125) fun r143 h144 =>
 sameCells g h144 u (0 + 1) 1 ∧ sameCells g h144 u (0 + 1) 1 ∧ sameCells g h144 w (0 + 1) 1 ∧ sameCells g h144 w 0 1 ∧ sameCells g h144 u 0 1 ∧ (alW h144 (.cells #[.bool false, .slice none 0 0] 125) fun r145 h146 =>
 sameCells h144 h146 u (0 + 1) 1 ∧ sameCells h144 h146 u (0 + 1) 1 ∧ sameCells h144 h146 w (0 + 1) 1 ∧ sameCells h144 h146 w 0 1 ∧ sameCells h144 h146 u 0 1 ∧ Ent Tryz.prog B 78 #[.pointer (some ⟨r143, 0, none⟩), .pointer (some ⟨rB, 0, none⟩), .int .u64 sh] (retE (fun v147 h148 => ∃ x151, v147 = .pointer x151 ∧
 sameCells h146 h148 u (0 + 1) 1 ∧ sameCells h146 h148 u 0 1 ∧ Ent Tryz.prog B 77 #[.pointer (some ⟨r145, 0, none⟩), .pointer (some ⟨rA, 0, none⟩), .pointer x151] (retE (fun v152 h153 => ∃ x156, v152 = .pointer x156 ∧
 sameCells h148 h153 u (0 + 1) 1 ∧ isP (some ⟨r6, 0, none⟩) fun b157 o158 => stC h153 b157 o158 (.pointer x156) fun h159 =>
 stC h159 b157 (o158 + 1) (.int .i64 eu) fun h160 => J h160)
 (fun _ _ => False)) h148)
 (fun _ _ => False)) h146) ∧
(Ent Tryz.prog B 78 #[.pointer (some ⟨r143, 0, none⟩), .pointer (some ⟨rB, 0, none⟩), .int .u64 sh] (retE (fun v161 h162 => ∃ x165, v161 = .pointer x165 ∧
 sameCells h144 h162 u (0 + 1) 1 ∧ sameCells h144 h162 u 0 1 ∧ alW h162 (.cells #[.bool false, .slice none 0 0] 125) fun r166 h167 =>
 sameCells h162 h167 u (0 + 1) 1 ∧ sameCells h162 h167 u (0 + 1) 1 ∧ sameCells h162 h167 w (0 + 1) 1 ∧ sameCells h162 h167 w 0 1 ∧ sameCells h162 h167 u 0 1 ∧ Ent Tryz.prog B 77 #[.pointer (some ⟨r166, 0, none⟩), .pointer (some ⟨rA, 0, none⟩), .pointer x165] (retE (fun v168 h169 => ∃ x172, v168 = .pointer x172 ∧
 sameCells h167 h169 u (0 + 1) 1 ∧ isP (some ⟨r6, 0, none⟩) fun b173 o174 => stC h169 b173 o174 (.pointer x172) fun h175 =>
 stC h175 b173 (o174 + 1) (.int .i64 eu) fun h176 => J h176)
 (fun _ _ => False)) h167)
 (fun _ _ => False)) h144)) := by
  subst hsh
  have lu := Ou.lt
  have lw := Ow.lt
  have l6 := O6.lt
  have lA := IA.lt
  have lAq := IA.lq
  have lB := IB.lt
  have lBq := IB.lq
  have nn : ∀ {z x : Nat}, x ≠ z → ¬ (x = z ∨ False) := fun h1 h2 => by rcases h2 with h2 | h2; exact h1 h2; exact h2
  have fin : ∀ {r q : Nat} {g1 g2 : Heap}, Ext g g1 → Fr (fun x => x = r ∨ False) g1 g2 → g.size ≤ r → (q = r ∨ False ∨ g1.size ≤ q) → IntAt g2 r q (mA + mB * 2 ^ k) →
      isP (some ⟨r6, 0, none⟩) fun b o => stC g2 b o (.pointer (some ⟨r, 0, none⟩)) fun h127 => stC h127 b (o + 1) (.int .i64 eu) fun h128 => J h128 := by
    intro r q g1 g2 f1 f2 hr hq I
    have s1 := f1.size
    have F : Ext g g2 := Fr.trans f1 f2 fun x hx e => nn (show x ≠ r by omega) e
    have hq' : g.size ≤ q := by rcases hq with e | e | e; omega; exact e.elim; omega
    refine ⟨r6, 0, rfl, (O6.ext F).stC (by simp) rfl fun oa fa => oa.stC (by simp) rfl fun ob fb => ?_⟩
    have fab := Fr.trans (S := fun x => x = r6) fa fb fun _ _ e => e
    exact H r q _ (Fr.trans (Ext.to F) fab fun _ _ e => e) ob (I.fr fab (show ¬ r = r6 by omega) (show ¬ q = r6 by omega)) hr hq'
  refine ⟨?_, alK fun r1 g1 e1 f1 o1 z1 => ⟨same1 Ou f1 id, same1 Ou f1 id, same1 Ow f1 id, same1 Ow f1 id, same1 Ou f1 id, ?_, ?_⟩⟩
  · refine alK fun r1 g1 e1 f1 o1 z1 => ⟨same1 Ou f1 id, same1 Ou f1 id, same1 Ow f1 id, same1 Ow f1 id, same1 Ou f1 id, alK fun r3 g3 e3 f3 o3 z3 => ⟨same1 (Ou.ext f1) f3 id, same1 (Ou.ext f1) f3 id, same1 (Ow.ext f1) f3 id, same1 (Ow.ext f1) f3 id, same1 (Ou.ext f1) f3 id, ?_⟩⟩
    have F3 := Ext.trans f1 f3
    have s3 := F3.size
    refine K128f o3 (IB.ext F3) (by omega) bB hk fun q4 g4 f4 d4 I4 => ⟨_, rfl, same1 (Ou.ext F3) f4 (nn (by omega)), same1 (Ou.ext F3) f4 (nn (by omega)), ?_⟩
    have F4 : Ext g g4 := Fr.trans F3 f4 fun x hx e => nn (show x ≠ r3 by omega) e
    refine K127f ((o1.ext f3).fr f4 (nn (by omega))) (IA.ext F4) I4 (by omega) (by omega) bA bS fun q5 g5 f5 d5 I5 => ⟨_, rfl, same1 (Ou.ext F4) f5 (nn (by omega)), ?_⟩
    exact fin F4 f5 (by omega) d5 I5
  · refine alK fun r3 g3 e3 f3 o3 z3 => ⟨same1 (Ou.ext f1) f3 id, same1 (Ou.ext f1) f3 id, same1 (Ow.ext f1) f3 id, same1 (Ow.ext f1) f3 id, same1 (Ou.ext f1) f3 id, ?_⟩
    have F3 := Ext.trans f1 f3
    have s3 := F3.size
    refine K128f (Own.ext o1 f3) (IB.ext F3) (by omega) bB hk fun q4 g4 f4 d4 I4 => ⟨_, rfl, same1 (Ou.ext F3) f4 (nn (by omega)), same1 (Ou.ext F3) f4 (nn (by omega)), ?_⟩
    have F4 : Ext g g4 := Fr.trans F3 f4 fun x hx e => nn (show x ≠ r1 by omega) e
    refine K127f (Own.fr o3 f4 (nn (by omega))) (IA.ext F4) I4 (by omega) (by omega) bA bS fun q5 g5 f5 d5 I5 => ⟨_, rfl, same1 (Ou.ext F4) f5 (nn (by omega)), ?_⟩
    exact fin F4 f5 (by omega) d5 I5
  · have s1 := f1.size
    refine K128f o1 (IB.ext f1) (by omega) bB hk fun q4 g4 f4 d4 I4 => ⟨_, rfl, same1 (Ou.ext f1) f4 (nn (by omega)), same1 (Ou.ext f1) f4 (nn (by omega)), ?_⟩
    have F4 : Ext g g4 := Fr.trans f1 f4 fun x hx e => nn (show x ≠ r1 by omega) e
    refine alK fun r3 g3 e3 f3 o3 z3 => ⟨same1 (Ou.ext F4) f3 id, same1 (Ou.ext F4) f3 id, same1 (Ow.ext F4) f3 id, same1 (Ow.ext F4) f3 id, same1 (Ou.ext F4) f3 id, ?_⟩
    have F3 := Ext.trans F4 f3
    have s4 := F4.size
    have l4 := I4.lt
    refine K127f o3 (IA.ext F3) (I4.ext f3) (by omega) (by omega) bA bS fun q5 g5 f5 d5 I5 => ⟨_, rfl, same1 (Ou.ext F3) f5 (nn (by omega)), ?_⟩
    exact fin F3 f5 (by omega) d5 I5
end Go.Proofs
namespace Go.Proofs
open Go Go.Eng
variable {B : World} {R : Ending → Heap → Prop} {h : Heap}
def PlusI (K : Nat) (h : Heap) (r2 r6 b n c : Nat) (vs : List Int) (m : Nat) (l : List Value) (h' : Heap) : Prop :=
  match l with
  | [.pointer a2, .pointer a6, .slice p pn pc, .int _ nn, .int _ i] => a2 = some (⟨r2, 0, none⟩ : Addr) ∧ a6 = some (⟨r6, 0, none⟩ : Addr) ∧ p = some (⟨b, 0, none⟩ : Addr) ∧ n = pn ∧ c = pc ∧ nn = (n : Int) ∧
      ∃ (j rs qs : Nat) (ms es : Int), i = (j : Int) ∧ j ≤ n ∧ m = n - j ∧ Ext h h' ∧ Own h' r2 #[.pointer none, .int .i64 0] ∧ Own h' r6 #[.pointer (some ⟨rs, 0, none⟩), .int .i64 es] ∧ IntAt h' rs qs ms ∧
        rs ≠ r6 ∧ rs ≠ r2 ∧ qs ≠ r6 ∧ qs ≠ r2 ∧ 0 ≤ es + (K : Int) ∧ es ≤ 1048576 ∧ (vs.take j).sum = ms * 2 ^ (es + (K : Int)).toNat
  | _ => False
theorem bl_part {m : Int} {k : Nat} {v : Int} {L : Nat} (hv : v = m * 2 ^ k) (hb : bl v.natAbs ≤ L) : bl m.natAbs ≤ L := by
  have : v.natAbs = m.natAbs * 2 ^ k := by rw [hv, abs_val]
  have hp : 0 < 2 ^ k := Nat.pow_pos (by decide)
  exact Nat.le_trans (bl_mono (by rw [this]; exact Nat.le_mul_of_pos_right _ hp)) hb
theorem pow_split {m : Int} {a b : Nat} : m * 2 ^ (a + b) = m * 2 ^ a * 2 ^ b := by rw [Int.pow_add, Int.mul_assoc]
/-- dyadic.plus. -/
theorem K66 {b n c K : Nat} {xs : List Ex} {vs : List Int} (hx : ExL K h b xs vs) (hn : vs.length = n) (hl : n ≤ 1099511627776) (hK : K ≤ 1048576)
    (hS : ∀ i, i ≤ n → bl ((vs.take i).sum).natAbs ≤ 900000) (hV : ∀ v ∈ vs, bl v.natAbs ≤ 900000)
    (H : ∀ r q m e h', Ext h h' → IntAt h' r q m → 0 ≤ e + (K : Int) → vs.sum = m * 2 ^ (e + (K : Int)).toNat → R (.returned (.agg #[.pointer (some ⟨r, 0, none⟩), .int .i64 e])) h') :
    Ent Tryz.prog B 41 #[.slice (some ⟨b, 0, none⟩) n c] R h := by
  refine F66_ok _ _ _ (alK fun r2 h3 e2 f2 o2 z2 => alK fun r4 h5 e4 f4 o4 z4 => alK fun r6 h7 e6 f6 o6 z6 => ⟨r6, 0, rfl, o6.stC (by simp) rfl fun oa fa => oa.stC (by simp) rfl fun ob fb => ?_⟩)
  have fab := Fr.trans (S := fun x => x = r6) fa fb fun _ _ e => e
  have F0 : Ext h _ := Fr.trans (Ext.trans f2 (Ext.trans f4 f6)) fab fun x hx e => by omega
  have I0 : IntAt _ r4 r4 0 := (ZeroAt.int (Own.ext o4 f6)).fr fab (show ¬ r4 = r6 by omega) (show ¬ r4 = r6 by omega)
  have hxl := hx.len
  refine ⟨PlusI K h r2 r6 b n c vs, n, ⟨rfl, rfl, rfl, rfl, rfl, rfl, 0, r4, r4, 0, 0, rfl, by omega, rfl, F0, ((o2.ext f4).ext f6).fr fab (show ¬ r2 = r6 by omega), ob, I0, by omega, by omega, by omega, by omega, by omega, by omega, by simp⟩, ?_⟩
  rintro m h' _ _ _ _ _ _ _ ⟨rfl, rfl, rfl, rfl, rfl, rfl, j, rs, qs, ms, es, rfl, hj, rfl, F, O2, O6, Is, n1, n2, n3, n4, he, he2, hsum⟩ _
  refine ⟨fun e => ?_, fun e => ?_⟩
  · have hjn : j < n := by simp at e; omega
    have next : ∀ (rs' qs' : Nat) (ms' es' : Int) (hh : Heap), Ext h hh → Own hh r2 #[.pointer none, .int .i64 0] → Own hh r6 #[.pointer (some ⟨rs', 0, none⟩), .int .i64 es'] → IntAt hh rs' qs' ms' → rs' ≠ r6 → rs' ≠ r2 → qs' ≠ r6 → qs' ≠ r2 →
        0 ≤ es' + (K : Int) → es' ≤ 1048576 → (vs.take j).sum + vs[j] = ms' * 2 ^ (es' + (K : Int)).toNat →
        ∃ m50, m50 < n - j ∧ PlusI K h r2 r6 b n c vs m50 [.pointer (some ⟨r2, 0, none⟩), .pointer (some ⟨r6, 0, none⟩), .slice (some ⟨b, 0, none⟩) n c, .int .i64 (n : Int), .int .i64 (IntKind.i64.wrap ((j : Int) + (1 : Int)))] hh := by
      intro rs' qs' ms' es' hh a1 a2 a3 a4 a5 a6 a7 a8 a9 a10 a11
      refine ⟨n - (j + 1), by omega, rfl, rfl, rfl, rfl, rfl, rfl, j + 1, rs', qs', ms', es', by rw [i64_in (by omega) (by omega)]; rfl, by omega, rfl, a1, a2, a3, a4, a5, a6, a7, a8, a9, a10, ?_⟩
      rw [List.take_succ_eq_append_getElem (by omega), List.sum_append, List.sum_singleton]; exact a11
    obtain ⟨cs, Ob, hcell⟩ := hx.own
    obtain ⟨c1, c2⟩ := hcell j (by omega)
    obtain ⟨⟨Ix, x1, x2, x3, _⟩, x4, x5⟩ := hx.at_ j (by omega) (by omega)
    generalize xs[j]'(by omega) = X at *
    have hvj : bl vs[j].natAbs ≤ 900000 := hV _ (List.getElem_mem _)
    have hsj := hS j (by omega)
    have hsj1 := hS (j + 1) (by omega)
    rw [List.take_succ_eq_append_getElem (by omega), List.sum_append, List.sum_singleton] at hsj1
    have lX := Ix.lt
    have lXq := Ix.lq
    have Ob' := Ob.ext F
    have l2 := O2.lt
    have l6 := O6.lt
    refine ⟨b, 0, rfl, by omega, by omega, b, _, rfl, _, by rw [Int.toNat_natCast, Nat.zero_add, Ob'.cell]; exact c1, _, by rw [Int.toNat_natCast, Nat.zero_add, Ob'.cell]; exact c2, ?_⟩
    refine alK fun r27 h28 e27 f27 o27 z27 => ⟨r27, 0, rfl, o27.stC (by simp) rfl fun ob fb => ob.stC (by simp) rfl fun oc fc => ⟨r27, 0, rfl, r27, 0, rfl, _, oc.cell _, ?_⟩⟩
    have fbc := Fr.trans (S := fun x => x = r27) fb fc fun _ _ e => e
    have F32 : Ext h' _ := Fr.trans f27 fbc fun x hx e => by omega
    have FX := Ext.trans F F32
    refine K75 (Ix.ext FX) ⟨_, rfl, fun e0 => ?_, fun e0 => ?_⟩
    · have hm : X.m = 0 := Int.sign_eq_zero_iff_zero.1 (of_decide_eq_true e0)
      exact next rs qs ms es _ FX (O2.ext F32) (O6.ext F32) (Is.ext F32) n1 n2 n3 n4 he he2 (by rw [x3, hm, Int.zero_mul, Int.add_zero, hsum])
    · refine ⟨r6, 0, rfl, r6, 0, rfl, _, (O6.ext F32).cell _, K75 (Is.ext F32) ⟨_, rfl, fun e1 => ?_, fun e1 => ?_⟩⟩
      · have hm : ms = 0 := Int.sign_eq_zero_iff_zero.1 (of_decide_eq_true e1)
        refine ⟨r27, 0, rfl, _, oc.cell _, _, oc.cell _, r6, 0, rfl, (O6.ext F32).stC (by simp) rfl fun od fd => od.stC (by simp) rfl fun oe fe => ?_⟩
        have fde := Fr.trans (S := fun x => x = r6) fd fe fun _ _ e => e
        exact next X.r X.q X.m X.e _ (Fr.trans FX fde fun x hx e => by omega) ((O2.ext F32).fr fde (show ¬ r2 = r6 by omega)) oe ((Ix.ext FX).fr fde (show ¬ X.r = r6 by omega) (show ¬ X.q = r6 by omega)) (by omega) (by omega) (by omega) (by omega) x1 x2
          (by rw [hsum, hm, Int.zero_mul, Int.zero_add, x3])
      · have O6' := O6.ext F32
        refine ⟨r27, 0, rfl, r27, 0 + 1, rfl, _, oc.cell _, r6, 0, rfl, r6, 0 + 1, rfl, _, O6'.cell _, fun e2 => ?_, fun e2 => ?_⟩
        · have hle : es ≤ X.e := of_decide_eq_true e2
          refine ⟨r6, 0, rfl, r6, 0, rfl, _, O6'.cell _, r27, 0, rfl, r27, 0, rfl, _, oc.cell _, r27, 0, rfl, r27, 0 + 1, rfl, _, oc.cell _, r6, 0, rfl, r6, 0 + 1, rfl, _, O6'.cell _, r6, 0, rfl, r6, 0 + 1, rfl, _, O6'.cell _, ?_⟩
          have ek : (X.e + (K : Int)).toNat = (X.e - es).toNat + (es + (K : Int)).toNat := by omega
          have hxv : vs[j] = X.m * 2 ^ (X.e - es).toNat * 2 ^ (es + (K : Int)).toNat := by rw [x3, ek, pow_split]
          refine addSh (k := (X.e - es).toNat) O6' oc O6' (Is.ext F32) (Ix.ext FX) ?_ (by omega) (by have := bl_part hsum hsj; omega) (by have := bl_part x3 hvj; omega) (by have := bl_part hxv hvj; omega) fun r q g' fg og Ig hr hq => ?_
          · rw [i64_in (by omega) (by omega)]
            have : X.e - es = ((X.e - es).toNat : Int) := by omega
            rw [this, Int.toNat_natCast]; exact wrap_u64_in (by omega) (by omega)
          · have sz := F32.size
            exact next r q _ es _ (Fr.trans FX fg fun x hx e => by omega) ((O2.ext F32).fr fg (show ¬ r2 = r6 by omega)) og Ig (by omega) (by omega) (by omega) (by omega) he he2 (by rw [hsum, hxv, Int.add_mul])
        · have hle : ¬ es ≤ X.e := of_decide_eq_false e2
          refine ⟨r27, 0, rfl, r27, 0, rfl, _, oc.cell _, r6, 0, rfl, r6, 0, rfl, _, O6'.cell _, r6, 0, rfl, r6, 0 + 1, rfl, _, O6'.cell _, r27, 0, rfl, r27, 0 + 1, rfl, _, oc.cell _, r27, 0, rfl, r27, 0 + 1, rfl, _, oc.cell _, ?_⟩
          have ek : (es + (K : Int)).toNat = (es - X.e).toNat + (X.e + (K : Int)).toNat := by omega
          have hsv : (vs.take j).sum = ms * 2 ^ (es - X.e).toNat * 2 ^ (X.e + (K : Int)).toNat := by rw [hsum, ek, pow_split]
          refine addSh (k := (es - X.e).toNat) oc O6' O6' (Ix.ext FX) (Is.ext F32) ?_ (by omega) (by have := bl_part x3 hvj; omega) (by have := bl_part hsum hsj; omega) (by have := bl_part hsv hsj; omega) fun r q g' fg og Ig hr hq => ?_
          · rw [i64_in (by omega) (by omega)]
            have : es - X.e = ((es - X.e).toNat : Int) := by omega
            rw [this, Int.toNat_natCast]; exact wrap_u64_in (by omega) (by omega)
          · have sz := F32.size
            exact next r q _ X.e _ (Fr.trans FX fg fun x hx e => by omega) ((O2.ext F32).fr fg (show ¬ r2 = r6 by omega)) og Ig (by omega) (by omega) (by omega) (by omega) x1 x2 (by rw [hsv, x3, Int.add_mul, Int.add_comm])
  · have hjn : j = n := by simp at e; omega
    refine ⟨r6, 0, rfl, _, O6.cell _, _, O6.cell _, r2, 0, rfl, O2.stC (by simp) rfl fun od fd => od.stC (by simp) rfl fun oe fe => ⟨r2, 0, rfl, _, oe.cell _, _, oe.cell _, ?_⟩⟩
    have fde := Fr.trans (S := fun x => x = r2) fd fe fun _ _ e => e
    refine H rs qs ms es _ (Fr.trans F fde fun x hx e => by omega) (Is.fr fde n2 n4) he ?_
    rw [← hsum, hjn, ← hn, List.take_length]
end Go.Proofs
