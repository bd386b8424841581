import Derived.Test.YtoclhdcpjlcdiaaGreatFmtA10
import Derived.Test.YtoclhdcpjlcdiaaGreatFmtA12
/- Here stand lemmas: dyadic: contracts, first part. -/
set_option linter.unusedVariables false
namespace Go.Proofs
open Go Go.Eng
variable {B : World} {R : Ending → Heap → Prop} {h : Heap}
abbrev B30 : Nat := 1073741824
/-- A number's digits, to the base 2^30. -/
structure DigI (h : Heap) (p : Option Addr) (n : Nat) (ds : List Nat) : Prop where
  pt : Pt p
  sl : Sl .i64 h p ds
  len : ds.length = n
  dig : Dig B30 ds
  trim : Trim ds
theorem DigI.ext {h h' : Heap} {p : Option Addr} {n : Nat} {ds : List Nat} (H : DigI h p n ds) (f : Ext h h') : DigI h' p n ds := ⟨H.pt, H.sl.ext f, H.len, H.dig, H.trim⟩
/-- nat.Valid of valid digits. -/
theorem K174 {p : Option Addr} {n c : Nat} {ds : List Nat} (hd : DigI h p n ds) (hn : n ≤ 2000) (H : R (.returned (.bool true)) h) : Ent Tryz.prog B 91 #[.slice p n c] R h := by
  have hl := hd.len
  refine F174_ok _ _ _ ⟨fun m vs h' => match vs with
    | [.slice p1 n1 _, .slice p2 n2 _, .int _ nn, .int _ i] => p = p1 ∧ n = n1 ∧ p = p2 ∧ n = n2 ∧ (n : Int) = nn ∧ h = h' ∧ ∃ j : Nat, i = (j : Int) ∧ j ≤ n ∧ m = n - j
    | _ => False, n, ⟨rfl, rfl, rfl, rfl, rfl, rfl, 0, rfl, by omega, rfl⟩, ?_⟩
  rintro m h' _ _ _ _ _ _ _ _ ⟨rfl, rfl, rfl, rfl, rfl, rfl, j, rfl, hj, rfl⟩ _
  refine ⟨fun e => ?_, fun e => ⟨fun e1 => ⟨fun _ => H, fun e2 => ?_⟩, fun e1 => ?_⟩⟩
  · have hjn : j < n := by simp at e; omega
    have dj : ds[j]'(by omega) < 1073741824 := hd.dig.get (by omega)
    refine hd.sl.get j rfl (by omega) (by omega) ⟨fun e => by simp at e; omega, fun _ => ?_⟩
    have : decide ((1073741824 : Int) ≤ ((ds[j]'(by omega) : Nat) : Int)) = false := by simp; omega
    rw [this]
    exact ⟨fun e => (by cases e), fun _ => ⟨n - (j + 1), by omega, rfl, rfl, rfl, rfl, rfl, rfl, j + 1, by rw [i64_in (by omega) (by omega)]; rfl, by omega, rfl⟩⟩
  · have hn0 : 0 < n := by simp at e2; omega
    refine hd.sl.get (n - 1) (by rw [i64_in (by omega) (by omega)]; omega) (by omega) (by omega) ?_
    have hw : ds[n - 1]'(by omega) ≠ 0 := by
      intro e0
      apply hd.trim
      rw [List.getLast?_eq_getElem?, hl, List.getElem?_eq_getElem (by omega), e0]
    have : (!decide (((ds[n - 1]'(by omega) : Nat) : Int) = 0)) = true := by simp; omega
    rw [this]; exact H
  · simp at e1; omega
theorem bl_dig {b k : Nat} {ds : List Nat} (hb : b = 2 ^ k) (hd : Dig b ds) : bl (val b ds) ≤ k * ds.length := by
  rw [bl_le_iff, Nat.pow_mul, ← hb]; exact val_lt hd
theorem or30 {v d : Nat} (hd : d < B30) : v * 2 ^ 30 ||| d = v * 2 ^ 30 + d := or_add hd
end Go.Proofs
namespace Go.Proofs
open Go Go.Eng
variable {B : World} {R : Ending → Heap → Prop} {h : Heap}
theorem and1_i64 {a : Nat} (ha : a < 9223372036854775808) : bitsI .and .i64 (a : Int) (1 : Int) = ((a % 2 : Nat) : Int) := by
  have h1 : bitsI .and .i64 (a : Int) (1 : Int) = IntKind.i64.wrap (((BitVec.ofInt 64 (a : Int) &&& BitVec.ofInt 64 ((1 : Nat) : Int)).toNat : Nat) : Int) := rfl
  rw [h1, ofInt_nat, ofInt_nat, BitVec.toNat_and, BitVec.toNat_ofNat, BitVec.toNat_ofNat, Nat.mod_eq_of_lt (by omega : a < 2 ^ 64), Nat.mod_eq_of_lt (by omega : 1 < 2 ^ 64), show a &&& 1 = a % 2 from Nat.and_two_pow_sub_one_eq_mod a 1]
  exact i64_in (by omega) (by omega)
/-- An exact number in its one form. -/
structure NumI (h : Heap) (neg : Bool) (p : Option Addr) (n : Nat) (e : Int) (ds : List Nat) : Prop where
  d : DigI h p n ds
  le : n ≤ 2000
  zero : n = 0 → neg = false ∧ e = 0
  pos : 0 < n → val B30 ds % 2 = 1 ∧ -1048576 ≤ e ∧ e ≤ 1048576
theorem NumI.ext {h h' : Heap} {neg : Bool} {p : Option Addr} {n : Nat} {e : Int} {ds : List Nat} (H : NumI h neg p n e ds) (f : Ext h h') : NumI h' neg p n e ds := ⟨H.d.ext f, H.le, H.zero, H.pos⟩
theorem val_mod2 {ds : List Nat} (hn : 0 < ds.length) : val B30 ds % 2 = ds[0] % 2 := by
  have := val_drop B30 ds (i := 0) hn
  rw [List.drop_zero] at this
  rw [this]; unfold B30; omega
/-- dyadic.Valid of a valid one. -/
theorem K129 {neg : Bool} {p : Option Addr} {n c : Nat} {e : Int} {ds : List Nat} (hx : NumI h neg p n e ds) (H : ∀ h', Ext h h' → R (.returned (.bool true)) h') : Ent Tryz.prog B 62 #[.agg #[.bool neg, .slice p n c, .int .i64 e]] R h := by
  have o : Own (h.push (.cells #[.bool neg, .slice p n c, .int .i64 e] 43)) h.size #[.bool neg, .slice p n c, .int .i64 e] := own_new
  have f : Ext h (h.push (.cells #[.bool neg, .slice p n c, .int .i64 e] 43)) := Ext.push
  have ld0 : ∀ {K : Bool → Prop}, K neg → isP (some ⟨h.size, 0, none⟩) fun b o => isP (some ⟨b, o, none⟩) fun b o => ∃ x, cell? (h.push (.cells #[.bool neg, .slice p n c, .int .i64 e] 43)) ⟨b, o, none⟩ = some (.bool x) ∧ K x :=
    fun k => ⟨h.size, 0, rfl, h.size, 0, rfl, neg, o.cell _, k⟩
  have ld1 : ∀ {K : Option Addr → Nat → Nat → Prop}, K p n c → isP (some ⟨h.size, 0, none⟩) fun b o => isP (some ⟨b, o + 1, none⟩) fun b o => ∃ x xn xc, cell? (h.push (.cells #[.bool neg, .slice p n c, .int .i64 e] 43)) ⟨b, o, none⟩ = some (.slice x xn xc) ∧ K x xn xc :=
    fun k => ⟨h.size, 0, rfl, h.size, 0 + 1, rfl, p, n, c, o.cell _, k⟩
  have ld2 : ∀ {K : Int → Prop}, K e → isP (some ⟨h.size, 0, none⟩) fun b o => isP (some ⟨b, o + 2, none⟩) fun b o => ∃ x, cell? (h.push (.cells #[.bool neg, .slice p n c, .int .i64 e] 43)) ⟨b, o, none⟩ = some (.int .i64 x) ∧ K x :=
    fun k => ⟨h.size, 0, rfl, h.size, 0 + 2, rfl, e, o.cell _, k⟩
  refine F129_ok _ _ _ _ _ (ld1 ⟨fun e0 => ld0 ?_, fun e0 => ld1 (K174 (hx.d.ext f) hx.le ⟨_, rfl, fun _ => ld1 ?_, fun e => (by cases e)⟩)⟩)
  · have hn : n = 0 := by simpa using e0
    obtain ⟨rfl, rfl⟩ := hx.zero hn
    exact ⟨fun _ => ld2 (H _ f), fun e => (by cases e)⟩
  · have hn : 0 < n := by simp at e0; omega
    obtain ⟨p1, p2, p3⟩ := hx.pos hn
    have hl := hx.d.len
    have hdg : ds[0]'(by omega) < 1073741824 := hx.d.dig.get (by omega)
    refine (hx.d.sl.ext f).get 0 rfl (by omega) (by omega) ?_
    rw [and1_i64 (by omega), ← val_mod2, p1]
    refine ⟨fun _ => ld2 ⟨fun _ => ld2 ?_, fun e => ?_⟩, fun e => by simp at e⟩
    · have : decide (e ≤ (1048576 : Int)) = true := by simp; omega
      rw [this]; exact H _ f
    · simp at e; omega
end Go.Proofs
namespace Go.Eng
open Go
theorem alK {h : Heap} {cs : Array Value} {e : TypeId} {K : Nat → Heap → Prop} (k : ∀ r h', r = h.size → Ext h h' → Own h' r cs → h'.size = h.size + 1 → K r h') : alW h (.cells cs e) K :=
  k _ _ rfl Ext.push own_new (by simp)
theorem same1 {h h' : Heap} {b o : Nat} {cs : Array Value} {S : Nat → Prop} (H : Own h b cs) (f : Fr S h h') (hb : ¬ S b) : sameCells h h' b o 1 := by
  have h1 := H.fr f hb
  simp only [sameCells]
  simp [H.cell, h1.cell]
end Go.Eng
namespace Go.Proofs
open Go Go.Eng
variable {B : World} {R : Ending → Heap → Prop} {h : Heap}
end Go.Proofs
namespace Go.Eng
open Go
theorem digs_snoc {b w : Nat} (hb : 1 < b) (hw : 0 < w) (l : List Nat) : l ++ digs b w = (l ++ [w % b]) ++ digs b (w / b) := by
  rw [digs_ne hb (by omega)]; simp
theorem digs_len {b k w n : Nat} (hb : b = 2 ^ k) (hk : 0 < k) (h : bl w ≤ k * n) : (digs b w).length ≤ n := by
  have h1 : 1 < b := by rw [hb]; exact Nat.one_lt_two_pow (by omega)
  have hv : val b (digs b w) < b ^ n := by rw [digs_val h1, hb, ← Nat.pow_mul]; exact bl_le_iff.1 h
  by_cases he : digs b w = []
  · rw [he]; simp
  · have := val_pos (b := b) he (digs_trim h1 w) (by omega)
    have h3 : b ^ ((digs b w).length - 1) < b ^ n := Nat.lt_of_le_of_lt this hv
    have := (Nat.pow_lt_pow_iff_right h1).1 h3
    omega
/-- An element appended where there is room. -/
theorem ap1i {k : IntKind} {h : Heap} {p : Option Addr} {n c r e : Nat} {ws : List Nat} {x : Nat} {S : Nat → Prop} {zero : Array Value} {bytes : Nat} {K : Option Addr → Nat → Nat → Heap → Prop}
    (hs : Sl k h p ws) (hr : Room h p c S) (hn : ws.length = n) (hc : n + 1 ≤ c) (hx : Own h r #[.int k (x : Int)])
    (hk : ∀ h', Sl k h' p (ws ++ [x]) → Room h' p c S → Fr S h h' → K p (n + 1) c h') :
    apW h p n c (some ⟨r, 0, none⟩) 1 1 bytes e zero K := by
  have hrow : rowAt h (some ⟨r, 0, none⟩) (1 * 1) [.int k (x : Int)] := by
    refine ⟨rfl, r, 0, rfl, fun i hi => ?_⟩
    have : i = 0 := by simp at hi; exact hi
    subst this
    rw [hx.cell]; rfl
  refine ⟨fun hle => ?_, fun hlt => by omega⟩
  refine ⟨_, hrow, ?_⟩
  rcases hr with hr | ⟨b, o, cs, e1, e2, e3, e4⟩
  · omega
  subst e1
  have hsz : o + n < cs.size := by omega
  refine ⟨b, o, rfl, fun y hy => ?_, fun i hi => ?_, ?_⟩
  · rw [List.mem_singleton] at hy; subst hy; rfl
  · have : i = 0 := by simp at hi; exact hi
    subst this
    exact ⟨⟨_, by rw [e2.cell, Array.getElem?_eq_getElem (by omega)]⟩, e2.frozen _⟩
  · simp only [setRow, Nat.mul_one]
    have H' := own_set (o := o + n) (v := .int k (x : Int)) e2
    refine hk _ (.inr ⟨b, o, _, rfl, H', fun i hi => ?_⟩) (.inr ⟨b, o, _, rfl, H', by simpa using e3, e4⟩) (Fr.mono fr_setCell fun y _ hy => hy ▸ e4)
    rw [List.length_append, List.length_singleton] at hi
    by_cases hil : i < ws.length
    · rw [Array.getElem?_setIfInBounds_ne (by omega), List.getElem_append_left hil]
      rcases hs with hs | ⟨b', o', cs', f1, f2, f3⟩
      · subst hs; exact absurd hil (by simp)
      · cases f1; rw [e2.inj f2]; exact f3 i hil
    · have : i = ws.length := by omega
      subst this
      simp only [hn, List.getElem_concat_length]
      rw [Array.getElem?_setIfInBounds_self_of_lt hsz]
end Go.Eng
namespace Go.Proofs
open Go Go.Eng
variable {B : World} {R : Ending → Heap → Prop} {h : Heap}
/-- What told needs to know of the heap, once its loop runs. -/
structure Told (h0 h : Heap) (r3 r5 rx rm qm bd : Nat) (e : Int) : Prop where
  f : Ext h0 h
  o3 : Own h r3 #[.pointer (some ⟨rx, 0, none⟩), .int .i64 e]
  o5 : Own h r5 #[.bool false, .slice none 0 0, .int .i64 0]
  im : IntAt h rm qm ((1073741823 : Nat) : Int)
  g3 : h0.size ≤ r3
  g5 : h0.size ≤ r5
  gm : h0.size ≤ rm
  gq : h0.size ≤ qm
  gb : h0.size ≤ bd
  d3 : bd ≠ r3
  d5 : bd ≠ r5
  dm : bd ≠ rm
  dq : bd ≠ qm
  ne : r3 ≠ r5
theorem Told.fr {h0 h h' : Heap} {r3 r5 rx rm qm bd : Nat} {e : Int} {S : Nat → Prop} (T : Told h0 h r3 r5 rx rm qm bd e) (f : Fr S h h') (h3 : ¬ S r3) (h5 : ¬ S r5) (hm : ¬ S rm) (hq : ¬ S qm) (h0s : ∀ x, x < h0.size → ¬ S x) : Told h0 h' r3 r5 rx rm qm bd e :=
  ⟨Fr.trans T.f f fun x hx s => h0s x hx s, T.o3.fr f h3, T.o5.fr f h5, T.im.fr f hm hq, T.g3, T.g5, T.gm, T.gq, T.gb, T.d3, T.d5, T.dm, T.dq, T.ne⟩
end Go.Proofs
namespace Go.Eng
open Go
/-- Not in a block of h. -/
def Fresh (h : Heap) (p : Option Addr) : Prop := ∀ b o, p = some (⟨b, o, none⟩ : Addr) → h.size ≤ b
theorem Fresh.nil {h : Heap} : Fresh h none := fun _ _ e => by cases e
theorem Fresh.mono {h h' : Heap} {p : Option Addr} (H : Fresh h' p) (f : h.size ≤ h'.size) : Fresh h p := fun b o e => Nat.le_trans f (H b o e)
end Go.Eng
namespace Go.Proofs
open Go Go.Eng
variable {B : World} {R : Ending → Heap → Prop} {h : Heap}
theorem td30 (s : Nat) : Int.tdiv (s : Int) (30 : Int) = ((s / 30 : Nat) : Int) := by
  rw [Int.tdiv_eq_ediv_of_nonneg (by omega)]; rfl
theorem and_mask30 (w : Nat) : w &&& 1073741823 = w % B30 := Nat.and_two_pow_sub_one_eq_mod w 30
theorem K65j {h0 h : Heap} {r3 r5 rx qx r37 q37 : Nat} {v : Int} {e e0 : Int} {M : Nat} (f : Ext h0 h) (hx : IntAt h0 rx qx v) (o3 : Own h r3 #[.pointer (some ⟨rx, 0, none⟩), .int .i64 e0]) (o5 : Own h r5 #[.bool false, .slice none 0 0, .int .i64 0])
    (g3 : h0.size ≤ r3) (g5 : h0.size ≤ r5) (ne : r3 ≠ r5) (im : IntAt h r37 q37 (M : Int)) (gm : h0.size ≤ r37) (gq : h0.size ≤ q37) (n3 : r3 ≠ r37 ∧ r3 ≠ q37) (n5 : r5 ≠ r37 ∧ r5 ≠ q37) (hM : bl M ≤ 60000)
    (H : ∀ p n c h', Ext h0 h' → Fresh h0 p → Room h' p c (fun b => h0.size ≤ b) → n ≤ c → DigI h' p n (digs B30 M) → R (.returned (.agg #[.bool (decide (v < 0)), .slice p n c, .int .i64 e])) h') :
    F65_j66 B R (some ⟨r3, 0, none⟩) (some ⟨r5, 0, none⟩) (some ⟨r37, 0, none⟩) e false h := by
  refine ⟨fun e => (by cases e), fun _ => K124 im ⟨_, rfl, by decide, ?_⟩⟩
  have eC : IntKind.i64.wrap (IntKind.i64.wrap (Int.tdiv ((bl (M : Int).natAbs : Nat) : Int) (30 : Int)) + (1 : Int)) = ((bl M / 30 + 1 : Nat) : Int) := by
    rw [Int.natAbs_natCast, td30, i64_in (x := ((bl M / 30 : Nat) : Int)) (by omega) (by omega), i64_in (by omega) (by omega)]; rfl
  rw [eC]
  refine ⟨by omega, by omega, by omega, by omega, alK fun r78 h79 e78 f79 o78 z79 => ?_⟩
  have l3 := o3.lt
  have l5 := o5.lt
  have lq := im.lq
  have lr := im.lt
  refine K120 (v := 1073741823) (by decide) (by decide) fun rm qm h81 f81 grm grm' gqm I81 => ⟨_, rfl, ?_⟩
  have hs79 : h79.size = h.size + 1 := z79
  have fs := f.size
  have T0 : Told h0 h81 r3 r5 rx rm qm r78 e0 :=
    ⟨Ext.trans f (Ext.trans f79 f81), (o3.ext f79).ext f81, (o5.ext f79).ext f81, I81, g3, g5, by omega, by omega, by omega, by omega, by omega, by omega, by omega, ne⟩
  refine ⟨fun m vs h' => match vs with
    | [.pointer p3, .pointer p5, .pointer p37, .int _ ee, .slice p n c, .pointer pm] => p3 = some (⟨r3, 0, none⟩ : Addr) ∧ p5 = some (⟨r5, 0, none⟩ : Addr) ∧ p37 = some (⟨r37, 0, none⟩ : Addr) ∧ ee = e ∧ pm = some (⟨rm, 0, none⟩ : Addr) ∧ c = bl M / 30 + 1 ∧
        ∃ (l : List Nat) (q : Nat), Told h0 h' r3 r5 rx rm qm r78 e0 ∧ IntAt h' r37 q (m : Int) ∧ h0.size ≤ q ∧ q ≠ r3 ∧ q ≠ r5 ∧ q ≠ rm ∧ q ≠ qm ∧ q ≠ r78 ∧ m ≤ M ∧ Sl .i64 h' p l ∧ l.length = n ∧ Room h' p c (fun b => b = r78) ∧ Pt p ∧ Dig B30 l ∧ l ++ digs B30 m = digs B30 M
    | _ => False, M, ⟨rfl, rfl, rfl, rfl, rfl, ?_, [], q37, T0, (im.ext f79).ext f81, gq, by omega, by omega, by omega, by omega, by omega, Nat.le_refl _, Sl.nil, rfl, ?_, pt_some, Dig.nil, rfl⟩, ?_⟩
  · rfl
  · refine .inr ⟨r78, 0, _, rfl, o78.ext f81, ?_, rfl⟩
    simp [mkCells]
  rintro m h' _ _ _ _ p n c _ ⟨rfl, rfl, rfl, rfl, rfl, rfl, l, q, T, I, hq, q3, q5, qrm, qqm, qbd, hmM, hsl, hln, hroom, hpt, hdl, hdig⟩ _
  refine K75 I ⟨_, rfl, fun e => ?_, fun e => ?_⟩
  · have hm0 : 0 < m := by
      rcases Nat.eq_zero_or_pos m with h | h
      · subst h; simp at e
      · exact h
    have hbm : bl m ≤ 60000 := by
      exact Nat.le_trans (bl_mono hmM) hM
    have hmask : bl 1073741823 ≤ 1000000 := by
      have : bl 1073741823 ≤ 30 := bl_le_iff.2 (by decide)
      omega
    refine alK fun r100 h101 e101 f101 o101 z101 => ?_
    refine K125f o101 (I.ext f101) (T.im.ext f101) (by omega) hmask hm0 (by decide) fun q100 h103 f103 d103 I103 => ⟨_, rfl, ?_⟩
    rw [and_mask30] at I103
    have hdig30 : m % B30 < 1073741824 := Nat.mod_lt _ (by decide)
    refine K126 I103 (by rw [Int.natAbs_natCast]; omega) ⟨_, rfl, ?_⟩
    refine alK fun r112 h113 e113 f113 o113 z113 => ?_
    have F13 : Ext h' h113 := by
      refine Fr.trans (Fr.trans f101 f103 fun x hx e => ?_) f113 fun _ _ e => e
      rcases e with e | e
      · omega
      · exact e
    have T13 := T.fr F13 id id id id fun _ _ => id
    have I13 := I.ext F13
    have hcap : l.length < bl M / 30 + 1 := by
      have h1 := digs_len (b := B30) (k := 30) (w := M) (n := bl M / 30 + 1) rfl (by decide) (by omega)
      rw [← hdig, List.length_append, digs_ne (by decide) (by omega), List.length_cons] at h1
      omega
    have ec : n = l.length := hln.symm
    subst ec
    refine ap1i (k := .i64) (x := m % B30) (S := fun b => b = r78) (hsl.ext F13) (hroom.ext F13) rfl (by omega) o113 fun h114 s114 r114 f114 => ?_
    have hx113 : h'.size ≤ h113.size := F13.size
    have T14 := T13.fr f114 T.d3.symm T.d5.symm T.dm.symm T.dq.symm fun x hx e => by have := T.gb; omega
    have I14 : IntAt h114 r37 q (m : Int) := I13.fr f114 (show ¬ r37 = r78 by omega) qbd
    refine K122i (s := 30) I14 (by omega) (by decide) (by decide) fun q2 h119 f119 d119 I119 => ⟨_, rfl, ?_⟩
    have hl114 := f114.size
    have lq' := I.lq
    have n2 : ∀ x, x ≠ r37 → x ≠ q → ¬ (x = r37 ∨ Rm r37 q x) := fun x h1 h2 hh => by
      rcases hh with hh | hh
      · exact h1 hh
      · exact h2 hh.1
    have T19 := T14.fr f119 (n2 _ n3.1 q3.symm) (n2 _ n5.1 q5.symm) (n2 _ (by omega) qrm.symm) (n2 _ (by omega) qqm.symm) (fun x hx => n2 x (by omega) (by omega))
    have nb : ¬ (r78 = r37 ∨ Rm r37 q r78) := n2 _ (by omega) qbd.symm
    have l3' := T.o3.lt
    have l5' := T.o5.lt
    have lm' := T.im.lt
    have lqm' := T.im.lq
    have lg := T.gb
    have lb : r78 < h'.size := by
      rcases hroom with e0 | ⟨b, o, cs, e1, e2, e3, e4⟩
      · omega
      · have := e2.lt; omega
    have q2n : ∀ x, x ≠ r37 → x ≠ q → x < h'.size → q2 ≠ x := fun x h1 h2 h3 e => by
      subst e
      rcases d119 with hh | hh | hh
      · exact h1 hh
      · exact h2 hh.1
      · omega
    refine ⟨m / 2 ^ 30, Nat.div_lt_self hm0 (by decide), rfl, rfl, rfl, rfl, rfl, rfl, l ++ [m % B30], q2, T19, I119, ?_, q2n _ n3.1 q3.symm l3', q2n _ n5.1 q5.symm l5', q2n _ (by omega) qrm.symm lm', q2n _ (by omega) qqm.symm lqm', q2n _ (by omega) qbd.symm lb, ?_, ?_, by simp, r114.fr f119 fun b e => e ▸ nb, hpt, hdl.snoc (Nat.mod_lt _ (by decide)), ?_⟩
    · have := T.f.size
      rcases d119 with hh | hh | hh
      · omega
      · have := hh.1; omega
      · omega
    · exact Nat.le_trans (Nat.div_le_self _ _) hmM
    · refine s114.fr f119 fun b o e _ => ?_
      rcases r114 with e0 | ⟨b', o', cs, e1, e2, e3, e4⟩
      · omega
      · rw [e1] at e; cases e; exact e4 ▸ nb
    · rw [← hdig]; exact (digs_snoc (by decide) hm0 l).symm
  · have hm0 : m = 0 := by
      rcases Nat.eq_zero_or_pos m with h | h
      · exact h
      · rw [Int.sign_eq_one_of_pos (by omega)] at e; cases e
    subst hm0
    rw [digs_zero, List.append_nil] at hdig
    have hsg : decide (v.sign < 0) = decide (v < 0) := by
      rcases Int.lt_trichotomy v 0 with h | h | h
      · rw [Int.sign_eq_neg_one_of_neg h]; simp [h]
      · subst h; rfl
      · rw [Int.sign_eq_one_of_pos h]; have : ¬ v < 0 := by omega
        simp [this]
    refine ⟨r3, 0, rfl, r3, 0, rfl, _, T.o3.cell _, K75 (hx.ext T.f) ⟨_, rfl, r5, 0, rfl, ?_⟩⟩
    rw [hsg]
    refine T.o5.stC (by simp) rfl fun oa fa => oa.stC (by simp) rfl fun ob fb => ob.stC (by simp) rfl fun oc fc => ⟨r5, 0, rfl, _, oc.cell _, _, _, _, oc.cell _, _, oc.cell _, ?_⟩
    have fabc := Fr.trans (S := fun x => x = r5) (Fr.trans (S := fun x => x = r5) fa fb fun _ _ e => e) fc fun _ _ e => e
    have hpb : ∀ b o, p = some (⟨b, o, none⟩ : Addr) → b = r78 := by
      intro b o e
      rcases hroom with e0 | ⟨b', o', cs, e1, e2, e3, e4⟩
      · omega
      · rw [e1] at e; cases e; exact e4
    refine H p n _ _ (Fr.trans T.f fabc fun x hx e => by have := T.g5; omega) (fun b o e => by rw [hpb b o e]; exact T.gb) ((hroom.fr fabc fun b e => e ▸ T.d5).mono fun b e => e ▸ T.gb) ?_ ⟨hpt, ?_, ?_, digs_dig (by decide) _, digs_trim (by decide) _⟩
    · have h1 := digs_len (b := B30) (k := 30) (w := M) (n := bl M / 30 + 1) rfl (by decide) (by omega)
      rw [← hdig] at h1; omega
    · rw [← hdig]; exact hsl.fr fabc fun b o e _ => by rw [hpb b o e]; exact T.d5
    · rw [← hdig]; exact hln
end Go.Proofs
namespace Go.Eng
open Go
theorem bl_eq {v : Nat} (h : v ≠ 0) : bl v = v.log2 + 1 := by rw [bl, if_neg h]
theorem bl_scale {m : Nat} (k : Nat) (h : m ≠ 0) : bl (m * 2 ^ k) = bl m + k := by
  have hk : 0 < 2 ^ k := Nat.pow_pos (by decide)
  rw [bl_eq h, bl_eq (Nat.mul_ne_zero h (by omega)), log2_scale k h]; omega
end Go.Eng
namespace Go.Proofs
open Go Go.Eng
variable {B : World} {R : Ending → Heap → Prop} {h : Heap}
theorem TabH.ext {h h' : Heap} (H : TabH h) (f : Ext h h') : TabH h' := H.fr f id
/-- An exact number in its one form, of value v in units of 2^-K. -/
def NumS (K : Nat) (h : Heap) (neg : Bool) (p : Option Addr) (n : Nat) (e v : Int) : Prop :=
  ∃ M : Nat, NumI h neg p n e (digs B30 M) ∧ 0 ≤ e + (K : Int) ∧ v = Ieee.signed neg M (e + (K : Int)).toNat
theorem NumS.ext {K : Nat} {h h' : Heap} {neg : Bool} {p : Option Addr} {n : Nat} {e v : Int} (H : NumS K h neg p n e v) (f : Ext h h') : NumS K h' neg p n e v :=
  let ⟨M, a, b⟩ := H; ⟨M, a.ext f, b⟩
theorem NumS.fr {K : Nat} {h h' : Heap} {neg : Bool} {p : Option Addr} {n : Nat} {e v : Int} {S : Nat → Prop} (H : NumS K h neg p n e v) (f : Fr S h h') (hp : ∀ b o, p = some ⟨b, o, none⟩ → ¬ S b) : NumS K h' neg p n e v :=
  let ⟨M, a, b⟩ := H; ⟨M, ⟨⟨a.d.pt, a.d.sl.fr f fun b o e _ => hp b o e, a.d.len, a.d.dig, a.d.trim⟩, a.le, a.zero, a.pos⟩, b⟩
theorem NumI.fr {h h' : Heap} {neg : Bool} {p : Option Addr} {n : Nat} {e : Int} {ds : List Nat} {S : Nat → Prop} (H : NumI h neg p n e ds) (f : Fr S h h') (hs : ∀ x, x < h.size → ¬ S x) : NumI h' neg p n e ds :=
  H.ext ⟨f.size, fun b hb _ => f.same b hb (hs b hb)⟩
theorem Fr.toExt {h h' : Heap} {S : Nat → Prop} (f : Fr S h h') (hs : ∀ x, x < h.size → ¬ S x) : Ext h h' := ⟨f.size, fun b hb _ => f.same b hb (hs b hb)⟩
theorem digI_nil {h : Heap} : DigI h none 0 (digs B30 0) := by
  rw [digs_zero]; exact ⟨.inl rfl, Sl.nil, rfl, Dig.nil, by simp [Trim]⟩
theorem numS_zero (K : Nat) (h : Heap) : NumS K h false none 0 0 0 :=
  ⟨0, ⟨digI_nil, by decide, fun _ => ⟨rfl, rfl⟩, fun h => absurd h (by decide)⟩, by omega, by simp [Ieee.signed]⟩
theorem signed_val (m : Int) (k : Nat) : Ieee.signed (decide (m < 0)) m.natAbs k = m * 2 ^ k := by
  have h1 : (2 : Int) ^ k = ((2 ^ k : Nat) : Int) := by rw [Int.natCast_pow]; rfl
  unfold Ieee.signed
  rw [Nat.shiftLeft_eq, h1]
  by_cases h : m < 0
  · rw [decide_eq_true h, if_pos rfl, Int.natCast_mul, show (m.natAbs : Int) = -m by omega, Int.neg_mul, Int.neg_neg]
  · rw [decide_eq_false h, if_neg (by decide), Int.natCast_mul, show (m.natAbs : Int) = m by omega]
theorem abs_val (m : Int) (k : Nat) : (m * 2 ^ k).natAbs = m.natAbs * 2 ^ k := by rw [Int.natAbs_mul, Int.natAbs_pow]; rfl
/-- dyadic.told, where there is a number to tell. -/
theorem K65R {r q : Nat} {m e : Int} {K : Nat} {v : Int} (ht : TabH h) (hx : IntAt h r q m) (he : 0 ≤ e + (K : Int)) (hv : v = m * 2 ^ (e + (K : Int)).toNat) (hb : bl v.natAbs ≤ 60000) (hK : K ≤ 1048576)
    (H : ∀ neg p n c e' h', Ext h h' → Fresh h p → Room h' p c (fun b => h.size ≤ b) → n ≤ c → NumS K h' neg p n e' v → R (.returned (.agg #[.bool neg, .slice p n c, .int .i64 e'])) h') :
    Ent Tryz.prog B 131 #[.agg #[.pointer (some ⟨r, 0, none⟩), .int .i64 e]] R h := by
  refine F65_ok _ _ (alK fun r3 h4 e3 f3 o3 z3 => alK fun r5 h6 e5 f5 o5 z5 => ?_)
  have o3' := o3.ext f5
  have fx := Ext.trans f3 f5
  refine ⟨r3, 0, rfl, r3, 0, rfl, _, o3'.cell _, K75 (hx.ext fx) ⟨_, rfl, fun e0 => ?_, fun e0 => ?_⟩⟩
  · have hm : m = 0 := Int.sign_eq_zero_iff_zero.1 (of_decide_eq_true e0)
    refine ⟨r5, 0, rfl, o5.stC (by simp) rfl fun oa fa => oa.stC (by simp) rfl fun ob fb => ob.stC (by simp) rfl fun oc fc => ⟨r5, 0, rfl, _, oc.cell _, _, _, _, oc.cell _, _, oc.cell _, ?_⟩⟩
    have fabc := Fr.trans (S := fun x => x = r5) (Fr.trans (S := fun x => x = r5) fa fb fun _ _ e => e) fc fun _ _ e => e
    have hv0 : v = 0 := by rw [hv, hm, Int.zero_mul]
    subst hv0
    refine H false none 0 0 0 _ (Fr.trans fx fabc fun x hx e => by omega) Fresh.nil (.inl rfl) (Nat.le_refl _) (numS_zero K _)
  · have hm : m ≠ 0 := fun h => by rw [h] at e0; cases e0
    have hm2 : m.natAbs ≠ 0 := by omega
    have hva : v.natAbs = m.natAbs * 2 ^ (e + (K : Int)).toNat := by rw [hv, abs_val]
    have hbm : bl v.natAbs = bl m.natAbs + (e + (K : Int)).toNat := by rw [hva, bl_scale _ hm2]
    refine ⟨r3, 0, rfl, r3, 0, rfl, _, o3'.cell _, K121 (hx.ext fx) hm (by omega) (ht.ext fx) fun t k ek => ⟨_, rfl, ?_⟩⟩
    have hM : m.natAbs / 2 ^ t = 2 * k + 1 := by rw [ek, Nat.mul_div_cancel_left _ (Nat.pow_pos (by decide))]
    have hbt : bl m.natAbs = bl (2 * k + 1) + t := by rw [ek, Nat.mul_comm, bl_scale _ (by omega)]
    refine alK fun r37 h38 e37 f37 o37 z37 => alK fun r39 h40 e39 f39 o39 z39 => ⟨r3, 0, rfl, r3, 0, rfl, _, ((o3'.ext f37).ext f39).cell _, ?_⟩
    have lx := hx.lt
    have lq := hx.lq
    refine K123f o39 (((hx.ext fx).ext f37).ext f39) (by omega) (by omega) fun q47 h47 f47 d47 I47 => ⟨_, rfl, ?_⟩
    have n47 : ∀ x, x ≠ r39 → ¬ (x = r39 ∨ False) := fun x h1 h2 => by rcases h2 with h2 | h2; exact h1 h2; exact h2
    have o37' : ZeroAt h47 r37 := (o37.ext f39).fr f47 (n47 _ (by omega))
    rw [i64_in (x := (t : Int)) (by omega) (by omega), show IntKind.u64.wrap (t : Int) = (t : Int) from wrap_u64_in (by omega) (by omega)]
    refine K122f o37' I47 (by omega) (by omega) fun q52 h52 f52 d52 I52 => ⟨_, rfl, ?_⟩
    rw [hM] at I52
    have n52 : ∀ x, x ≠ r37 → ¬ (x = r37 ∨ False) := fun x h1 h2 => by rcases h2 with h2 | h2; exact h1 h2; exact h2
    have o3a := (((o3'.ext f37).ext f39).fr f47 (n47 _ (by omega))).fr f52 (n52 _ (by omega))
    have o5a := (((o5.ext f37).ext f39).fr f47 (n47 _ (by omega))).fr f52 (n52 _ (by omega))
    have F : Ext h h52 := by
      refine Fr.trans (Fr.trans (Ext.trans fx (Ext.trans f37 f39)) f47 fun x hx e => ?_) f52 fun x hx e => ?_
      · exact n47 x (by omega) e
      · exact n52 x (by omega) e
    have s47 := f47.size
    refine ⟨r3, 0, rfl, r3, 0 + 1, rfl, _, o3a.cell _, K124 I52 ⟨_, rfl, fun e1 => ?_, fun e1 => ⟨fun e2 => ?_, fun e2 => ?_⟩⟩⟩
    · rw [Int.natAbs_natCast] at e1; simp at e1; omega
    · rw [i64_in (x := e + (t : Int)) (by omega) (by omega)] at e2; simp at e2; omega
    · rw [i64_in (x := e + (t : Int)) (by omega) (by omega)]
      have e3 : decide ((1048576 : Int) < e + (t : Int)) = false := by
        have : bl (2 * k + 1) ≠ 0 := Nat.pos_iff_ne_zero.1 (bl_pos (by omega))
        simp; omega
      rw [e3]
      have d52' : q52 = r37 ∨ h47.size ≤ q52 := by rcases d52 with e | e | e; exact .inl e; exact e.elim; exact .inr e
      refine K65j F hx o3a o5a (by omega) (by omega) (by omega) I52 (by omega) (by omega) (by omega) (by omega) (by omega) fun p n c h' f' fr rm le D => ?_
      refine H _ p n c _ h' f' fr rm le ⟨2 * k + 1, ⟨D, ?_, fun h0 => ?_, fun _ => ⟨?_, by omega, by
        have : bl (2 * k + 1) ≠ 0 := Nat.pos_iff_ne_zero.1 (bl_pos (by omega))
        omega⟩⟩, by omega, ?_⟩
      · rw [← D.len]; exact digs_len (k := 30) rfl (by decide) (by omega)
      · exfalso
        have := D.len
        rw [h0, digs_ne (by decide) (by omega)] at this
        simp at this
      · rw [digs_val (by decide)]; omega
      · rw [hv, ← signed_val, show e + (t : Int) + (K : Int) = (((e + (K : Int)).toNat + t : Nat) : Int) by omega, Int.toNat_natCast, ek]
        unfold Ieee.signed
        have : (2 ^ t * (2 * k + 1)) <<< (e + (K : Int)).toNat = (2 * k + 1) <<< ((e + (K : Int)).toNat + t) := by
          rw [Nat.shiftLeft_eq, Nat.shiftLeft_eq, Nat.pow_add]; ac_rfl
        rw [this]
/-- The same, without the room. -/
theorem K65 {r q : Nat} {m e : Int} {K : Nat} {v : Int} (ht : TabH h) (hx : IntAt h r q m) (he : 0 ≤ e + (K : Int)) (hv : v = m * 2 ^ (e + (K : Int)).toNat) (hb : bl v.natAbs ≤ 60000) (hK : K ≤ 1048576)
    (H : ∀ neg p n c e' h', Ext h h' → Fresh h p → NumS K h' neg p n e' v → R (.returned (.agg #[.bool neg, .slice p n c, .int .i64 e'])) h') :
    Ent Tryz.prog B 131 #[.agg #[.pointer (some ⟨r, 0, none⟩), .int .i64 e]] R h :=
  K65R ht hx he hv hb hK fun neg p n c e' h' F fr _ _ N => H neg p n c e' h' F fr N
end Go.Proofs
namespace Go.Proofs
open Go Go.Eng
variable {B : World} {R : Ending → Heap → Prop} {h : Heap}
/-- A list of exact numbers, in units of 2^-K. -/
def NumL (K : Nat) (h : Heap) (p : Option Addr) (vs : List Int) : Prop :=
  vs = [] ∨ ∃ b o cs, p = some ⟨b, o, none⟩ ∧ Own h b cs ∧ ∀ i (hi : i < vs.length), ∃ neg q n c e, cs[o + i * 3]? = some (.bool neg) ∧ cs[o + i * 3 + 1]? = some (.slice q n c) ∧ cs[o + i * 3 + 1 + 1]? = some (.int .i64 e) ∧ NumS K h neg q n e vs[i]
theorem NumL.ext {K : Nat} {h h' : Heap} {p : Option Addr} {vs : List Int} (H : NumL K h p vs) (f : Ext h h') : NumL K h' p vs := by
  rcases H with H | ⟨b, o, cs, h1, h2, h3⟩
  · exact .inl H
  · exact .inr ⟨b, o, cs, h1, h2.ext f, fun i hi => let ⟨neg, q, n, c, e, a1, a2, a3, a4⟩ := h3 i hi; ⟨neg, q, n, c, e, a1, a2, a3, a4.ext f⟩⟩
/-- An exact number as it is reckoned with: where its big.Int lies, the Int's words; m times 2^e. -/
structure Ex where
  r : Nat
  q : Nat
  m : Int
  e : Int
def ExE (K : Nat) (h : Heap) (x : Ex) (v : Int) : Prop := IntAt h x.r x.q x.m ∧ 0 ≤ x.e + (K : Int) ∧ x.e ≤ 1048576 ∧ v = x.m * 2 ^ (x.e + (K : Int)).toNat ∧ (x.m = 0 ∨ x.m.natAbs % 2 = 1)
def exApart (x y : Ex) : Prop := x.r < y.r ∧ x.q < y.r ∧ x.r < y.q ∧ x.q < y.q
structure ExL (K : Nat) (h : Heap) (b : Nat) (xs : List Ex) (vs : List Int) : Prop where
  len : xs.length = vs.length
  own : ∃ cs, Own h b cs ∧ ∀ i (hi : i < xs.length), cs[i * 2]? = some (.pointer (some ⟨xs[i].r, 0, none⟩)) ∧ cs[i * 2 + 1]? = some (.int .i64 xs[i].e)
  at_ : ∀ i (hi : i < xs.length) (hv : i < vs.length), ExE K h xs[i] vs[i] ∧ b < xs[i].r ∧ b < xs[i].q
  apart : ∀ i j (hij : i < j) (hj : j < xs.length), exApart (xs[i]'(by omega)) xs[j]
theorem ExE.ext {K : Nat} {h h' : Heap} {x : Ex} {v : Int} (H : ExE K h x v) (f : Ext h h') : ExE K h' x v := ⟨H.1.ext f, H.2⟩
theorem ExL.ext {K : Nat} {h h' : Heap} {b : Nat} {xs : List Ex} {vs : List Int} (H : ExL K h b xs vs) (f : Ext h h') : ExL K h' b xs vs :=
  ⟨H.len, let ⟨cs, a, b⟩ := H.own; ⟨cs, a.ext f, b⟩, fun i hi hv => ⟨(H.at_ i hi hv).1.ext f, (H.at_ i hi hv).2⟩, H.apart⟩
end Go.Proofs
