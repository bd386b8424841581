import Derived.Test.YtobkdplpkgikhaaGreatFmtA22
/- Here stand lemmas and contracts, in the order in which they are used. -/
set_option linter.unusedVariables false
namespace Go.Proofs
open Go Go.Eng
variable {B : World} {R : Ending → Heap → Prop} {h : Heap}
/-- And of two above 0, into a blank one. -/
theorem K125f {rz r q ry qy : Nat} {v w : Nat} (hz : ZeroAt h rz) (hx : IntAt h r q v) (hy : IntAt h ry qy w) (hb : bl v ≤ 1000000) (hb2 : bl w ≤ 1000000) (hv : 0 < v) (hw : 0 < w) (H : IntK R h rz (fun _ => False) ((v &&& w : Nat) : Int)) :
    Ent Tryz.prog B 103 #[.pointer (some ⟨rz, 0, none⟩), .pointer (some ⟨r, 0, none⟩), .pointer (some ⟨ry, 0, none⟩)] R h := by
  obtain ⟨p, n, c, h1, h2, h3, h4⟩ := hx.ex
  obtain ⟨py, m, cy, y1, y2, y3, y4⟩ := hy.ex
  rw [Int.natAbs_natCast] at h2 y2
  have hl := h2.len hb
  have hl2 := y2.len hb2
  have z1 := h2.zero
  have z2 := y2.zero
  rw [← dec_nat] at h1 y1
  refine F125_ok _ _ _ (ldB h1 (ldB y1 ⟨fun _ => ldB h1 ⟨fun e => (by cases e), fun _ => ldS hz (ldS h1 (ldS y1 (K169f h2 y2 (by omega) (by omega) (by omega) (by omega) fun p' n' c' h' f1 f2 f3 f4 => ⟨_, _, _, rfl, ?_⟩)))⟩, fun e => (by cases e)⟩))
  refine stS (hz.fr f1 id) fun h2' o2 fr2 => stB o2 fun h3' o3 fr3 => ?_
  exact intEnd f1 (Fr.trans fr2 fr3 fun _ _ e => e) hz.lt id f2 f3 f4 o3 (dec_nat _) H
/-- Add into a blank one. -/
theorem K127f {rz r q ry qy : Nat} {v w : Int} (hz : ZeroAt h rz) (hx : IntAt h r q v) (hy : IntAt h ry qy w) (hr : rz ≠ r) (hry : rz ≠ ry) (hb : bl v.natAbs ≤ 1000000) (hb2 : bl w.natAbs ≤ 1000000) (H : IntK R h rz (fun _ => False) (v + w)) :
    Ent Tryz.prog B 105 #[.pointer (some ⟨rz, 0, none⟩), .pointer (some ⟨r, 0, none⟩), .pointer (some ⟨ry, 0, none⟩)] R h := by
  obtain ⟨p, n, c, h1, h2, h3, h4⟩ := hx.ex
  obtain ⟨py, m, cy, y1, y2, y3, y4⟩ := hy.ex
  have hl := h2.len hb
  have hl2 := y2.len hb2
  have fin : ∀ (bb : Bool) {h1' h2' : Heap} {p' : Option Addr} {n' c' : Nat}, Ext h h1' → Fr (fun x => x = rz) h1' h2' → Own h2' rz #[.bool false, .slice p' n' c'] → n' ≤ c' → NatI h1' p' n' (v + w).natAbs → Dst h1' p' c' (fun b => False ∨ h.size ≤ b) →
      (v + w ≠ 0 → bb = decide (v + w < 0)) → F127_j69 B R (some ⟨rz, 0, none⟩) bb h2' := by
    intro bb h1' h2' p' n' c' f1 fr2 o2 hn hN hD hbb
    have z := hN.zero
    refine ldS o2 ⟨fun e => stB o2 fun h3' o3 fr3 => ?_, fun e => stB o2 fun h3' o3 fr3 => ?_⟩
    · refine intEnd f1 (Fr.trans fr2 fr3 fun _ _ e => e) hz.lt id hn hN hD o3 (hbb ?_) H
      simp at e; omega
    · have : v + w = 0 := by simp at e; omega
      exact intEnd f1 (Fr.trans fr2 fr3 fun _ _ e => e) hz.lt id hn hN hD o3 (by rw [this]; rfl) H
  refine F127_ok _ _ _ (ldB h1 (ldB h1 (ldB y1 ?_)))
  by_cases hs : decide (v < 0) = decide (w < 0)
  · have : (decide (v < 0) == decide (w < 0)) = true := by rw [hs]; simp
    rw [this]
    refine ⟨fun _ => ldS hz (ldS h1 (ldS y1 (K166 h2 y2 h3 y3 (by omega) (by omega) fun p' n' c' h' f1 f2 f3 f4 => ⟨_, _, _, rfl, stS (hz.fr f1 id) fun h2' o2 fr2 => ?_⟩))), fun e => (by cases e)⟩
    have hva : (v + w).natAbs = v.natAbs + w.natAbs := by
      by_cases a : v < 0 <;> by_cases b : w < 0 <;> simp [a, b] at hs <;> omega
    refine fin _ f1 fr2 o2 f2 (by rw [hva]; exact f3) f4 fun h0 => ?_
    by_cases a : v < 0 <;> by_cases b : w < 0 <;> simp [a, b] at hs ⊢ <;> omega
  · have : (decide (v < 0) == decide (w < 0)) = false := by simp [hs]
    rw [this]
    refine ⟨fun e => (by cases e), fun _ => ldS h1 (ldS y1 (K172 h2 y2 ⟨_, rfl, ?_⟩))⟩
    by_cases hc : w.natAbs ≤ v.natAbs
    · have e1 : decide ((0 : Int) ≤ cmpN v.natAbs w.natAbs) = true := by
        unfold cmpN; rw [if_neg (by omega)]; split <;> rfl
      rw [e1]
      refine ⟨fun _ => ldS hz (ldS h1 (ldS y1 (K164 h2 y2 h3 y3 (by omega) hc fun p' n' c' h' f1 f2 f3 f4 => ⟨_, _, _, rfl, stS (hz.fr f1 id) fun h2' o2 fr2 => ?_⟩))), fun e => (by cases e)⟩
      have hva : (v + w).natAbs = v.natAbs - w.natAbs := by
        by_cases a : v < 0 <;> by_cases b : w < 0 <;> simp [a, b] at hs <;> omega
      refine fin _ f1 fr2 o2 f2 (by rw [hva]; exact f3) f4 fun h0 => ?_
      by_cases a : v < 0 <;> by_cases b : w < 0 <;> simp [a, b] at hs ⊢ <;> omega
    · have e1 : decide ((0 : Int) ≤ cmpN v.natAbs w.natAbs) = false := by
        unfold cmpN; rw [if_pos (by omega)]; rfl
      rw [e1]
      refine ⟨fun e => (by cases e), fun _ => ldS hz (ldS y1 (ldS h1 (K164 y2 h2 y3 h3 (by omega) (by omega) fun p' n' c' h' f1 f2 f3 f4 => ⟨_, _, _, rfl, stS (hz.fr f1 id) fun h2' o2 fr2 => ?_⟩)))⟩
      have hva : (v + w).natAbs = w.natAbs - v.natAbs := by
        by_cases a : v < 0 <;> by_cases b : w < 0 <;> simp [a, b] at hs <;> omega
      refine fin _ f1 fr2 o2 f2 (by rw [hva]; exact f3) f4 fun h0 => ?_
      by_cases a : v < 0 <;> by_cases b : w < 0 <;> simp [a, b] at hs ⊢ <;> omega
/-- Mul into a blank one, one of the two being of one word at most. -/
theorem K131f {rz r q ry qy : Nat} {v w : Int} (hz : ZeroAt h rz) (hx : IntAt h r q v) (hy : IntAt h ry qy w) (hr : rz ≠ r) (hry : rz ≠ ry) (hxy : r ≠ ry) (hb : bl v.natAbs ≤ 1000000) (hb2 : bl w.natAbs ≤ 1000000)
    (h64 : bl v.natAbs ≤ 64 ∨ bl w.natAbs ≤ 64) (H : IntK R h rz (fun _ => False) (v * w)) :
    Ent Tryz.prog B 147 #[.pointer (some ⟨rz, 0, none⟩), .pointer (some ⟨r, 0, none⟩), .pointer (some ⟨ry, 0, none⟩)] R h := by
  obtain ⟨p, n, c, h1, h2, h3, h4⟩ := hx.ex
  obtain ⟨py, m, cy, y1, y2, y3, y4⟩ := hy.ex
  have hl := h2.len hb
  have hl2 := y2.len hb2
  have h11 : n ≤ 1 ∨ m ≤ 1 := by
    rcases h64 with e | e
    · have := h2.len e; left; omega
    · have := y2.len e; right; omega
  refine F131_ok _ _ _ (F176_ok _ _ _ _ (.inr (.inr ⟨_, _, _, _, rfl, rfl, .inr ⟨hxy, let ⟨e, he⟩ := h1; ⟨_, e, he⟩, let ⟨e, he⟩ := y1; ⟨_, e, he⟩, ?_⟩⟩)))
  refine ⟨fun e => (by cases e), fun _ => ldS hz (ldS h1 (ldS y1 (K208 h2 y2 (by omega) (by omega) h11 fun p' n' c' h' f1 f2 f3 f4 => ⟨_, _, _, rfl, ?_⟩)))⟩
  have hva : (v * w).natAbs = v.natAbs * w.natAbs := Int.natAbs_mul _ _
  have z := f3.zero
  refine stS (hz.fr f1 id) fun h2' o2 fr2 => ldS o2 ⟨fun e => ?_, fun e => stB o2 fun h3' o3 fr3 => ?_⟩
  · have fr2' : Fr (fun b => b = rz) h h2' := Fr.trans (Ext.to f1) fr2 fun _ _ e => e
    refine ldB (h1.fr fr2' fun e => hr e.symm) (ldB (y1.fr fr2' fun e => hry e.symm) (stB o2 fun h3' o3 fr3 => ⟨rfl, ?_⟩))
    refine intEnd f1 (Fr.trans fr2 fr3 fun _ _ e => e) hz.lt id f2 (by rw [hva]; exact f3) f4 o3 ?_ H
    have hne : v.natAbs * w.natAbs ≠ 0 := by simp at e; omega
    have hv0 : v ≠ 0 := fun e => hne (by rw [e]; simp)
    have hw0 : w ≠ 0 := fun e => hne (by rw [e]; simp)
    by_cases a : v < 0 <;> by_cases b : w < 0
    · have : 0 < v * w := Int.mul_pos_of_neg_of_neg a b
      simp [a, b]; omega
    · have : v * w < 0 := Int.mul_neg_of_neg_of_pos a (by omega)
      simp [a, b, this]
    · have : v * w < 0 := Int.mul_neg_of_pos_of_neg (by omega) b
      simp [a, b, this]
    · have : 0 < v * w := Int.mul_pos (by omega) (by omega)
      simp [a, b]; omega
  · have : v * w = 0 := by
      have : (v * w).natAbs = 0 := by simp at e; rw [hva]; omega
      omega
    exact ⟨rfl, intEnd f1 (Fr.trans fr2 fr3 fun _ _ e => e) hz.lt id f2 (by rw [hva]; exact f3) f4 o3 (by rw [this]; rfl) H⟩
end Go.Proofs
namespace Go.Proofs
open Go Go.Eng
variable {B : World} {R : Ending → Heap → Prop} {h : Heap}
/-- low64. -/
theorem K171 {px : Option Addr} {n xc vx : Nat} (hx : NatI h px n vx) (hv : vx < B64) (H : R (.returned (.int .u64 (vx : Int))) h) : Ent Tryz.prog B 139 #[.slice px n xc] R h := by
  obtain ⟨xs, x1, x2, x3, x4, x5⟩ := hx.ex
  have x5 : val B64 xs = vx := x5
  refine F171_ok _ _ _ ⟨fun e => ?_, fun e => ?_⟩
  · have hn : n = 0 := by simpa using e
    have : vx = 0 := hx.zero.1 hn
    rw [this] at H; exact H
  · have hn : 0 < n := by simp at e; omega
    have e0 : xs[0]'(by omega) = vx := by
      have h1 := val_drop B64 xs (i := 0) (by omega)
      rw [List.drop_zero, x5] at h1
      have h2 : xs[0]'(by omega) < B64 := x3.get (by omega)
      have h3 : val B64 (xs.drop (0 + 1)) = 0 := by
        rcases Nat.eq_zero_or_pos (val B64 (xs.drop (0 + 1))) with h | h
        · exact h
        · have : B64 * 1 ≤ B64 * val B64 (xs.drop (0 + 1)) := Nat.mul_le_mul_left _ h
          omega
      rw [h3] at h1; omega
    refine x1.get 0 rfl (by omega) (by omega) ⟨fun e => (by cases e), fun _ => ⟨fun e => (by cases e), fun _ => ?_⟩⟩
    rw [e0]; exact H
/-- Int64 of what has less than 64 bits. -/
theorem K126 {r q : Nat} {v : Int} (hx : IntAt h r q v) (hv : v.natAbs < 9223372036854775808) (H : R (.returned (.int .i64 v)) h) : Ent Tryz.prog B 104 #[.pointer (some ⟨r, 0, none⟩)] R h := by
  obtain ⟨p, n, c, h1, h2, h3, h4⟩ := hx.ex
  refine F126_ok _ (ldS h1 (K171 h2 (by unfold B64; omega) ⟨_, rfl, ldB h1 ⟨fun e => ?_, fun e => ?_⟩⟩))
  · have hneg : v < 0 := of_decide_eq_true e
    unfold F126_j21
    rw [i64_in (x := (v.natAbs : Int)) (by omega) (by omega), i64_in (by omega) (by omega), show (0 : Int) - (v.natAbs : Int) = v by omega]
    exact H
  · have hneg : ¬ v < 0 := of_decide_eq_false e
    unfold F126_j21
    rw [i64_in (by omega) (by omega), show (v.natAbs : Int) = v by omega]
    exact H
/-- NewInt. -/
theorem K120 {v : Int} (h1 : -9223372036854775808 ≤ v) (h2 : v < 9223372036854775808)
    (H : ∀ (r q : Nat) (h' : Heap), Ext h h' → h.size ≤ r → r < h'.size → h.size ≤ q → IntAt h' r q v → R (.returned (.pointer (some ⟨r, 0, none⟩))) h') : Ent Tryz.prog B 90 #[.int .i64 v] R h := by
  have key : ∀ u : Nat, u = v.natAbs → F120_j2 B R v (u : Int) h := by
    intro u hu
    refine ⟨fun e => ?_, fun e => ⟨fun e => (by cases e), fun _ => ⟨fun e => (by cases e), fun _ => ?_⟩⟩⟩
    · have e0 : v = 0 := by simpa using e
      have o : Own (h.push (.cells #[.bool (decide (v < 0)), .slice none 0 0] 148)) h.size _ := own_new
      refine H h.size h.size _ Ext.push (Nat.le_refl _) (by simp) (by omega) ⟨by simp, none, 0, 0, o, ⟨.inl rfl, by decide, [], Sl.nil, rfl, Dig.nil, by simp [Trim], ?_⟩, by omega, Dst.none⟩
      rw [e0]; rfl
    · have e0 : v ≠ 0 := by simpa using e
      have o1 : Own (h.push (.cells #[.int .u64 (u : Int)] 171)) h.size #[.int .u64 (u : Int)] := own_new
      have o2 : Own ((h.push (.cells #[.int .u64 (u : Int)] 171)).push (.cells #[.bool (decide (v < 0)), .slice (some ⟨h.size, 0, none⟩) 1 1] 148)) (h.push (.cells #[.int .u64 (u : Int)] 171)).size _ := own_new
      have hs : (h.push (.cells #[.int .u64 (u : Int)] 171)).size = h.size + 1 := by simp
      refine H (h.push (.cells #[.int .u64 (u : Int)] 171)).size h.size _ (Ext.trans Ext.push Ext.push) (by omega) (by simp) (Nat.le_refl _) ⟨by simp; omega, some ⟨h.size, 0, none⟩, 1, 1, o2, ⟨pt_some, by decide, [u], ?_, rfl, ?_, ?_, ?_⟩, by omega, ⟨pt_some, by decide, .inr ⟨h.size, 0, _, rfl, own_push o1, by simp, rfl, by omega⟩⟩⟩
      · refine .inr ⟨h.size, 0, _, rfl, own_push o1, fun i hi => ?_⟩
        have : i = 0 := by simp at hi; exact hi
        subst this; rfl
      · intro w hw; rw [List.mem_singleton] at hw; omega
      · simp [Trim]; omega
      · simp [val]; exact hu
  refine F120_ok _ ⟨fun e => ?_, fun e => ?_⟩
  · have hneg : v < 0 := of_decide_eq_true e
    have e1 : IntKind.u64.wrap (0 - IntKind.u64.wrap v) = ((v.natAbs : Nat) : Int) := by
      have w : ∀ x : Int, IntKind.u64.wrap x = x % 18446744073709551616 := fun _ => rfl
      rw [w, w]; omega
    rw [e1]; exact key _ rfl
  · have hneg : ¬ v < 0 := of_decide_eq_false e
    have e1 : IntKind.u64.wrap v = ((v.natAbs : Nat) : Int) := by
      have w : ∀ x : Int, IntKind.u64.wrap x = x % 18446744073709551616 := fun _ => rfl
      rw [w]; omega
    rw [e1]; exact key _ rfl
end Go.Proofs
namespace Go.Proofs
open Go Go.Eng
variable {B : World} {R : Ending → Heap → Prop} {h : Heap}
abbrev B30 : Nat := 1073741824
/-- A number's digits, to the base 2^30. -/
structure DigI (h : Heap) (p : Option Addr) (n : Nat) (ds : List Nat) : Prop where
  pt : Pt p
  sl : Sl .i64 h p ds
  len : ds.length = n
  dig : Dig B30 ds
  trim : Trim ds
theorem DigI.ext {h h' : Heap} {p : Option Addr} {n : Nat} {ds : List Nat} (H : DigI h p n ds) (f : Ext h h') : DigI h' p n ds := ⟨H.pt, H.sl.ext f, H.len, H.dig, H.trim⟩
/-- nat.Valid of valid digits. -/
theorem K174 {p : Option Addr} {n c : Nat} {ds : List Nat} (hd : DigI h p n ds) (hn : n ≤ 2000) (H : R (.returned (.bool true)) h) : Ent Tryz.prog B 48 #[.slice p n c] R h := by
  have hl := hd.len
  refine F174_ok _ _ _ ⟨fun m vs h' => match vs with
    | [.slice p1 n1 _, .slice p2 n2 _, .int _ nn, .int _ i] => p = p1 ∧ n = n1 ∧ p = p2 ∧ n = n2 ∧ (n : Int) = nn ∧ h = h' ∧ ∃ j : Nat, i = (j : Int) ∧ j ≤ n ∧ m = n - j
    | _ => False, n, ⟨rfl, rfl, rfl, rfl, rfl, rfl, 0, rfl, by omega, rfl⟩, ?_⟩
  rintro m h' _ _ _ _ _ _ _ _ ⟨rfl, rfl, rfl, rfl, rfl, rfl, j, rfl, hj, rfl⟩ _
  refine ⟨fun e => ?_, fun e => ⟨fun e1 => ⟨fun _ => H, fun e2 => ?_⟩, fun e1 => ?_⟩⟩
  · have hjn : j < n := by simp at e; omega
    have dj : ds[j]'(by omega) < 1073741824 := hd.dig.get (by omega)
    refine hd.sl.get j rfl (by omega) (by omega) ⟨fun e => by simp at e; omega, fun _ => ?_⟩
    have : decide ((1073741824 : Int) ≤ ((ds[j]'(by omega) : Nat) : Int)) = false := by simp; omega
    rw [this]
    exact ⟨fun e => (by cases e), fun _ => ⟨n - (j + 1), by omega, rfl, rfl, rfl, rfl, rfl, rfl, j + 1, by rw [i64_in (by omega) (by omega)]; rfl, by omega, rfl⟩⟩
  · have hn0 : 0 < n := by simp at e2; omega
    refine hd.sl.get (n - 1) (by rw [i64_in (by omega) (by omega)]; omega) (by omega) (by omega) ?_
    have hw : ds[n - 1]'(by omega) ≠ 0 := by
      intro e0
      apply hd.trim
      rw [List.getLast?_eq_getElem?, hl, List.getElem?_eq_getElem (by omega), e0]
    have : (!decide (((ds[n - 1]'(by omega) : Nat) : Int) = 0)) = true := by simp; omega
    rw [this]; exact H
  · simp at e1; omega
theorem bl_dig {b k : Nat} {ds : List Nat} (hb : b = 2 ^ k) (hd : Dig b ds) : bl (val b ds) ≤ k * ds.length := by
  rw [bl_le_iff, Nat.pow_mul, ← hb]; exact val_lt hd
theorem or30 {v d : Nat} (hd : d < B30) : v * 2 ^ 30 ||| d = v * 2 ^ 30 + d := or_add hd
/-- dyadic.whole. -/
theorem K130 {neg : Bool} {p : Option Addr} {n c : Nat} {ds : List Nat} (hd : DigI h p n ds) (hn : n ≤ 30000)
    (H : ∀ (r q : Nat) (h' : Heap), Ext h h' → h.size ≤ r → h.size ≤ q → IntAt h' r q (if neg then -(val B30 ds : Int) else (val B30 ds : Int)) → R (.returned (.pointer (some ⟨r, 0, none⟩))) h') :
    Ent Tryz.prog B 91 #[.bool neg, .slice p n c] R h := by
  have hl := hd.len
  have hbl : ∀ j, j ≤ n → bl (val B30 (ds.drop j)) ≤ 30 * (n - j) := fun j hj => by
    have := bl_dig (k := 30) rfl (hd.dig.drop j)
    rw [List.length_drop, hl] at this; exact this
  refine F130_ok _ _ _ _ ?_
  refine ⟨fun m vs h' => match vs with
    | [.bool z, .slice p1 n1 c1, .pointer pr, .int _ nn, .int _ i] => neg = z ∧ p = p1 ∧ n = n1 ∧ c = c1 ∧ some (⟨h.size, 0, none⟩ : Addr) = pr ∧ (n : Int) = nn ∧ ∃ (j q : Nat), i = (j : Int) ∧ j ≤ n ∧ m = n - j ∧ Ext h h' ∧ h.size ≤ q ∧ IntAt h' h.size q (val B30 (ds.drop (n - j)) : Int)
    | _ => False, n, ⟨rfl, rfl, rfl, rfl, rfl, rfl, 0, h.size, rfl, by omega, rfl, Ext.push, Nat.le_refl _, ?_⟩, ?_⟩
  · rw [Nat.sub_zero, List.drop_of_length_le (by omega)]
    exact ZeroAt.int own_new
  rintro m h' _ _ _ _ _ _ _ ⟨rfl, rfl, rfl, rfl, rfl, rfl, j, q, rfl, hj, rfl, f, hq, hI⟩ _
  refine ⟨fun e => ?_, fun e => ?_⟩
  · have hjn : j < n := by simp at e; omega
    have hb1 := hbl (n - j) (by omega)
    refine K128i (s := 30) hI (by rw [Int.natAbs_natCast]; omega) (by decide) (by decide) fun q1 h1 f1 d1 I1 => ⟨_, rfl, ?_⟩
    have hhs := f.size
    have hq1 : h.size ≤ q1 := by rcases d1 with e | e | e; omega; exact e.1 ▸ hq; omega
    have fx : Ext h h1 := Fr.trans f f1 fun x hx e => by rcases e with e | e; omega; have := e.1; omega
    have dj : ds[n - 1 - j]'(by omega) < 1073741824 := hd.dig.get (by omega)
    have ei : IntKind.i64.wrap (IntKind.i64.wrap ((n : Int) - 1) - (j : Int)) = ((n - 1 - j : Nat) : Int) := by
      rw [i64_in (x := (n : Int) - 1) (by omega) (by omega), i64_in (by omega) (by omega)]; omega
    rw [ei]
    refine (hd.sl.ext fx).get (n - 1 - j) rfl (by omega) (by omega) (K120 (by omega) (by omega) fun r2 q2 h2 f2 hr2 hr2' hq2 I2 => ⟨_, rfl, ?_⟩)
    have ev : ((val B30 (ds.drop (n - j)) : Nat) : Int) * 2 ^ 30 = ((val B30 (ds.drop (n - j)) * 2 ^ 30 : Nat) : Int) := by
      rw [Int.natCast_mul, Int.natCast_pow]; rfl
    rw [ev] at I1
    have hdr : val B30 (ds.drop (n - (j + 1))) = (val B30 (ds.drop (n - j)) * 2 ^ 30 ||| ds[n - 1 - j]'(by omega)) := by
      rw [or30 dj, show n - (j + 1) = n - 1 - j by omega, val_drop _ _ (by omega), show n - 1 - j + 1 = n - j by omega, show (2 : Nat) ^ 30 = B30 from rfl, Nat.mul_comm B30]; omega
    have hpos : 0 < val B30 (ds.drop (n - (j + 1))) := by
      have hne : ds.drop (n - (j + 1)) ≠ [] := by
        intro e0
        have := congrArg List.length e0
        rw [List.length_drop] at this; simp at this; omega
      have ht : Trim (ds.drop (n - (j + 1))) := by
        have := hd.trim
        unfold Trim at this ⊢
        rw [List.getLast?_drop, if_neg (by omega)]; exact this
      exact Nat.lt_of_lt_of_le (Nat.pow_pos (by decide)) (val_pos hne ht (by decide : 0 < B30))
    have hI1 := I1.ext f2
    have hb2 : bl (val B30 (ds.drop (n - j)) * 2 ^ 30) ≤ 1000000 := by
      have h1 := bl_lt (val B30 (ds.drop (n - j)))
      have h2 : val B30 (ds.drop (n - j)) * 2 ^ 30 < 2 ^ bl (val B30 (ds.drop (n - j))) * 2 ^ 30 := Nat.mul_lt_mul_of_pos_right h1 (Nat.pow_pos (by decide))
      rw [← Nat.pow_add] at h2
      exact bl_of_lt h2 (by omega)
    have hb3 : bl (ds[n - 1 - j]'(by omega)) ≤ 1000000 := by
      have : bl (ds[n - 1 - j]'(by omega)) ≤ 30 := bl_le_iff.2 dj
      omega
    refine K175i hI1 I2 (by have := I1.lq; omega) hb2 hb3 (by rw [← hdr]; exact hpos) fun q3 h3 f3 d3 I3 => ⟨_, rfl, n - (j + 1), by omega, rfl, rfl, rfl, rfl, rfl, rfl, j + 1, q3, by rw [i64_in (by omega) (by omega)]; rfl, by omega, rfl, ?_, ?_, ?_⟩
    · exact Fr.trans (Ext.trans fx f2) f3 fun x hx e => by rcases e with e | e; omega; have := e.1; omega
    · have := fx.size; have := f2.size
      rcases d3 with e | e | e; omega; have := e.1; omega; omega
    · rw [hdr]; exact I3
  · have hjn : j = n := by simp at e; omega
    subst hjn
    rw [Nat.sub_self, List.drop_zero] at hI
    have hhs := f.size
    cases neg with
    | false => exact ⟨fun e => (by cases e), fun _ => H _ _ _ f (Nat.le_refl _) hq hI⟩
    | true =>
      refine ⟨fun _ => K74i hI fun q1 h1 f1 d1 I1 => ⟨_, rfl, ?_⟩, fun e => (by cases e)⟩
      refine H _ q1 _ (Fr.trans f f1 fun x hx e => by rcases e with e | e; omega; have := e.1; omega) (Nat.le_refl _) ?_ I1
      rcases d1 with e | e | e; omega; exact e.1 ▸ hq; omega
end Go.Proofs
namespace Go.Proofs
open Go Go.Eng
variable {B : World} {R : Ending → Heap → Prop} {h : Heap}
theorem and1_i64 {a : Nat} (ha : a < 9223372036854775808) : bitsI .and .i64 (a : Int) (1 : Int) = ((a % 2 : Nat) : Int) := by
  have h1 : bitsI .and .i64 (a : Int) (1 : Int) = IntKind.i64.wrap (((BitVec.ofInt 64 (a : Int) &&& BitVec.ofInt 64 ((1 : Nat) : Int)).toNat : Nat) : Int) := rfl
  rw [h1, ofInt_nat, ofInt_nat, BitVec.toNat_and, BitVec.toNat_ofNat, BitVec.toNat_ofNat, Nat.mod_eq_of_lt (by omega : a < 2 ^ 64), Nat.mod_eq_of_lt (by omega : 1 < 2 ^ 64), show a &&& 1 = a % 2 from Nat.and_two_pow_sub_one_eq_mod a 1]
  exact i64_in (by omega) (by omega)
/-- An exact number in its one form. -/
structure NumI (h : Heap) (neg : Bool) (p : Option Addr) (n : Nat) (e : Int) (ds : List Nat) : Prop where
  d : DigI h p n ds
  le : n ≤ 2000
  zero : n = 0 → neg = false ∧ e = 0
  pos : 0 < n → val B30 ds % 2 = 1 ∧ -1048576 ≤ e ∧ e ≤ 1048576
theorem NumI.ext {h h' : Heap} {neg : Bool} {p : Option Addr} {n : Nat} {e : Int} {ds : List Nat} (H : NumI h neg p n e ds) (f : Ext h h') : NumI h' neg p n e ds := ⟨H.d.ext f, H.le, H.zero, H.pos⟩
theorem val_mod2 {ds : List Nat} (hn : 0 < ds.length) : val B30 ds % 2 = ds[0] % 2 := by
  have := val_drop B30 ds (i := 0) hn
  rw [List.drop_zero] at this
  rw [this]; unfold B30; omega
/-- dyadic.Valid of a valid one. -/
theorem K129 {neg : Bool} {p : Option Addr} {n c : Nat} {e : Int} {ds : List Nat} (hx : NumI h neg p n e ds) (H : ∀ h', Ext h h' → R (.returned (.bool true)) h') : Ent Tryz.prog B 28 #[.agg #[.bool neg, .slice p n c, .int .i64 e]] R h := by
  have o : Own (h.push (.cells #[.bool neg, .slice p n c, .int .i64 e] 24)) h.size #[.bool neg, .slice p n c, .int .i64 e] := own_new
  have f : Ext h (h.push (.cells #[.bool neg, .slice p n c, .int .i64 e] 24)) := Ext.push
  have ld0 : ∀ {K : Bool → Prop}, K neg → isP (some ⟨h.size, 0, none⟩) fun b o => isP (some ⟨b, o, none⟩) fun b o => ∃ x, cell? (h.push (.cells #[.bool neg, .slice p n c, .int .i64 e] 24)) ⟨b, o, none⟩ = some (.bool x) ∧ K x :=
    fun k => ⟨h.size, 0, rfl, h.size, 0, rfl, neg, o.cell _, k⟩
  have ld1 : ∀ {K : Option Addr → Nat → Nat → Prop}, K p n c → isP (some ⟨h.size, 0, none⟩) fun b o => isP (some ⟨b, o + 1, none⟩) fun b o => ∃ x xn xc, cell? (h.push (.cells #[.bool neg, .slice p n c, .int .i64 e] 24)) ⟨b, o, none⟩ = some (.slice x xn xc) ∧ K x xn xc :=
    fun k => ⟨h.size, 0, rfl, h.size, 0 + 1, rfl, p, n, c, o.cell _, k⟩
  have ld2 : ∀ {K : Int → Prop}, K e → isP (some ⟨h.size, 0, none⟩) fun b o => isP (some ⟨b, o + 2, none⟩) fun b o => ∃ x, cell? (h.push (.cells #[.bool neg, .slice p n c, .int .i64 e] 24)) ⟨b, o, none⟩ = some (.int .i64 x) ∧ K x :=
    fun k => ⟨h.size, 0, rfl, h.size, 0 + 2, rfl, e, o.cell _, k⟩
  refine F129_ok _ _ _ _ _ (ld1 ⟨fun e0 => ld0 ?_, fun e0 => ld1 (K174 (hx.d.ext f) hx.le ⟨_, rfl, fun _ => ld1 ?_, fun e => (by cases e)⟩)⟩)
  · have hn : n = 0 := by simpa using e0
    obtain ⟨rfl, rfl⟩ := hx.zero hn
    exact ⟨fun _ => ld2 (H _ f), fun e => (by cases e)⟩
  · have hn : 0 < n := by simp at e0; omega
    obtain ⟨p1, p2, p3⟩ := hx.pos hn
    have hl := hx.d.len
    have hdg : ds[0]'(by omega) < 1073741824 := hx.d.dig.get (by omega)
    refine (hx.d.sl.ext f).get 0 rfl (by omega) (by omega) ?_
    rw [and1_i64 (by omega), ← val_mod2, p1]
    refine ⟨fun _ => ld2 ⟨fun _ => ld2 ?_, fun e => ?_⟩, fun e => by simp at e⟩
    · have : decide (e ≤ (1048576 : Int)) = true := by simp; omega
      rw [this]; exact H _ f
    · simp at e; omega
end Go.Proofs
namespace Go.Eng
open Go
theorem alK {h : Heap} {cs : Array Value} {e : TypeId} {K : Nat → Heap → Prop} (k : ∀ r h', r = h.size → Ext h h' → Own h' r cs → h'.size = h.size + 1 → K r h') : alW h (.cells cs e) K :=
  k _ _ rfl Ext.push own_new (by simp)
theorem same1 {h h' : Heap} {b o : Nat} {cs : Array Value} {S : Nat → Prop} (H : Own h b cs) (f : Fr S h h') (hb : ¬ S b) : sameCells h h' b o 1 := by
  have h1 := H.fr f hb
  simp only [sameCells]
  simp [H.cell, h1.cell]
end Go.Eng
namespace Go.Proofs
open Go Go.Eng
variable {B : World} {R : Ending → Heap → Prop} {h : Heap}
/-- dyadic.times, one of the two being of one word at most. -/
theorem K68 {r q ry qy : Nat} {v w : Int} {e f : Int} (hx : IntAt h r q v) (hy : IntAt h ry qy w) (hxy : r ≠ ry) (hb : bl v.natAbs ≤ 1000000) (hb2 : bl w.natAbs ≤ 1000000)
    (h64 : bl v.natAbs ≤ 64 ∨ bl w.natAbs ≤ 64) (he : -4611686018427387904 ≤ e ∧ e ≤ 4611686018427387903) (hf : -4611686018427387904 ≤ f ∧ f ≤ 4611686018427387903)
    (H : ∀ (rz qz : Nat) (h' : Heap), Ext h h' → h.size ≤ rz → h.size ≤ qz → IntAt h' rz qz (v * w) → R (.returned (.agg #[.pointer (some ⟨rz, 0, none⟩), .int .i64 (e + f)])) h') :
    Ent Tryz.prog B 116 #[.agg #[.pointer (some ⟨r, 0, none⟩), .int .i64 e], .agg #[.pointer (some ⟨ry, 0, none⟩), .int .i64 f]] R h := by
  refine F68_ok _ _ _ _ (alK fun r5 h6 e5 f5 o5 z5 => alK fun r7 h8 e7 f7 o7 z7 => alK fun r9 h10 e9 f9 o9 z9 => ?_)
  have o5' := (o5.ext f7).ext f9
  have o7' := o7.ext f9
  have f10 : Ext h h10 := Ext.trans f5 (Ext.trans f7 f9)
  refine ⟨r5, 0, rfl, r5, 0, rfl, _, o5'.cell _, r7, 0, rfl, r7, 0, rfl, _, o7'.cell _, r5, 0, rfl, r5, 0 + 1, rfl, _, o5'.cell _, r7, 0, rfl, r7, 0 + 1, rfl, _, o7'.cell _, ?_⟩
  refine alK fun r31 h32 e31 f31 o31 z31 => ⟨same1 o7' f31 id, same1 o5' f31 id, same1 o7' f31 id, same1 o5' f31 id, ?_⟩
  have f32 := Ext.trans f10 f31
  have lr := hx.lt
  have lry := hy.lt
  refine K131f o31 (hx.ext f32) (hy.ext f32) (by omega) (by omega) hxy hb hb2 h64 fun qz h34 f34 d34 I34 => ⟨_, rfl, ?_⟩
  have n5 : ¬ (r5 = r31 ∨ False) := fun e => by rcases e with e | e; omega; exact e
  have n7 : ¬ (r7 = r31 ∨ False) := fun e => by rcases e with e | e; omega; exact e
  have n9 : ¬ (r9 = r31 ∨ False) := fun e => by rcases e with e | e; omega; exact e
  refine ⟨same1 (o7'.ext f31) f34 n7, same1 (o5'.ext f31) f34 n5, r9, 0, rfl, ?_⟩
  have o9' := (o9.ext f31).fr f34 n9
  rw [i64_in (x := e + f) (by omega) (by omega)]
  refine o9'.stC (by simp) rfl fun o9a fa => o9a.stC (by simp) rfl fun o9b fb => ?_
  refine ⟨r9, 0, rfl, _, o9b.cell _, _, o9b.cell _, ?_⟩
  have fab := Fr.trans (S := fun x => x = r9) fa fb fun _ _ e => e
  have hq : r31 = qz ∨ h32.size ≤ qz := by rcases d34 with e | e | e; exact .inl e.symm; exact e.elim; exact .inr e
  refine H r31 qz _ ?_ (by omega) (by omega) (IntAt.fr (S := fun x => x = r9) I34 fab (show ¬ r31 = r9 by omega) (show ¬ qz = r9 by omega))
  exact Fr.trans (T := fun x => x = r9) (Fr.trans f32 f34 fun x hx e => by rcases e with e | e; omega; exact e) fab fun x hx e => by omega
end Go.Proofs
namespace Go.Eng
open Go
theorem digs_snoc {b w : Nat} (hb : 1 < b) (hw : 0 < w) (l : List Nat) : l ++ digs b w = (l ++ [w % b]) ++ digs b (w / b) := by
  rw [digs_ne hb (by omega)]; simp
theorem digs_len {b k w n : Nat} (hb : b = 2 ^ k) (hk : 0 < k) (h : bl w ≤ k * n) : (digs b w).length ≤ n := by
  have h1 : 1 < b := by rw [hb]; exact Nat.one_lt_two_pow (by omega)
  have hv : val b (digs b w) < b ^ n := by rw [digs_val h1, hb, ← Nat.pow_mul]; exact bl_le_iff.1 h
  by_cases he : digs b w = []
  · rw [he]; simp
  · have := val_pos (b := b) he (digs_trim h1 w) (by omega)
    have h3 : b ^ ((digs b w).length - 1) < b ^ n := Nat.lt_of_le_of_lt this hv
    have := (Nat.pow_lt_pow_iff_right h1).1 h3
    omega
/-- An element appended where there is room. -/
theorem ap1i {k : IntKind} {h : Heap} {p : Option Addr} {n c r e : Nat} {ws : List Nat} {x : Nat} {S : Nat → Prop} {zero : Array Value} {bytes : Nat} {K : Option Addr → Nat → Nat → Heap → Prop}
    (hs : Sl k h p ws) (hr : Room h p c S) (hn : ws.length = n) (hc : n + 1 ≤ c) (hx : Own h r #[.int k (x : Int)])
    (hk : ∀ h', Sl k h' p (ws ++ [x]) → Room h' p c S → Fr S h h' → K p (n + 1) c h') :
    apW h p n c (some ⟨r, 0, none⟩) 1 1 bytes e zero K := by
  have hrow : rowAt h (some ⟨r, 0, none⟩) (1 * 1) [.int k (x : Int)] := by
    refine ⟨rfl, r, 0, rfl, fun i hi => ?_⟩
    have : i = 0 := by simp at hi; exact hi
    subst this
    rw [hx.cell]; rfl
  refine ⟨fun hle => ?_, fun hlt => by omega⟩
  refine ⟨_, hrow, ?_⟩
  rcases hr with hr | ⟨b, o, cs, e1, e2, e3, e4⟩
  · omega
  subst e1
  have hsz : o + n < cs.size := by omega
  refine ⟨b, o, rfl, fun y hy => ?_, fun i hi => ?_, ?_⟩
  · rw [List.mem_singleton] at hy; subst hy; rfl
  · have : i = 0 := by simp at hi; exact hi
    subst this
    exact ⟨⟨_, by rw [e2.cell, Array.getElem?_eq_getElem (by omega)]⟩, e2.frozen _⟩
  · simp only [setRow, Nat.mul_one]
    have H' := own_set (o := o + n) (v := .int k (x : Int)) e2
    refine hk _ (.inr ⟨b, o, _, rfl, H'.k, fun i hi => ?_⟩) (.inr ⟨b, o, _, rfl, H', by simpa using e3, e4⟩) (Fr.mono fr_setCell fun y _ hy => hy ▸ e4)
    rw [List.length_append, List.length_singleton] at hi
    by_cases hil : i < ws.length
    · rw [Array.getElem?_setIfInBounds_ne (by omega), List.getElem_append_left hil]
      rcases hs with hs | ⟨b', o', cs', f1, f2, f3⟩
      · subst hs; exact absurd hil (by simp)
      · cases f1; rw [e2.r.inj f2.r]; exact f3 i hil
    · have : i = ws.length := by omega
      subst this
      simp only [hn, List.getElem_concat_length]
      rw [Array.getElem?_setIfInBounds_self_of_lt hsz]
end Go.Eng
namespace Go.Proofs
open Go Go.Eng
variable {B : World} {R : Ending → Heap → Prop} {h : Heap}
/-- What told needs to know of the heap, once its loop runs. -/
structure Told (h0 h : Heap) (r3 r5 rx rm qm bd : Nat) (e : Int) : Prop where
  f : Ext h0 h
  o3 : Own h r3 #[.pointer (some ⟨rx, 0, none⟩), .int .i64 e]
  o5 : Own h r5 #[.bool false, .slice none 0 0, .int .i64 0]
  im : IntAt h rm qm ((1073741823 : Nat) : Int)
  g3 : h0.size ≤ r3
  g5 : h0.size ≤ r5
  gm : h0.size ≤ rm
  gq : h0.size ≤ qm
  gb : h0.size ≤ bd
  d3 : bd ≠ r3
  d5 : bd ≠ r5
  dm : bd ≠ rm
  dq : bd ≠ qm
  ne : r3 ≠ r5
theorem Told.fr {h0 h h' : Heap} {r3 r5 rx rm qm bd : Nat} {e : Int} {S : Nat → Prop} (T : Told h0 h r3 r5 rx rm qm bd e) (f : Fr S h h') (h3 : ¬ S r3) (h5 : ¬ S r5) (hm : ¬ S rm) (hq : ¬ S qm) (h0s : ∀ x, x < h0.size → ¬ S x) : Told h0 h' r3 r5 rx rm qm bd e :=
  ⟨Fr.trans T.f f fun x hx s => h0s x hx s, T.o3.fr f h3, T.o5.fr f h5, T.im.fr f hm hq, T.g3, T.g5, T.gm, T.gq, T.gb, T.d3, T.d5, T.dm, T.dq, T.ne⟩
end Go.Proofs
