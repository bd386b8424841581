import Derived.Test.YtoclhdcpjlcdiaaGreatFmtA31
import Derived.Test.YtoclhdcpjlcdiaaGreatFmtA13
import Derived.Test.YtoclhdcpjlcdiaaGreatFmtA10
import Derived.Test.YtoclhdcpjlcdiaaGreatFmtA25
import Derived.Test.YtoclhdcpjlcdiaaGreatFmtA22
import Derived.WalkKit
import Derived.Test.YtoclhdcpjlcdiaaGreatFmtA07
/- Here stand lemmas: round: contracts, second part. -/
set_option linter.unusedVariables false
set_option linter.unusedVariables false
namespace Go.Proofs
open Go Go.Eng
variable {B : World} {R : Ending → Heap → Prop} {h : Heap}
def OpnI (r1 r2 : Nat) (n : Nat) (ds : List Nat) (g : Heap) (m : Nat) (vs : List Value) (h' : Heap) : Prop :=
  match vs with
  | [.pointer a, .pointer b, .pointer pr, .int _ nn, .int _ i] => a = some (⟨r1, 0, none⟩ : Addr) ∧ b = some (⟨r2, 0, none⟩ : Addr) ∧ some (⟨g.size, 0, none⟩ : Addr) = pr ∧ (n : Int) = nn ∧ ∃ (j q : Nat), i = (j : Int) ∧ j ≤ n ∧ m = n - j ∧ Ext g h' ∧ g.size ≤ q ∧ IntAt h' g.size q (val B30 (ds.drop (n - j)) : Int)
  | _ => False
/-- round.open, of a valid number. -/
theorem K1077 {neg : Bool} {p : Option Addr} {n c : Nat} {e : Int} {ds : List Nat} (hd0 : DigI h p n ds) (hn : n ≤ 30000)
    (H : ∀ (r q : Nat) (h' : Heap), Ext h h' → h.size ≤ r → h.size ≤ q → IntAt h' r q (if neg then -(val B30 ds : Int) else (val B30 ds : Int)) → R (.returned (.agg #[.pointer (some ⟨r, 0, none⟩), .int .i64 e, .bool false])) h') :
    Ent Tryz.prog B 63 #[.agg #[.bool neg, .slice p n c, .int .i64 e]] R h := by
  have hl := hd0.len
  have hbl : ∀ j, j ≤ n → bl (val B30 (ds.drop j)) ≤ 30 * (n - j) := fun j hj => by
    have := bl_dig (k := 30) rfl (hd0.dig.drop j)
    rw [List.length_drop, hl] at this; exact this
  refine F1077_ok _ _ _ _ _ (alK fun r1 h1 e1 f1 o1 z1 => alK fun r2 g e2 f2 o2 z2 => alK fun r3 h3 e3 f3 o3 z3 => ?_)
  have O1 := o1.ext f2
  have hd := (hd0.ext f1).ext f2
  have F0 := Ext.trans f1 f2
  subst e3
  refine ⟨r1, 0, rfl, r1, 0 + 1, rfl, _, _, _, (O1.ext f3).cell _, OpnI r1 r2 n ds g, n, ⟨rfl, rfl, rfl, rfl, 0, g.size, rfl, by omega, rfl, f3, Nat.le_refl _, ?_⟩, ?_⟩
  · rw [Nat.sub_zero, List.drop_of_length_le (by omega)]
    exact ZeroAt.int o3
  rintro m h' _ _ _ _ _ ⟨rfl, rfl, rfl, rfl, j, q, rfl, hj, rfl, f, hq, hI⟩ _
  refine ⟨fun e => ?_, fun e => ?_⟩
  · have hjn : j < n := by simp at e; omega
    have hb1 := hbl (n - j) (by omega)
    refine K128i (s := 30) hI (by rw [Int.natAbs_natCast]; omega) (by decide) (by decide) fun q1 h1 f1 d1 I1 => ⟨_, rfl, ?_⟩
    have hhs := f.size
    have hq1 : g.size ≤ q1 := by rcases d1 with e | e | e; omega; exact e.1 ▸ hq; omega
    have fx : Ext g h1 := Fr.trans f f1 fun x hx e => by rcases e with e | e; omega; have := e.1; omega
    have dj : ds[n - 1 - j]'(by omega) < 1073741824 := hd.dig.get (by omega)
    have ei : IntKind.i64.wrap (IntKind.i64.wrap ((n : Int) - 1) - (j : Int)) = ((n - 1 - j : Nat) : Int) := by
      rw [i64_in (x := (n : Int) - 1) (by omega) (by omega), i64_in (by omega) (by omega)]; omega
    have Ox := O1.ext fx
    refine ⟨r1, 0, rfl, r1, 0 + 1, rfl, _, _, _, Ox.cell _, r1, 0, rfl, r1, 0 + 1, rfl, _, _, _, Ox.cell _, ?_⟩
    rw [ei]
    refine (hd.sl.ext fx).get (n - 1 - j) rfl (by omega) (by omega) (K120 (by omega) (by omega) fun r2 q2 h2 f2 hr2 hr2' hq2 I2 => ⟨_, rfl, ?_⟩)
    have ev : ((val B30 (ds.drop (n - j)) : Nat) : Int) * 2 ^ 30 = ((val B30 (ds.drop (n - j)) * 2 ^ 30 : Nat) : Int) := by
      rw [Int.natCast_mul, Int.natCast_pow]; rfl
    rw [ev] at I1
    have hdr : val B30 (ds.drop (n - (j + 1))) = (val B30 (ds.drop (n - j)) * 2 ^ 30 ||| ds[n - 1 - j]'(by omega)) := by
      rw [or30 dj, show n - (j + 1) = n - 1 - j by omega, val_drop _ _ (by omega), show n - 1 - j + 1 = n - j by omega, show (2 : Nat) ^ 30 = B30 from rfl, Nat.mul_comm B30]; omega
    have hpos : 0 < val B30 (ds.drop (n - (j + 1))) := by
      have hne : ds.drop (n - (j + 1)) ≠ [] := by
        intro e0
        have := congrArg List.length e0
        rw [List.length_drop] at this; simp at this; omega
      have ht : Trim (ds.drop (n - (j + 1))) := by
        have := hd.trim
        unfold Trim at this ⊢
        rw [List.getLast?_drop, if_neg (by omega)]; exact this
      exact Nat.lt_of_lt_of_le (Nat.pow_pos (by decide)) (val_pos hne ht (by decide : 0 < B30))
    have hI1 := I1.ext f2
    have hb2 : bl (val B30 (ds.drop (n - j)) * 2 ^ 30) ≤ 1000000 := by
      have h1 := bl_lt (val B30 (ds.drop (n - j)))
      have h2 : val B30 (ds.drop (n - j)) * 2 ^ 30 < 2 ^ bl (val B30 (ds.drop (n - j))) * 2 ^ 30 := Nat.mul_lt_mul_of_pos_right h1 (Nat.pow_pos (by decide))
      rw [← Nat.pow_add] at h2
      exact bl_of_lt h2 (by omega)
    have hb3 : bl (ds[n - 1 - j]'(by omega)) ≤ 1000000 := by
      have : bl (ds[n - 1 - j]'(by omega)) ≤ 30 := bl_le_iff.2 dj
      omega
    refine K175i hI1 I2 (by have := I1.lq; omega) hb2 hb3 (by rw [← hdr]; exact hpos) fun q3 h3 f3 d3 I3 => ⟨_, rfl, n - (j + 1), by omega, rfl, rfl, rfl, rfl, j + 1, q3, by rw [i64_in (by omega) (by omega)]; rfl, by omega, rfl, ?_, ?_, ?_⟩
    · exact Fr.trans (Ext.trans fx f2) f3 fun x hx e => by rcases e with e | e; omega; have := e.1; omega
    · have := fx.size; have := f2.size
      rcases d3 with e | e | e; omega; have := e.1; omega; omega
    · rw [hdr]; exact I3
  · have hjn : j = n := by simp at e; omega
    subst hjn
    rw [Nat.sub_self, List.drop_zero] at hI
    have hhs := f.size
    have lg := O1.lt
    have lg2 := o2.lt
    have fin : ∀ h9 q9, Ext g h9 → g.size ≤ q9 → IntAt h9 g.size q9 (if neg then -(val B30 ds : Int) else (val B30 ds : Int)) → F1077_j10 B R (some ⟨r1, 0, none⟩) (some ⟨r2, 0, none⟩) (some ⟨g.size, 0, none⟩) h9 := fun h9 q9 f9 l9 I9 => by
      refine ⟨r1, 0, rfl, r1, 0 + 2, rfl, _, (O1.ext f9).cell _, r2, 0, rfl, (o2.ext f9).stC (by simp) rfl fun oa fa => oa.stC (by simp) rfl fun ob fb => ob.stC (by simp) rfl fun oc fc => ⟨r2, 0, rfl, _, oc.cell _, _, oc.cell _, _, oc.cell _, ?_⟩⟩
      have fabc := Fr.trans (S := fun x => x = r2) (Fr.trans (S := fun x => x = r2) fa fb fun _ _ e => e) fc fun _ _ e => e
      exact H g.size q9 _ (Fr.trans (Ext.trans F0 f9) fabc fun x hx e => by omega) (by omega) (by omega) (I9.fr fabc (by omega) (by omega))
    refine ⟨r1, 0, rfl, r1, 0, rfl, _, (O1.ext f).cell _, fun e => ?_, fun e => ?_⟩
    · subst e
      refine K74i hI fun q1 h1 f1 d1 I1 => ⟨_, rfl, ?_⟩
      refine fin _ q1 (Fr.trans f f1 fun x hx e => by rcases e with e | e; omega; have := e.1; omega) ?_ I1
      rcases d1 with e | e | e; omega; exact e.1 ▸ hq; omega
    · subst e
      exact fin _ q f hq hI
end Go.Proofs
set_option linter.unusedVariables false
namespace Go.Proofs
open Go Go.Eng
variable {B : World} {R : Ending → Heap → Prop} {h : Heap}
/-- What is not the lower nought. -/
def pz (a : Int) : Int := if a = -9223372036854775808 then 0 else a
end Go.Proofs
set_option linter.unusedVariables false
namespace Go.Eng
open Go
theorem pow2_odd {m : Int} {i j : Nat} (ho : m = 0 ∨ m.natAbs % 2 = 1) (h : m * 2 ^ i = 2 ^ j) : m = 1 ∧ i = j := by
  have hj : (0 : Int) < 2 ^ j := Int.pow_pos (by decide)
  have hi : (0 : Int) < 2 ^ i := Int.pow_pos (by decide)
  have hm : 0 < m := by
    rcases Int.lt_or_le 0 m with h1 | h1
    · exact h1
    · have := Int.mul_nonpos_of_nonpos_of_nonneg h1 (Int.le_of_lt hi); omega
  obtain ⟨k, rfl⟩ : ∃ k : Nat, m = (k : Int) := ⟨m.toNat, by omega⟩
  have hk : k % 2 = 1 := by rcases ho with h | h <;> omega
  have hN : k * 2 ^ i = 2 ^ j := by
    have : ((k * 2 ^ i : Nat) : Int) = ((2 ^ j : Nat) : Int) := by rw [Int.natCast_mul, Int.natCast_pow, Int.natCast_pow]; exact h
    exact Int.ofNat.inj this
  rcases Nat.lt_trichotomy i j with h1 | h1 | h1
  · exfalso
    have : k = 2 ^ (j - i) := by
      have e : 2 ^ j = 2 ^ (j - i) * 2 ^ i := by rw [← Nat.pow_add]; congr 1; omega
      rw [e] at hN
      exact Nat.eq_of_mul_eq_mul_right (Nat.pow_pos (by decide)) hN
    rw [show j - i = (j - i - 1) + 1 by omega, Nat.pow_succ] at this
    omega
  · subst h1
    have := Nat.eq_of_mul_eq_mul_right (Nat.pow_pos (by decide)) (hN.trans (Nat.one_mul _).symm)
    exact ⟨by omega, rfl⟩
  · exfalso
    have h2 : 2 ^ j < 2 ^ i := Nat.pow_lt_pow_right (by decide) h1
    have h3 : 1 * 2 ^ i ≤ k * 2 ^ i := Nat.mul_le_mul_right _ (by omega)
    omega
end Go.Eng
namespace Go.Proofs
open Go Go.Eng
variable {B : World} {R : Ending → Heap → Prop} {h : Heap}
/-- round.value, of a float. -/
theorem K1071 {b : Int} (ht : TabH h) (hf : isFin b = true)
    (H : ∀ r q m e h', Ext h h' → h.size ≤ r → h.size ≤ q → IntAt h' r q m → -1074 ≤ e → e ≤ 1048576 → fV b = m * 2 ^ (e + 1074).toNat → (m = 0 ∨ m.natAbs % 2 = 1) → (m = 0 → e = 0) → R (.returned (.agg #[.pointer (some ⟨r, 0, none⟩), .int .i64 e, .bool false])) h') :
    Ent Tryz.prog B 44 #[.int .i64 b] R h := by
  refine F1071_ok _ (alK fun r1 h1 e1 f1 o1 z1 => K21 (ht.fr f1 id) hf fun neg p n c e h2 f2 _ N => ⟨_, _, _, _, _, _, rfl, ?_⟩)
  refine alK fun r3 h3 e3 f3 o3 z3 => ⟨r3, 0, rfl, o3.stC (by simp) rfl fun oa fa => oa.stC (by simp) rfl fun ob fb => ob.stC (by simp) rfl fun oc fc => ⟨r3, 0, rfl, _, oc.cell _, _, _, _, oc.cell _, _, oc.cell _, ?_⟩⟩
  have fac := Fr.trans (S := fun x => x = r3) (Fr.trans (S := fun x => x = r3) fa fb fun _ _ e => e) fc fun _ _ e => e
  generalize setCell (setCell (setCell h3 _ _) _ _) _ _ = h4 at *
  have F24 : Ext h2 h4 := Fr.trans f3 fac fun x hx e => by omega
  have N4 := N.ext F24
  obtain ⟨M, N1, N2, N3⟩ := N4
  refine K1077 N1.d (by have := N1.le; omega) fun r q h5 f5 lr lq I5 => ⟨_, _, _, rfl, ?_⟩
  have O1 := ((o1.ext f2).ext F24).ext f5
  have s2 := f2.size
  have s4 := F24.size
  have s5 := f5.size
  refine ⟨r1, 0, rfl, O1.stC (by simp) rfl fun oa fa => oa.stC (by simp) rfl fun ob fb => ob.stC (by simp) rfl fun oc fc => ⟨r1, 0, rfl, _, oc.cell _, _, oc.cell _, _, oc.cell _, ?_⟩⟩
  have fabc := Fr.trans (S := fun x => x = r1) (Fr.trans (S := fun x => x = r1) fa fb fun _ _ e => e) fc fun _ _ e => e
  have hv : fV b = (if neg then -(M : Int) else (M : Int)) * 2 ^ (e + 1074).toNat := by
    rw [N3]
    unfold Ieee.signed
    rw [Nat.shiftLeft_eq]
    have h1 : (2 : Int) ^ (e + 1074).toNat = ((2 ^ (e + ((1074 : Nat) : Int)).toNat : Nat) : Int) := by rw [Int.natCast_pow]; rfl
    rw [h1]
    cases neg
    · simp only [Bool.false_eq_true, if_false, Int.natCast_mul]
    · simp only [if_true, Int.natCast_mul, Int.neg_mul]
  have hd : val B30 (digs B30 M) = M := digs_val (by decide) _
  rw [hd] at I5
  refine H r q _ e _ (Fr.trans (Ext.trans (Ext.trans (Ext.trans f1 f2) F24) f5) fabc fun x hx e => by omega) (by omega) (by omega) (I5.fr fabc (by omega) (by omega)) (by omega) ?_ hv ?_ ?_
  · by_cases h0 : n = 0
    · have := (N1.zero h0).2; omega
    · have := (N1.pos (by omega)).2; omega
  · by_cases h0 : n = 0
    · left
      have hl := N1.d.len
      rw [h0] at hl
      have : digs B30 M = [] := List.eq_nil_of_length_eq_zero hl
      rw [this] at hd
      have : M = 0 := by rw [← hd]; rfl
      rw [this]; cases neg <;> rfl
    · right
      have := (N1.pos (by omega)).1
      rw [hd] at this
      cases neg <;> simp <;> omega
  · intro hm
    by_cases h0 : n = 0
    · exact (N1.zero h0).2
    · have := (N1.pos (by omega)).1
      rw [hd] at this
      cases neg <;> simp at hm <;> omega
end Go.Proofs
set_option linter.unusedVariables false
namespace Go.Proofs
open Go Go.Eng
variable {B : World} {R : Ending → Heap → Prop} {h : Heap}
/-- A float that is 2^e, e from 0 on. -/
def Pw (b : Int) (e : Nat) : Prop := I64 b ∧ isFin b = true ∧ fV b = 2 ^ (e + 1074) ∧ e ≤ 30
theorem Pw.val {b m ee : Int} {e : Nat} (P : Pw b e) (h1 : -1074 ≤ ee) (h : fV b = m * 2 ^ (ee + 1074).toNat) (ho : m = 0 ∨ m.natAbs % 2 = 1) : m = 1 ∧ ee = (e : Int) := by
  rw [P.2.2.1] at h
  obtain ⟨a, b⟩ := pow2_odd ho h.symm
  exact ⟨a, by omega⟩
end Go.Proofs
