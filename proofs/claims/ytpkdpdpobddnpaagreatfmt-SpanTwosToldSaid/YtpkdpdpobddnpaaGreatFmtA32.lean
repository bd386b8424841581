import Derived.Test.YtpkdpdpobddnpaaGreatFmtA31
import Derived.Test.YtpkdpdpobddnpaaGreatFmtA13
import Derived.Test.YtpkdpdpobddnpaaGreatFmtA10
import Derived.Test.YtpkdpdpobddnpaaGreatFmtA25
import Derived.Test.YtpkdpdpobddnpaaGreatFmtA22
import Derived.WalkKit
import Derived.Test.YtpkdpdpobddnpaaGreatFmtA07
/- Here stand lemmas: round: contracts, second part. -/
set_option linter.unusedVariables false
set_option linter.unusedVariables false
namespace Go.Proofs
open Go Go.Eng
variable {B : World} {R : Ending -> Heap -> Prop} {h : Heap}
def OpnI (r1 r2 : Nat) (n : Nat) (ds : List Nat) (g : Heap) (m : Nat) (vs : List Value) (h' : Heap) : Prop :=
 match vs with
 | [.pointer a, .pointer b, .pointer pr, .int _ nn, .int _ i] => a = some (⟨r1, 0, none⟩ : Addr) /\ b = some (⟨r2, 0, none⟩ : Addr) /\ some (⟨g.size, 0, none⟩ : Addr) = pr /\ (n : Int) = nn /\ ∃ (j q : Nat), i = (j : Int) /\ j <= n /\ m = n - j /\ Ext g h' /\ g.size <= q /\ IntAt h' g.size q (val B30 (ds.drop (n - j)) : Int)
 | _ => False
theorem K1077 {neg : Bool} {p : Option Addr} {n c : Nat} {e : Int} {ds : List Nat} (hd0 : DigI h p n ds) (hn : n <= 30000)
  (H : ∀ (r q : Nat) (h' : Heap), Ext h h' -> h.size <= r -> h.size <= q -> IntAt h' r q (if neg then -(val B30 ds : Int) else (val B30 ds : Int)) -> R (.returned (.agg #[.pointer (some ⟨r, 0, none⟩), .int .i64 e, .bool false])) h') :
  Ent Tryz.prog B 89 #[.agg #[.bool neg, .slice p n c, .int .i64 e]] R h := by
 have hl := hd0.len
 have hbl : ∀ j, j <= n -> bl (val B30 (ds.drop j)) <= 30 * (n - j) := fun j hj => by
  have := bl_dig (k := 30) rfl (hd0.dig.drop j)
  rw [List.length_drop, hl] at this; exact this
 refine F1077_ok _ _ _ _ _ (alK fun r1 h1 e1 f1 o1 z1 => alK fun r2 g e2 f2 o2 z2 => alK fun r3 h3 e3 f3 o3 z3 => ?_)
 have O1 := o1.ext f2
 have hd := (hd0.ext f1).ext f2
 have F0 := Ext.trans f1 f2
 subst e3
 refine ⟨r1, 0, rfl, r1, 0 + 1, rfl, _, _, _, (O1.ext f3).cell _, OpnI r1 r2 n ds g, n, ⟨rfl, rfl, rfl, rfl, 0, g.size, rfl, by omega, rfl, f3, Nat.le_refl _, ?_⟩, ?_⟩
 ·rw [Nat.sub_zero, List.drop_of_length_le (by omega)]
  exact ZeroAt.int o3
 rintro m h' _ _ _ _ _ ⟨rfl, rfl, rfl, rfl, j, q, rfl, hj, rfl, f, hq, hI⟩ _
 refine ⟨fun e => ?_, fun e => ?_⟩
 ·have hjn : j < n := by simp at e; omega
  have hb1 := hbl (n - j) (by omega)
  refine K128i (s := 30) hI (by rw [Int.natAbs_natCast]; omega) (by decide) (by decide) fun q1 h1 f1 d1 I1 => ⟨_, rfl, ?_⟩
  have hhs := f.size
  have hq1 : g.size <= q1 := by rcases d1 with e | e | e; omega; exact e.1 ▸ hq; omega
  have fx : Ext g h1 := Fr.trans f f1 fun x hx e => by rcases e with e | e; omega; have := e.1; omega
  have dj : ds[n - 1 - j]'(by omega) < 1073741824 := hd.dig.get (by omega)
  have ei : IntKind.i64.wrap (IntKind.i64.wrap ((n : Int) - 1) - (j : Int)) = ((n - 1 - j : Nat) : Int) := by
   rw [i64_in (x := (n : Int) - 1) (by omega) (by omega), i64_in (by omega) (by omega)]; omega
  have Ox := O1.ext fx
  refine ⟨r1, 0, rfl, r1, 0 + 1, rfl, _, _, _, Ox.cell _, r1, 0, rfl, r1, 0 + 1, rfl, _, _, _, Ox.cell _, ?_⟩
  rw [ei]
  refine (hd.sl.ext fx).get (n - 1 - j) rfl (by omega) (by omega) (K120 (by omega) (by omega) fun r2 q2 h2 f2 hr2 hr2' hq2 I2 => ⟨_, rfl, ?_⟩)
  have ev : ((val B30 (ds.drop (n - j)) : Nat) : Int) * 2 ^ 30 = ((val B30 (ds.drop (n - j)) * 2 ^ 30 : Nat) : Int) := by
   rw [Int.natCast_mul, Int.natCast_pow]; rfl
  rw [ev] at I1
  have hdr : val B30 (ds.drop (n - (j + 1))) = (val B30 (ds.drop (n - j)) * 2 ^ 30 ||| ds[n - 1 - j]'(by omega)) := by
   rw [or30 dj, show n - (j + 1) = n - 1 - j by omega, val_drop _ _ (by omega), show n - 1 - j + 1 = n - j by omega, show (2 : Nat) ^ 30 = B30 from rfl, Nat.mul_comm B30]; omega
  have hpos : 0 < val B30 (ds.drop (n - (j + 1))) := by
   have hne : ds.drop (n - (j + 1)) ≠ [] := by
    intro e0
    have := congrArg List.length e0
    rw [List.length_drop] at this; simp at this; omega
   have ht : Trim (ds.drop (n - (j + 1))) := by
    have := hd.trim
    unfold Trim at this ⊢
    rw [List.getLast?_drop, if_neg (by omega)]; exact this
   exact Nat.lt_of_lt_of_le (Nat.pow_pos (by decide)) (val_pos hne ht (by decide : 0 < B30))
  have hI1 := I1.ext f2
  have hb2 : bl (val B30 (ds.drop (n - j)) * 2 ^ 30) <= 1000000 := by
   have h1 := bl_lt (val B30 (ds.drop (n - j)))
   have h2 : val B30 (ds.drop (n - j)) * 2 ^ 30 < 2 ^ bl (val B30 (ds.drop (n - j))) * 2 ^ 30 := Nat.mul_lt_mul_of_pos_right h1 (Nat.pow_pos (by decide))
   rw [<- Nat.pow_add] at h2
   exact bl_of_lt h2 (by omega)
  have hb3 : bl (ds[n - 1 - j]'(by omega)) <= 1000000 := by
   have : bl (ds[n - 1 - j]'(by omega)) <= 30 := bl_le_iff.2 dj
   omega
  refine K175i hI1 I2 (by have := I1.lq; omega) hb2 hb3 (by rw [<- hdr]; exact hpos) fun q3 h3 f3 d3 I3 => ⟨_, rfl, n - (j + 1), by omega, rfl, rfl, rfl, rfl, j + 1, q3, by rw [i64_in (by omega) (by omega)]; rfl, by omega, rfl, ?_, ?_, ?_⟩
  ·exact Fr.trans (Ext.trans fx f2) f3 fun x hx e => by rcases e with e | e; omega; have := e.1; omega
  ·have := fx.size; have := f2.size
   rcases d3 with e | e | e; omega; have := e.1; omega; omega
  ·rw [hdr]; exact I3
 ·have hjn : j = n := by simp at e; omega
  subst hjn
  rw [Nat.sub_self, List.drop_zero] at hI
  have hhs := f.size
  have lg := O1.lt
  have lg2 := o2.lt
  have fin : ∀ h9 q9, Ext g h9 -> g.size <= q9 -> IntAt h9 g.size q9 (if neg then -(val B30 ds : Int) else (val B30 ds : Int)) -> F1077_j10 B R (some ⟨r1, 0, none⟩) (some ⟨r2, 0, none⟩) (some ⟨g.size, 0, none⟩) h9 := fun h9 q9 f9 l9 I9 => by
   refine ⟨r1, 0, rfl, r1, 0 + 2, rfl, _, (O1.ext f9).cell _, r2, 0, rfl, (o2.ext f9).stC (by simp) rfl fun oa fa => oa.stC (by simp) rfl fun ob fb => ob.stC (by simp) rfl fun oc fc => ⟨r2, 0, rfl, _, oc.cell _, _, oc.cell _, _, oc.cell _, ?_⟩⟩
   have fabc := Fr.trans (S := fun x => x = r2) (Fr.trans (S := fun x => x = r2) fa fb fun _ _ e => e) fc fun _ _ e => e
   exact H g.size q9 _ (Fr.trans (Ext.trans F0 f9) fabc fun x hx e => by omega) (by omega) (by omega) (I9.fr fabc (by omega) (by omega))
  refine ⟨r1, 0, rfl, r1, 0, rfl, _, (O1.ext f).cell _, fun e => ?_, fun e => ?_⟩
  ·subst e
   refine K74i hI fun q1 h1 f1 d1 I1 => ⟨_, rfl, ?_⟩
   refine fin _ q1 (Fr.trans f f1 fun x hx e => by rcases e with e | e; omega; have := e.1; omega) ?_ I1
   rcases d1 with e | e | e; omega; exact e.1 ▸ hq; omega
  ·subst e
   exact fin _ q f hq hI
end Go.Proofs
set_option linter.unusedVariables false
namespace Go.Proofs
open Go Go.Eng
variable {B : World} {R : Ending -> Heap -> Prop} {h : Heap}
def pz (a : Int) : Int := if a = -9223372036854775808 then 0 else a
end Go.Proofs
set_option linter.unusedVariables false
namespace Go.Proofs
open Go Go.Eng
variable {B : World} {R : Ending -> Heap -> Prop} {h : Heap}
theorem K166e {px py : Option Addr} {n xc yc vx vy : Nat} {S : Nat -> Prop} (hz : Dst h px xc S) (hx : NatI h px n vx) (hy : NatI h py n vy) (hay : Al S px py n) (hxc : n <= xc) (hyc : n <= yc) (ln : n < 1099511627760) (h0 : 0 < n) (H : NatK R h S (vx + vy)) :
  Ent Tryz.prog B 124 #[.slice px n xc, .slice px n xc, .slice py n yc] R h := by
 obtain ⟨xs, x1, x2, x3, x4, x5⟩ := hx.ex
 obtain ⟨ys, y1, y2, y3, y4, y5⟩ := hy.ex
 have x5 : val B64 xs = vx := x5
 have y5 : val B64 ys = vy := y5
 have xne : xs ≠ [] := fun e => by rw [e] at x2; simp at x2; omega
 have yne : ys ≠ [] := fun e => by rw [e] at y2; simp at y2; omega
 refine F166_ok _ _ _ _ _ _ _ _ _ ⟨fun e => by simp at e, fun _ => ⟨fun e => by simp at e; omega, fun e => ⟨fun e2 => by simp at e2; omega, fun e2 => ?_⟩⟩⟩
 refine K194' (n := n + 1) (S := S) hz (by rw [i64_in (by omega) (by omega)]; omega) (by omega) (by omega) fun b o c cs h1 fE hO hl hc hlim hb => ⟨_, _, _, rfl, ?_⟩
 refine sl_to (m := n) rfl (by omega) (sl_to (m := n) rfl (by omega) (sl_to (m := n) rfl (by omega) ?_))
 simp only [slP0 pt_some, slP0 hx.pt, slP0 hy.pt, Nat.sub_zero]
 have x1' := x1.ext fE
 have y1' := y1.ext fE
 have ax := (show Al S px px n from .inl rfl).at x1 xne x2 hb
 have ay := hay.at y1 yne y2 hb
 refine E202 (K138 (xs := xs) (ys := ys) rfl hO (by omega) x1' y1' x2 y2 (by omega) x3 y3 (fun b' o' e => by have := ax b' o' e; omega) (fun b' o' e => by have := ay b' o' e; omega) fun zs cc h2 W lz dz hcc hv => ⟨_, rfl, ?_⟩)
 refine ⟨fun e => by simp at e, fun _ => ?_⟩
 refine W.put hO cc rfl (by omega) (by omega) (by omega) fun W4 => ?_
 exact natEnd (n := n + 1) fE.to W4 (Dst.inS hb) hO hl (by simp; omega) hc hlim (dz.snoc (by unfold B64; omega)) (by rw [val_snoc, lz, hv, x5, y5]) H
theorem K127e {r q ry qy : Nat} {v w : Nat} (hx : IntAt h r q v) (hy : IntAt h ry qy w) (hq : q ≠ qy) (hv0 : 0 < v) (hw0 : 0 < w) (hv : v < 18446744073709551616) (hw : w < 18446744073709551616) (H : IntK R h r (Rm r q) ((v + w : Nat) : Int)) :
  Ent Tryz.prog B 88 #[.pointer (some ⟨r, 0, none⟩), .pointer (some ⟨r, 0, none⟩), .pointer (some ⟨ry, 0, none⟩)] R h := by
 obtain ⟨p, n, c, h1, h2, h3, h4⟩ := hx.ex
 obtain ⟨py, m, cy, y1, y2, y3, y4⟩ := hy.ex
 rw [Int.natAbs_natCast] at h2 y2
 have z1 := h2.zero
 have z2 := y2.zero
 have n1 : n <= 1 := by
  obtain ⟨xs, a1, a2, a3, a4, a5⟩ := h2.ex
  have a5 : val B64 xs = v := a5
  by_cases hxs : xs = []
  ·rw [hxs] at a2; simp at a2; omega
  ·have h1 := val_pos hxs a4 (by decide : 0 < B64)
   rw [a5, a2] at h1
   rcases Nat.lt_or_ge n 2 with h | h
   ·omega
   ·have : B64 ^ 1 <= B64 ^ (n - 1) := Nat.pow_le_pow_right (by decide) (by omega)
    rw [Nat.pow_one] at this
    unfold B64 at *; omega
 have m1 : m <= 1 := by
  obtain ⟨xs, a1, a2, a3, a4, a5⟩ := y2.ex
  have a5 : val B64 xs = w := a5
  by_cases hxs : xs = []
  ·rw [hxs] at a2; simp at a2; omega
  ·have h1 := val_pos hxs a4 (by decide : 0 < B64)
   rw [a5, a2] at h1
   rcases Nat.lt_or_ge m 2 with h | h
   ·omega
   ·have : B64 ^ 1 <= B64 ^ (m - 1) := Nat.pow_le_pow_right (by decide) (by omega)
    rw [Nat.pow_one] at this
    unfold B64 at *; omega
 have en : n = 1 := by omega
 have em : m = 1 := by omega
 subst en em
 have hd : decide ((v : Int) < 0) = false := by simp
 have hd2 : decide ((w : Int) < 0) = false := by simp
 rw [hd] at h1
 rw [hd2] at y1
 have hal : Al (Rm r q) p py 1 := .inr fun b o e hm hb => by
  rcases y4.room with e0 | ⟨b', o', cs, e1, e2, e3, e4⟩
  ·omega
  ·rw [e1] at e; cases e; exact hq (hb.1.symm.trans e4.1)
 refine F127_ok _ _ _ (ldB h1 (ldB h1 (ldB y1 ⟨fun _ => ?_, nofun⟩)))
 refine ldS h1 (ldS h1 (ldS y1 (K166e h4 h2 y2 hal h3 y3 (by omega) (by omega) fun p' n' c' h' f1 f2 f3 f4 => ⟨_, _, _, rfl, stS (h1.fr f1 rm_ne) fun h2' o2 fr2 => ?_⟩)))
 have zz := f3.zero
 refine ldS o2 ⟨fun e => stB o2 fun h3' o3 fr3 => ?_, fun e => by simp at e; omega⟩
 exact intEnd f1 (Fr.trans fr2 fr3 fun _ _ e => e) h1.lt rm_ne f2 f3 f4 o3 (dec_nat _) H
end Go.Proofs
set_option linter.unusedVariables false
namespace Go.Eng
open Go
theorem pow2_odd {m : Int} {i j : Nat} (ho : m = 0 \/ m.natAbs % 2 = 1) (h : m * 2 ^ i = 2 ^ j) : m = 1 /\ i = j := by
 have hj : (0 : Int) < 2 ^ j := Int.pow_pos (by decide)
 have hi : (0 : Int) < 2 ^ i := Int.pow_pos (by decide)
 have hm : 0 < m := by
  rcases Int.lt_or_le 0 m with h1 | h1
  ·exact h1
  ·have := Int.mul_nonpos_of_nonpos_of_nonneg h1 (Int.le_of_lt hi); omega
 obtain ⟨k, rfl⟩ : ∃ k : Nat, m = (k : Int) := ⟨m.toNat, by omega⟩
 have hk : k % 2 = 1 := by rcases ho with h | h <;> omega
 have hN : k * 2 ^ i = 2 ^ j := by
  have : ((k * 2 ^ i : Nat) : Int) = ((2 ^ j : Nat) : Int) := by rw [Int.natCast_mul, Int.natCast_pow, Int.natCast_pow]; exact h
  exact Int.ofNat.inj this
 rcases Nat.lt_trichotomy i j with h1 | h1 | h1
 ·exfalso
  have : k = 2 ^ (j - i) := by
   have e : 2 ^ j = 2 ^ (j - i) * 2 ^ i := by rw [<- Nat.pow_add]; congr 1; omega
   rw [e] at hN
   exact Nat.eq_of_mul_eq_mul_right (Nat.pow_pos (by decide)) hN
  rw [show j - i = (j - i - 1) + 1 by omega, Nat.pow_succ] at this
  omega
 ·subst h1
  have := Nat.eq_of_mul_eq_mul_right (Nat.pow_pos (by decide)) (hN.trans (Nat.one_mul _).symm)
  exact ⟨by omega, rfl⟩
 ·exfalso
  have h2 : 2 ^ j < 2 ^ i := Nat.pow_lt_pow_right (by decide) h1
  have h3 : 1 * 2 ^ i <= k * 2 ^ i := Nat.mul_le_mul_right _ (by omega)
  omega
end Go.Eng
namespace Go.Proofs
open Go Go.Eng
variable {B : World} {R : Ending -> Heap -> Prop} {h : Heap}
theorem K1071 {b : Int} (ht : TabH h) (hf : isFin b = true)
  (H : ∀ r q m e h', Ext h h' -> h.size <= r -> h.size <= q -> IntAt h' r q m -> -1074 <= e -> e <= 1048576 -> fV b = m * 2 ^ (e + 1074).toNat -> (m = 0 \/ m.natAbs % 2 = 1) -> (m = 0 -> e = 0) -> R (.returned (.agg #[.pointer (some ⟨r, 0, none⟩), .int .i64 e, .bool false])) h') :
  Ent Tryz.prog B 63 #[.int .i64 b] R h := by
 refine F1071_ok _ (alK fun r1 h1 e1 f1 o1 z1 => K21 (ht.fr f1 id) hf fun neg p n c e h2 f2 _ N => ⟨_, _, _, _, _, _, rfl, ?_⟩)
 refine alK fun r3 h3 e3 f3 o3 z3 => ⟨r3, 0, rfl, o3.stC (by simp) rfl fun oa fa => oa.stC (by simp) rfl fun ob fb => ob.stC (by simp) rfl fun oc fc => ⟨r3, 0, rfl, _, oc.cell _, _, _, _, oc.cell _, _, oc.cell _, ?_⟩⟩
 have fac := Fr.trans (S := fun x => x = r3) (Fr.trans (S := fun x => x = r3) fa fb fun _ _ e => e) fc fun _ _ e => e
 generalize setCell (setCell (setCell h3 _ _) _ _) _ _ = h4 at *
 have F24 : Ext h2 h4 := Fr.trans f3 fac fun x hx e => by omega
 have N4 := N.ext F24
 obtain ⟨M, N1, N2, N3⟩ := N4
 refine K1077 N1.d (by have := N1.le; omega) fun r q h5 f5 lr lq I5 => ⟨_, _, _, rfl, ?_⟩
 have O1 := ((o1.ext f2).ext F24).ext f5
 have s2 := f2.size
 have s4 := F24.size
 have s5 := f5.size
 refine ⟨r1, 0, rfl, O1.stC (by simp) rfl fun oa fa => oa.stC (by simp) rfl fun ob fb => ob.stC (by simp) rfl fun oc fc => ⟨r1, 0, rfl, _, oc.cell _, _, oc.cell _, _, oc.cell _, ?_⟩⟩
 have fabc := Fr.trans (S := fun x => x = r1) (Fr.trans (S := fun x => x = r1) fa fb fun _ _ e => e) fc fun _ _ e => e
 have hv : fV b = (if neg then -(M : Int) else (M : Int)) * 2 ^ (e + 1074).toNat := by
  rw [N3]
  unfold Ieee.signed
  rw [Nat.shiftLeft_eq]
  have h1 : (2 : Int) ^ (e + 1074).toNat = ((2 ^ (e + ((1074 : Nat) : Int)).toNat : Nat) : Int) := by rw [Int.natCast_pow]; rfl
  rw [h1]
  cases neg
  ·simp only [Bool.false_eq_true, if_false, Int.natCast_mul]
  ·simp only [if_true, Int.natCast_mul, Int.neg_mul]
 have hd : val B30 (digs B30 M) = M := digs_val (by decide) _
 rw [hd] at I5
 refine H r q _ e _ (Fr.trans (Ext.trans (Ext.trans (Ext.trans f1 f2) F24) f5) fabc fun x hx e => by omega) (by omega) (by omega) (I5.fr fabc (by omega) (by omega)) (by omega) ?_ hv ?_ ?_
 ·by_cases h0 : n = 0
  ·have := (N1.zero h0).2; omega
  ·have := (N1.pos (by omega)).2; omega
 ·by_cases h0 : n = 0
  ·left
   have hl := N1.d.len
   rw [h0] at hl
   have : digs B30 M = [] := List.eq_nil_of_length_eq_zero hl
   rw [this] at hd
   have : M = 0 := by rw [<- hd]; rfl
   rw [this]; cases neg <;> rfl
  ·right
   have := (N1.pos (by omega)).1
   rw [hd] at this
   cases neg <;> simp <;> omega
 ·intro hm
  by_cases h0 : n = 0
  ·exact (N1.zero h0).2
  ·have := (N1.pos (by omega)).1
   rw [hd] at this
   cases neg <;> simp at hm <;> omega
theorem K1070s {r1 q1 r2 q2 : Nat} {e1 e2 : Int} (X : IntAt h r1 q1 1) (Y : IntAt h r2 q2 1) (h1 : 0 <= e1) (h2 : e1 <= 30) (h3 : 0 <= e2) (h4 : e2 <= 30)
  (H : ∀ r q m e h', Ext h h' -> h.size <= r -> h.size <= q -> IntAt h' r q m -> 0 <= e -> e <= 30 -> m * 2 ^ (e + 1074).toNat = 2 ^ (e1 + 1074).toNat + 2 ^ (e2 + 1074).toNat -> m ≠ 0 -> bl m.natAbs <= 64 -> R (.returned (.agg #[.pointer (some ⟨r, 0, none⟩), .int .i64 e, .bool false])) h') :
  Ent Tryz.prog B 62 #[.agg #[.pointer (some ⟨r1, 0, none⟩), .int .i64 e1, .bool false], .agg #[.pointer (some ⟨r2, 0, none⟩), .int .i64 e2, .bool false]] R h := by
 refine F1070_ok _ _ _ _ _ _ (alK fun a g1 ea fa oa za => alK fun b g2 eb fb ob zb => alK fun c g3 ec fc oc zc => ?_)
 have Oa := (oa.ext fb).ext fc
 have Ob := ob.ext fc
 have F3 := Ext.trans (Ext.trans fa fb) fc
 refine ⟨a, 0, rfl, a, 0 + 1, rfl, _, Oa.cell _, b, 0, rfl, b, 0 + 1, rfl, _, Ob.cell _, alK fun d g4 ed fd od zd => ?_⟩
 obtain ⟨e, he⟩ : ∃ e, (if e2 < e1 then e2 else e1) = e := ⟨_, rfl⟩
 have he1 : e <= e1 /\ e <= e2 /\ 0 <= e := by rw [<- he]; split <;> omega
 rw [he]
 have w1 : IntKind.u64.wrap (IntKind.i64.wrap (e1 - e)) = ((e1 - e).toNat : Int) := by rw [i64_in (by omega) (by omega), wrap_u64_in (by omega) (by omega)]; omega
 have w2 : IntKind.u64.wrap (IntKind.i64.wrap (e2 - e)) = ((e2 - e).toNat : Int) := by rw [i64_in (by omega) (by omega), wrap_u64_in (by omega) (by omega)]; omega
 have X4 := (X.ext F3).ext fd
 have Y4 := (Y.ext F3).ext fd
 have lx := X.lt
 have ly := Y.lt
 have lyq := Y.lq
 refine ⟨a, 0, rfl, a, 0, rfl, _, (Oa.ext fd).cell _, a, 0, rfl, a, 0 + 1, rfl, _, (Oa.ext fd).cell _, ?_⟩
 rw [w1]
 refine K128f od X4 (by have := F3.size; omega) (by decide) (by omega) fun q5 g5 f5 d5 I5 => ⟨_, rfl, ?_⟩
 have n5 : ∀ x, x ≠ d -> ¬ (x = d \/ False) := fun x a b => b.elim a id
 have s3 := F3.size
 have Y5 := Y4.fr f5 (n5 _ (by omega)) (n5 _ (by omega))
 have Ob5 := (Ob.ext fd).fr f5 (n5 _ (by omega))
 have oc5 := (oc.ext fd).fr f5 (n5 _ (by omega))
 refine alK fun k g6 ek fk ok zk => ⟨b, 0, rfl, b, 0, rfl, _, (Ob5.ext fk).cell _, b, 0, rfl, b, 0 + 1, rfl, _, (Ob5.ext fk).cell _, ?_⟩
 rw [w2]
 have s5 := f5.size
 refine K128f ok (Y5.ext fk) (by omega) (by decide) (by omega) fun q7 g7 f7 d7 I7 => ⟨_, rfl, ?_⟩
 have n7 : ∀ x, x ≠ k -> ¬ (x = k \/ False) := fun x a b => b.elim a id
 have l5 := I5.lq
 have hq5 : q5 = d \/ g4.size <= q5 := by rcases d5 with e | e | e; exact .inl e; exact e.elim; exact .inr e
 have hq7 : q7 = k \/ g6.size <= q7 := by rcases d7 with e | e | e; exact .inl e; exact e.elim; exact .inr e
 have I5' := (I5.ext fk).fr f7 (n7 _ (by omega)) (n7 _ (by omega))
 rw [Int.one_mul] at I5' I7
 have c1 : (2 : Int) ^ (e1 - e).toNat = ((2 ^ (e1 - e).toNat : Nat) : Int) := by rw [Int.natCast_pow]; rfl
 have c2 : (2 : Int) ^ (e2 - e).toNat = ((2 ^ (e2 - e).toNat : Nat) : Int) := by rw [Int.natCast_pow]; rfl
 rw [c1] at I5'
 rw [c2] at I7
 have b1 : 2 ^ (e1 - e).toNat <= 2 ^ 30 := Nat.pow_le_pow_right (by decide) (by omega)
 have b2 : 2 ^ (e2 - e).toNat <= 2 ^ 30 := Nat.pow_le_pow_right (by decide) (by omega)
 have p1 : 0 < 2 ^ (e1 - e).toNat := Nat.pow_pos (by decide)
 have p2 : 0 < 2 ^ (e2 - e).toNat := Nat.pow_pos (by decide)
 have e30 : (2 : Nat) ^ 30 = 1073741824 := by decide
 rw [e30] at b1 b2
 refine K127e I5' I7 (by omega) p1 p2 (by omega) (by omega) fun q8 g8 f8 d8 I8 => ⟨_, rfl, ?_⟩
 have s7 := f7.size
 have sk := fk.size
 have n8 : ∀ x, x < g3.size -> ¬ (x = d \/ Rm d q5 x) := fun x hx e => by
  rcases e with e | e
  ·omega
  ·have := e.1; omega
 have oc8 := (oc5.ext fk).fr f7 (n7 _ (by omega)) |>.fr f8 (n8 _ (by omega))
 refine ⟨c, 0, rfl, oc8.stC (by simp) rfl fun og fg => og.stC (by simp) rfl fun oh fh => oh.stC (by simp) rfl fun oi fi => ⟨c, 0, rfl, _, oi.cell _, _, oi.cell _, _, oi.cell _, ?_⟩⟩
 have fgi := Fr.trans (S := fun x => x = c) (Fr.trans (S := fun x => x = c) fg fh fun _ _ e => e) fi fun _ _ e => e
 have E : Ext h _ := Fr.trans (Fr.trans (Fr.trans (Ext.trans (Fr.trans (Ext.trans F3 fd) f5 fun x hx e => n5 x (by omega) e) fk) f7 fun x hx e => n7 x (by omega) e) f8 fun x hx e => n8 x (by omega) e) fgi fun x hx e => by omega
 have hq8 : q8 ≠ c := by
  rcases d8 with e | e | e
  ·omega
  ·have := e.1; omega
  ·omega
 have hsum : ((2 ^ (e1 - e).toNat + 2 ^ (e2 - e).toNat : Nat) : Int) * 2 ^ (e + 1074).toNat = 2 ^ (e1 + 1074).toNat + 2 ^ (e2 + 1074).toNat := by
  rw [Int.natCast_add, Int.natCast_pow, Int.natCast_pow, Int.add_mul]
  show (2 : Int) ^ (e1 - e).toNat * _ + (2 : Int) ^ (e2 - e).toNat * _ = _
  rw [<- Int.pow_add, <- Int.pow_add, show (e1 - e).toNat + (e + 1074).toNat = (e1 + 1074).toNat by omega, show (e2 - e).toNat + (e + 1074).toNat = (e2 + 1074).toNat by omega]
 have hq9 : h.size <= q8 := by
  rcases d8 with e | e | e
  ·omega
  ·have := e.1; omega
  ·omega
 refine H d q8 _ e _ E (by omega) hq9 (I8.fr fgi (by omega) hq8) (by omega) (by omega) hsum (by omega) ?_
 rw [Int.natAbs_natCast]
 exact bl_le_iff.2 (by omega)
end Go.Proofs
set_option linter.unusedVariables false
namespace Go.Proofs
open Go Go.Eng
variable {B : World} {R : Ending -> Heap -> Prop} {h : Heap}
theorem K1067t {b c : Nat} {x y : Int} (O : Own h b #[.int .i64 x, .int .i64 y]) (fx : isFin x = true) (fy : isFin y = true) (H : R (.returned (.bool true)) h) :
  Ent Tryz.prog B 59 #[.slice (some ⟨b, 0, none⟩) 2 c] R h := by
 have step : ∀ {z : Int}, isFin z = true -> ∀ {K : Prop}, K -> ((decide ((3 : Int) <= cls z)) = true -> R (.returned (.bool false)) h) /\ ((decide ((3 : Int) <= cls z)) = false -> K) := fun {z} fz {K} k => by
  have := cls_fin z
  rw [fz] at this
  have := of_decide_eq_true this
  exact ⟨fun e => absurd (of_decide_eq_true e) (by omega), fun _ => k⟩
 refine F1067_ok _ _ _ ⟨fun m vs h' => match vs with
  | [.slice p n _, .int _ nn, .int _ i] => p = some (⟨b, 0, none⟩ : Addr) /\ n = 2 /\ nn = 2 /\ h = h' /\ ∃ j : Nat, i = (j : Int) /\ j <= 2 /\ m = 2 - j
  | _ => False, 2, ⟨rfl, rfl, rfl, rfl, 0, rfl, by omega, rfl⟩, ?_⟩
 rintro m h' _ _ _ _ _ ⟨rfl, rfl, rfl, rfl, j, rfl, hj, rfl⟩ _
 refine ⟨fun e => ?_, fun _ => H⟩
 have hj2 : j < 2 := by simp at e; omega
 have : j = 0 \/ j = 1 := by omega
 rcases this with rfl | rfl
 ·refine ⟨b, 0, rfl, by decide, by decide, b, _, rfl, x, O.cell _, K17 ⟨_, rfl, step fx ⟨1, by decide, rfl, rfl, rfl, rfl, 1, rfl, by decide, rfl⟩⟩⟩
 ·refine ⟨b, 0, rfl, by decide, by decide, b, _, rfl, y, O.cell _, K17 ⟨_, rfl, step fy ⟨0, by decide, rfl, rfl, rfl, rfl, 2, rfl, by decide, rfl⟩⟩⟩
def Pw (b : Int) (e : Nat) : Prop := I64 b /\ isFin b = true /\ fV b = 2 ^ (e + 1074) /\ e <= 30
theorem Pw.val {b m ee : Int} {e : Nat} (P : Pw b e) (h1 : -1074 <= ee) (h : fV b = m * 2 ^ (ee + 1074).toNat) (ho : m = 0 \/ m.natAbs % 2 = 1) : m = 1 /\ ee = (e : Int) := by
 rw [P.2.2.1] at h
 obtain ⟨a, b⟩ := pow2_odd ho h.symm
 exact ⟨a, by omega⟩
theorem K1069s {rx ry : Nat} {a b : Int} {i j : Nat} (Ox : Own h rx #[.int .i64 a]) (Oy : Own h ry #[.int .i64 b]) (ht : TabH h) (Pa : Pw a i) (Pb : Pw b j)
  (H : ∀ r q m e h', Ext h h' -> IntAt h' r q m -> 0 <= e -> e <= 30 -> m * 2 ^ (e + 1074).toNat = fV a + fV b -> m ≠ 0 -> bl m.natAbs <= 64 -> R (.returned (.agg #[.pointer (some ⟨r, 0, none⟩), .int .i64 e, .bool false])) h') :
  Ent Tryz.prog B 61 #[.pointer (some ⟨rx, 0, none⟩), .pointer (some ⟨ry, 0, none⟩)] R h := by
 refine F1069_ok _ _ (alK fun r1 h1 e1 f1 o1 z1 => ⟨rx, 0, rfl, _, (Ox.ext f1).cell _, ry, 0, rfl, _, (Oy.ext f1).cell _, ?_⟩)
 refine K1071 (ht.fr f1 id) Pa.2.1 fun r q m e h2 f2 l2 l2q I2 ge le hv ho _ => ⟨_, _, _, rfl, same1 (Oy.ext f1) f2 id, ?_⟩
 obtain ⟨rfl, rfl⟩ := Pa.val ge hv ho
 refine K1071 ((ht.fr f1 id).fr f2 id) Pb.2.1 fun r' q' m' e' h3 f3 l3 l3q I3 ge' le' hv' ho' _ => ⟨_, _, _, rfl, ?_⟩
 obtain ⟨rfl, rfl⟩ := Pb.val ge' hv' ho'
 have pi := Pa.2.2.2
 have pj := Pb.2.2.2
 refine K1070s (I2.ext f3) I3 (by omega) (by omega) (by omega) (by omega) fun r4 q4 m4 e4 h4 f4 lr4 lq4 I4 g1 g2 hs h0 hb => ⟨_, _, _, rfl, ?_⟩
 have O1 := ((o1.ext f2).ext f3).ext f4
 have F : Ext h h4 := Ext.trans (Ext.trans (Ext.trans f1 f2) f3) f4
 have s1 := f2.size
 have s2 := f3.size
 have s4 := f4.size
 have l1 := o1.lt
 refine ⟨r1, 0, rfl, O1.stC (by simp) rfl fun oa fa => oa.stC (by simp) rfl fun ob fb => ob.stC (by simp) rfl fun oc fc => ⟨r1, 0, rfl, _, oc.cell _, _, oc.cell _, _, oc.cell _, ?_⟩⟩
 have fabc := Fr.trans (S := fun x => x = r1) (Fr.trans (S := fun x => x = r1) fa fb fun _ _ e => e) fc fun _ _ e => e
 have hval : m4 * 2 ^ (e4 + 1074).toNat = fV a + fV b := by
  rw [hs, Pa.2.2.1, Pb.2.2.1]
  congr 2 <;> congr 1 <;> omega
 exact H r4 q4 m4 e4 _ (Fr.trans F fabc fun x hx e => by omega) (I4.fr fabc (by omega) (by omega)) g1 g2 hval h0 hb
theorem K1068 {w near v : Int} {f : Nat} {c1 c2 : Value} (h0 : 0 < w) (h4 : w < 4)
  (Hf : ∀ {R' : Ending -> Heap -> Prop} h', Ext h h' -> (∀ r q m e h'', Ext h' h'' -> IntAt h'' r q m -> 0 <= e -> e <= 30 -> m * 2 ^ (e + 1074).toNat = v -> m ≠ 0 -> bl m.natAbs <= 64 -> R' (.returned (.agg #[.pointer (some ⟨r, 0, none⟩), .int .i64 e, .bool false])) h'') ->
   EntV Tryz.prog B (.func (.func f) #[] #[c1, c2]) #[] R' h')
  (H : ∀ h', Ext h h' -> R (.returned (.tuple #[.int .i64 (dirV w.toNat v (-1074)), .int .i64 (0 : Int)])) h') :
  Ent Tryz.prog B 60 #[.int .i64 w, .int .i64 near, .bool true, .func (.func f) #[] #[c1, c2]] R h := by
 refine F1068_ok _ _ _ _ (K1076 (by omega) h4 fun wv h1 f1 W1 hone => ⟨_, _, rfl, alK fun r2 h2 e2 f2 o2 z2 => ⟨r2, 0, rfl, o2.stC (by simp) hone fun oa fa => ?_⟩⟩)
 generalize setCell h2 _ _ = h3 at *
 have oa : Own h3 r2 #[wv] := oa
 have F3 : Ext h h3 := Fr.trans (Ext.trans f1 f2) fa fun x hx e => by have := f1.size; omega
 have W3 : WayV h3 w.toNat wv := W1.ext (Fr.trans f2 fa fun x hx e => by omega)
 refine ⟨nofun, fun _ => ⟨fun e => absurd (of_decide_eq_true e) (by omega), fun _ => ⟨nofun, fun _ => ?_⟩⟩⟩
 refine Hf h3 F3 fun r q m e h4 f4 I4 g1 g2 hv hm hb => ⟨_, _, _, rfl, ?_⟩
 refine alK fun r5 h5 e5 f5 o5 z5 => ⟨r5, 0, rfl, o5.stC (by simp) rfl fun oq fq => oq.stC (by simp) rfl fun or fr => or.stC (by simp) rfl fun os fs => ?_⟩
 have fqs := Fr.trans (S := fun x => x = r5) (Fr.trans (S := fun x => x = r5) fq fr fun _ _ e => e) fs fun _ _ e => e
 generalize setCell (setCell (setCell h5 _ _) _ _) _ _ = h6 at *
 have os : Own h6 r5 #[.pointer (some ⟨r, 0, none⟩), .int .i64 e, .bool false] := os
 have E46 : Ext h4 h6 := Fr.trans f5 fqs fun x hx e => by omega
 have I6 := I4.ext E46
 have O6 := (oa.ext f4).ext E46
 refine ⟨r5, 0, rfl, r5, 0, rfl, _, os.cell _, K75 I6 ⟨_, rfl, fun e1 => ?_, fun _ => ?_⟩⟩
 ·exact absurd (Int.sign_eq_zero_iff_zero.1 (of_decide_eq_true e1)) hm
 refine ⟨r5, 0, rfl, _, os.cell _, _, os.cell _, _, os.cell _, r2, 0, rfl, _, O6.cell _, ?_⟩
 refine K1057 ((W3.ext f4).ext E46) hone I6 (by omega) (by omega) (by omega) fun h7 f7 => ⟨_, _, rfl, ?_⟩
 have HH := H h7 (Ext.trans (Ext.trans (Ext.trans F3 f4) E46) f7)
 obtain ⟨d1, d2⟩ := dirV_scale w.toNat m (-1074) (e + 1074).toNat
 rw [hv, show (-1074 : Int) + ((e + 1074).toNat : Int) = e by omega] at d1
 rw [d1] at HH
 exact HH
theorem K1045s {a b w : Int} {i j : Nat} (ht : TabH h) (Pa : Pw a i) (Pb : Pw b j) (hw : w = 1 \/ w = 2) (hc : cls (addP a b) ≠ 0)
  (H : ∀ h', Ext h h' -> R (.returned (.tuple #[.int .i64 (dirV w.toNat (fV a + fV b) (-1074)), .int .i64 (0 : Int)])) h') :
  Ent Tryz.prog B 37 #[.int .i64 a, .int .i64 b, .int .i64 w] R h := by
 refine F1045_ok _ _ _ (alK fun r1 h1 e1 f1 o1 z1 => alK fun r2 h2 e2 f2 o2 z2 => ?_)
 have O1 := o1.ext f2
 have F2 := Ext.trans f1 f2
 refine ⟨r1, 0, rfl, _, O1.cell _, r2, 0, rfl, _, o2.cell _, K54 ⟨_, rfl, same1 (S := fun _ => False) o2 Fr.rfl' id, K54 ⟨_, rfl, ?_⟩⟩⟩
 refine (wi_wd Pa.1).add (wi_wd Pb.1) fun z hz => K56 hz ⟨_, rfl, ?_⟩
 rw [addP_nl, addP_nr]
 refine ⟨r1, 0, rfl, _, O1.cell _, r2, 0, rfl, _, o2.cell _, alK fun r3 h3 e3 f3 o3 z3 => K1067t o3 Pa.2.1 Pb.2.1 ⟨_, rfl, fun _ => ?_, nofun⟩⟩
 have T3 := ((ht.fr f1 id).fr f2 id).fr f3 id
 have fin : F1045_j4 B R w (some ⟨r1, 0, none⟩) (some ⟨r2, 0, none⟩) (addP a b) true false h3 := by
  refine ⟨nofun, fun _ => K1068 (v := fV a + fV b) (by omega) (by omega) (fun {R'} h4 f4 k => ?_) fun h4 f4 => ⟨_, _, rfl, H h4 (Ext.trans (Ext.trans F2 f3) f4)⟩⟩
  have : EntV Tryz.prog B (.func (.func 61) #[] #[.pointer (some ⟨r1, 0, none⟩), .pointer (some ⟨r2, 0, none⟩)]) #[] R' h4 ↔ Ent Tryz.prog B 61 #[.pointer (some ⟨r1, 0, none⟩), .pointer (some ⟨r2, 0, none⟩)] R' h4 := Iff.rfl
  rw [this]
  exact K1069s ((O1.ext f3).ext f4) ((o2.ext f3).ext f4) (T3.fr f4 id) Pa Pb k
 have j61 : F1045_j61 B R w (some ⟨r1, 0, none⟩) (some ⟨r2, 0, none⟩) (addP a b) true false h3 := ⟨nofun, fun _ => fin⟩
 rcases hw with rfl | rfl
 ·refine ⟨fun _ => K17 ⟨_, rfl, ?_⟩, fun e => absurd e (by decide)⟩
  rw [decide_eq_false hc]
  exact j61
 ·exact ⟨fun e => absurd e (by decide), fun _ => j61⟩
end Go.Proofs
