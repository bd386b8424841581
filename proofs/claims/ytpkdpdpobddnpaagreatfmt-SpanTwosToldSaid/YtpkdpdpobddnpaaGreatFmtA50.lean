import Derived.Test.YtpkdpdpobddnpaaGreatFmtA40
import Derived.Test.YtpkdpdpobddnpaaGreatFmtA23
import Derived.Test.YtpkdpdpobddnpaaGreatFmtA48
/- Here stand lemmas: plumbref3, plumbref4 and plumbref8: contracts. -/
set_option linter.unusedVariables false
set_option linter.unusedVariables false
/-! The reference's ends: infinite ones with a sign, or exact numbers, rounded outward. -/
namespace Go.Eng
open Go
def rT (w K : Nat) (i v : Int) : Int := if 0 < i then 9218868437227405312 else if i < 0 then -9218868437227405312 else rk (dirV w v (-(K : Int)))
def leE (i v j u : Int) : Prop := i < j \/ i = j /\ (i ≠ 0 \/ v <= u)
theorem rT_bd (w K : Nat) (i v : Int) : -9218868437227405312 <= rT w K i v /\ rT w K i v <= 9218868437227405312 := by
 unfold rT
 split
 ·omega
 ·split
  ·omega
  ·exact rk_bd (Go.Proofs.dirV_I64 _ _ _) (dirV_nan _ _ _)
theorem rT_mono {w K : Nat} {i v j u : Int} (hw : w = 1 \/ w = 2) (h : leE i v j u) : rT w K i v <= rT w K j u := by
 have b1 := rT_bd w K i v
 have b2 := rT_bd w K j u
 rcases h with h | ⟨h, h2⟩
 ·by_cases hi : i < 0
  ·have : rT w K i v = -9218868437227405312 := by unfold rT; rw [if_neg (by omega), if_pos hi]
   omega
  ·have : rT w K j u = 9218868437227405312 := by unfold rT; rw [if_pos (by omega)]
   omega
 ·subst h
  unfold rT
  by_cases h1 : 0 < i
  ·rw [if_pos h1, if_pos h1]; exact Int.le_refl _
  ·rw [if_neg h1, if_neg h1]
   by_cases h3 : i < 0
   ·rw [if_pos h3, if_pos h3]; exact Int.le_refl _
   ·rw [if_neg h3, if_neg h3]
    exact dirV_mono _ hw (by rcases h2 with h2 | h2 <;> omega)
def ofI (a : Int) : Int := if cls a = 3 then (if a < 0 then -1 else 1) else 0
theorem ofI_fin {a : Int} (fa : isFin a = true) : ofI a = 0 := by
 have h1 := cls_fin a
 rw [fa] at h1
 have := of_decide_eq_true h1
 unfold ofI
 rw [if_neg (by omega)]
theorem ofI_inf {a : Int} (ia : I64 a) (na : isNaN a = false) (fa : isFin a = false) : (rk a = 9218868437227405312 /\ ofI a = 1) \/ (rk a = -9218868437227405312 /\ ofI a = -1) := by
 have hi : isInf a = true := by
  rcases fin_or na with ⟨f, i⟩ | ⟨f, i⟩
  ·rw [f] at fa; cases fa
  ·exact i
 have hc := inf_cls hi
 have h0 : rk a ≠ 0 := by rcases Go.Eng.rk_inf ia na fa with h | h <;> omega
 have hl := lt0_rk ia na h0
 unfold ofI
 rw [if_pos hc]
 rcases Go.Eng.rk_inf ia na fa with h | h
 ·left
  rw [decide_eq_false (show ¬ rk a < 0 by omega)] at hl
  rw [if_neg (of_decide_eq_false hl)]
  exact ⟨h, rfl⟩
 ·right
  rw [decide_eq_true (show rk a < 0 by omega)] at hl
  rw [if_pos (of_decide_eq_true hl)]
  exact ⟨h, rfl⟩
theorem rT_of {w : Nat} {a : Int} (hw : w = 1 \/ w = 2) (ia : I64 a) (na : isNaN a = false) : rT w 1074 (ofI a) (fW a) = rk a := by
 cases fa : isFin a
 ·rcases ofI_inf ia na fa with ⟨h, e⟩ | ⟨h, e⟩
  ·rw [e, h]; rfl
  ·rw [e, h]; rfl
 ·rw [ofI_fin fa]
  unfold rT fW
  rw [if_neg (by omega), if_neg (by omega), if_pos fa]
  exact rk_self hw ia fa
theorem leE_of {a b : Int} (ia : I64 a) (ib : I64 b) (na : isNaN a = false) (nb : isNaN b = false) : leE (ofI a) (fW a) (ofI b) (fW b) ↔ rk a <= rk b := by
 unfold leE
 cases fa : isFin a
 ·cases fb : isFin b
  ·rcases ofI_inf ia na fa with ⟨h, e⟩ | ⟨h, e⟩ <;> rcases ofI_inf ib nb fb with ⟨h', e'⟩ | ⟨h', e'⟩ <;> rw [e, e', h, h'] <;> omega
  ·have lb := fin_rk ib fb
   rw [ofI_fin fb]
   rcases ofI_inf ia na fa with ⟨h, e⟩ | ⟨h, e⟩ <;> rw [e] <;> omega
 ·have la := fin_rk ia fa
  rw [ofI_fin fa]
  cases fb : isFin b
  ·rcases ofI_inf ib nb fb with ⟨h, e⟩ | ⟨h, e⟩ <;> rw [e] <;> omega
  ·obtain ⟨h1, h2⟩ := fV_rk ia ib fa fb
   rw [ofI_fin fb]
   unfold fW
   rw [if_pos fa, if_pos fb]
   omega
def sgE (i v : Int) : Int := if i ≠ 0 then i else v.sign
theorem sgE_of {a : Int} (ia : I64 a) (na : isNaN a = false) : sgE (ofI a) (fW a) = (rk a).sign := by
 unfold sgE
 cases fa : isFin a
 ·rcases ofI_inf ia na fa with ⟨h, e⟩ | ⟨h, e⟩ <;> rw [e, h] <;> rfl
 ·obtain ⟨s1, s2, s3⟩ := sgn_rk ia fa
  rw [ofI_fin fa]
  unfold fW
  rw [if_neg (by omega), if_pos fa]
  rcases Int.lt_trichotomy (rk a) 0 with h | h | h
  ·rw [Int.sign_eq_neg_one_of_neg (s2.2 h), Int.sign_eq_neg_one_of_neg h]
  ·rw [s3.2 h, h]
  ·rw [Int.sign_eq_one_of_pos (s1.2 h), Int.sign_eq_one_of_pos h]
end Go.Eng
namespace Go.Proofs
open Go Go.Eng
def plI (i j : Int) : Int := if i ≠ 0 then i else j
def plV (i v j u : Int) : Int := if i ≠ 0 then v else if j ≠ 0 then u else v + u
theorem rT_plus {w : Nat} {a c : Int} (hw : w = 1 \/ w = 2) (ia : I64 a) (ic : I64 c) (na : isNaN a = false) (nc : isNaN c = false)
  (hs : (rk a < 9218868437227405312 /\ rk c < 9218868437227405312) \/ (-9218868437227405312 < rk a /\ -9218868437227405312 < rk c)) :
  rT w 1074 (plI (ofI a) (ofI c)) (plV (ofI a) (fW a) (ofI c) (fW c)) = rk (addW w a c) /\ isNaN (addW w a c) = false := by
 cases fa : isFin a
 ·have ha := addW_inf (w := w) ia ic na nc (.inl fa)
  rcases ofI_inf ia na fa with ⟨h, e⟩ | ⟨h, e⟩
  ·have := ha.2 (by omega) (by omega)
   rw [this.1, e]; exact ⟨rfl, this.2⟩
  ·have := ha.1 (by omega) (by omega)
   rw [this.1, e]; exact ⟨rfl, this.2⟩
 ·have la := fin_rk ia fa
  rw [ofI_fin fa]
  cases fc : isFin c
  ·have ha := addW_inf (w := w) ia ic na nc (.inr fc)
   rcases ofI_inf ic nc fc with ⟨h, e⟩ | ⟨h, e⟩
   ·have := ha.2 (by omega) (by omega)
    rw [this.1, e]; exact ⟨rfl, this.2⟩
   ·have := ha.1 (by omega) (by omega)
    rw [this.1, e]; exact ⟨rfl, this.2⟩
  ·rw [ofI_fin fc, addW_fin (by omega) fa fc]
   refine ⟨?_, addW_nn fa fc⟩
   unfold plI plV rT fW
   rw [if_pos fa, if_pos fc]
   rfl
def tmI (i v j u : Int) : Int := if sgE i v * sgE j u = 0 then 0 else if i ≠ 0 \/ j ≠ 0 then sgE i v * sgE j u else 0
def tmV (i v j u : Int) : Int := if sgE i v * sgE j u = 0 then 0 else if i ≠ 0 \/ j ≠ 0 then 0 else v * u
theorem rT_times {w : Nat} {a c : Int} (hw : w = 1 \/ w = 2) (ia : I64 a) (ic : I64 c) (na : isNaN a = false) (nc : isNaN c = false) :
  rT w 2148 (tmI (ofI a) (fW a) (ofI c) (fW c)) (tmV (ofI a) (fW a) (ofI c) (fW c)) = rk (timW w a c) := by
 unfold tmI tmV
 rw [sgE_of ia na, sgE_of ic nc]
 have hz := @tim_zero w a c ia ic na nc
 by_cases h0 : (rk a).sign * (rk c).sign = 0
 ·rw [if_pos h0, if_pos h0]
  have : rk a = 0 \/ rk c = 0 := by
   rcases Int.mul_eq_zero.1 h0 with h | h
   ·exact .inl (Int.sign_eq_zero_iff_zero.1 h)
   ·exact .inr (Int.sign_eq_zero_iff_zero.1 h)
  rw [hz this]
  unfold rT
  rw [if_neg (by omega), if_neg (by omega), dirV_zero]; rfl
 ·rw [if_neg h0, if_neg h0]
  by_cases hf : isFin a = true /\ isFin c = true
  ·rw [ofI_fin hf.1, ofI_fin hf.2, if_neg (by omega), if_neg (by omega), tim_fin (by omega) ia ic hf.1 hf.2]
   unfold rT fW
   rw [if_pos hf.1, if_pos hf.2]
   rfl
  ·have hf' : isFin a = false \/ isFin c = false := by
    cases h : isFin a
    ·exact .inl rfl
    ·cases h2 : isFin c
     ·exact .inr rfl
     ·exact absurd ⟨h, h2⟩ hf
   have hi : ofI a ≠ 0 \/ ofI c ≠ 0 := by
    rcases hf' with h | h
    ·rcases ofI_inf ia na h with ⟨_, e⟩ | ⟨_, e⟩ <;> (left; rw [e]; decide)
    ·rcases ofI_inf ic nc h with ⟨_, e⟩ | ⟨_, e⟩ <;> (right; rw [e]; decide)
   rw [if_pos hi]
   have t := @tim_inf w a c ia ic na nc hf'
   rcases Int.lt_trichotomy (rk a) 0 with h | h | h
   ·rcases Int.lt_trichotomy (rk c) 0 with h' | h' | h'
    ·rw [Int.sign_eq_neg_one_of_neg h, Int.sign_eq_neg_one_of_neg h', t.2.1 h h']; rfl
    ·rw [h'] at h0; simp at h0
    ·rw [Int.sign_eq_neg_one_of_neg h, Int.sign_eq_one_of_pos h', t.2.2.2 h h']; rfl
   ·rw [h] at h0; simp at h0
   ·rcases Int.lt_trichotomy (rk c) 0 with h' | h' | h'
    ·rw [Int.sign_eq_one_of_pos h, Int.sign_eq_neg_one_of_neg h', t.2.2.1 h h']; rfl
    ·rw [h'] at h0; simp at h0
    ·rw [Int.sign_eq_one_of_pos h, Int.sign_eq_one_of_pos h', t.1 h h']; rfl
end Go.Proofs
set_option linter.unusedVariables false
namespace Go.Eng
open Go
theorem sameN {h h' : Heap} {b o : Nat} {cs : Array Value} {S : Nat -> Prop} (H : Own h b cs) (f : Fr S h h') (hb : ¬ S b) : ∀ n, sameCells h h' b o n := by
 have h1 := H.fr f hb
 have e : ∀ k, cell? h' ⟨b, k, none⟩ = cell? h ⟨b, k, none⟩ := fun k => by rw [H.cell, h1.cell]
 intro n
 induction n with
 | zero => trivial
 | succ n ih =>
  cases n with
  | zero => exact e o
  | succ n => exact ⟨ih, e _⟩
end Go.Eng
namespace Go.Proofs
open Go Go.Eng
variable {B : World} {R : Ending -> Heap -> Prop} {h : Heap}
theorem NumS.off {K : Nat} {h' : Heap} {neg : Bool} {p : Option Addr} {n r : Nat} {e v : Int} {cs : Array Value} (N : NumS K h neg p n e v) (O : Own h r cs) (hcs : ∀ (i : Nat) (x : Int), cs[i]? = some (Value.int .i64 x) -> x % 2 = 0) (f : Fr (fun x => x = r) h h') : NumS K h' neg p n e v := by
 obtain ⟨M, I, a, b⟩ := N
 refine ⟨M, ⟨⟨I.d.pt, ?_, I.d.len, I.d.dig, I.d.trim⟩, I.le, I.zero, I.pos⟩, a, b⟩
 rcases I.d.sl with hnil | ⟨b0, o, cs0, hp, O0, hc⟩
 ·exact .inl hnil
 ·by_cases hb : b0 = r
  ·subst hb
   have hcc := O.inj O0
   subst hcc
   by_cases hl : 0 < (digs B30 M).length
   ·exfalso
    have h1 := hc 0 hl
    have h2 := (I.pos (by have := I.d.len; omega)).1
    rw [val_mod2 hl] at h2
    have h3 := hcs _ _ h1
    omega
   ·exact .inl (List.eq_nil_of_length_eq_zero (by omega))
  ·exact .inr ⟨b0, o, cs0, hp, O0.fr f hb, hc⟩
theorem zero4 : ∀ (i : Nat) (x : Int), (#[.int .i64 (0 : Int), .bool false, .slice none 0 0, .int .i64 (0 : Int)] : Array Value)[i]? = some (Value.int .i64 x) -> x % 2 = 0 := by
 intro i x hx
 match i with
 | 0 => simp at hx; omega
 | 1 => simp at hx
 | 2 => simp at hx
 | 3 => simp at hx; omega
 | n + 4 => simp at hx
theorem zero3 : ∀ (i : Nat) (x : Int), (#[.bool false, .slice none 0 0, .int .i64 (0 : Int)] : Array Value)[i]? = some (Value.int .i64 x) -> x % 2 = 0 := by
 intro i x hx
 match i with
 | 0 => simp at hx
 | 1 => simp at hx
 | 2 => simp at hx; omega
 | n + 3 => simp at hx
theorem wr4 {r n c : Nat} {i e : Int} {neg : Bool} {p : Option Addr} {x0 x1 x2 x3 : Value} {K : Heap -> Prop} (O : Own h r #[x0, x1, x2, x3]) (k : ∀ h', Fr (fun x => x = r) h h' -> Own h' r #[.int .i64 i, .bool neg, .slice p n c, .int .i64 e] -> K h') :
  isP (some ⟨r, 0, none⟩) fun b o => stC h b o (.int .i64 i) fun h1 => stC h1 b (o + 1) (.bool neg) fun h2 => stC h2 b (o + 1 + 1) (.slice p n c) fun h3 => stC h3 b (o + 1 + 1 + 1) (.int .i64 e) fun h4 => K h4 := by
 refine ⟨r, 0, rfl, O.stC (by simp) rfl fun oa fa => oa.stC (by simp) rfl fun ob fb => ob.stC (by simp) rfl fun oc fc => oc.stC (by simp) rfl fun od fd => ?_⟩
 have fad := Fr.trans (S := fun x => x = r) (Fr.trans (S := fun x => x = r) fa fb fun _ _ e => e) (Fr.trans (S := fun x => x = r) fc fd fun _ _ e => e) fun _ _ e => e
 exact k _ fad od
theorem enK {n c : Nat} {i e : Int} {neg : Bool} {p : Option Addr} {t : TypeId} {K : Nat -> Heap -> Prop} (k : ∀ r h', h.size <= r -> Ext h h' -> Own h' r #[.int .i64 i, .bool neg, .slice p n c, .int .i64 e] -> K r h') :
  alW h (.cells #[.int .i64 0, .bool false, .slice none 0 0, .int .i64 0] t) fun r h0 => iP r 0 fun b o => stC h0 b o (.int .i64 i) fun h1 => stC h1 b (o + 1) (.bool neg) fun h2 => stC h2 b (o + 1 + 1) (.slice p n c) fun h3 => stC h3 b (o + 1 + 1 + 1) (.int .i64 e) fun h4 => K r h4 := by
 refine alK fun r1 h1 e1 f1 o1 z1 => wr4 o1 fun h2 f2 o2 => ?_
 exact k r1 _ (by omega) (Fr.trans f1 f2 fun x hx e => by omega) o2
theorem ret4 {r n c : Nat} {i e : Int} {neg : Bool} {p : Option Addr} {x0 x1 x2 x3 : Value} (O : Own h r #[x0, x1, x2, x3]) (H : ∀ h', Fr (fun x => x = r) h h' -> R (.returned (.agg #[.int .i64 i, .bool neg, .slice p n c, .int .i64 e])) h') :
  isP (some ⟨r, 0, none⟩) fun b o => stC h b o (.int .i64 i) fun h1 => stC h1 b (o + 1) (.bool neg) fun h2 => stC h2 b (o + 1 + 1) (.slice p n c) fun h3 => stC h3 b (o + 1 + 1 + 1) (.int .i64 e) fun h4 =>
   isP (some ⟨r, 0, none⟩) fun b o => ∃ x, cI h4 b o .i64 x /\ ∃ y, cell? h4 ⟨b, o + 1, none⟩ = some (.bool y) /\ ∃ z zn zc, cell? h4 ⟨b, o + 1 + 1, none⟩ = some (.slice z zn zc) /\ ∃ w, cell? h4 ⟨b, o + 1 + 1 + 1, none⟩ = some (.int .i64 w) /\
    R (.returned (.agg #[.int .i64 x, .bool y, .slice z zn zc, .int .i64 w])) h4 :=
 wr4 O fun h' f o => ⟨r, 0, rfl, _, o.cell _, _, o.cell _, _, _, _, o.cell _, _, o.cell _, H h' f⟩
theorem ret2 {r : Nat} {x y : Int} {x0 x1 : Value} (O : Own h r #[x0, x1]) (H : ∀ h', Fr (fun x => x = r) h h' -> R (.returned (.agg #[.int .i64 x, .int .i64 y])) h') :
  isP (some ⟨r, 0, none⟩) fun b o => stC h b o (.int .i64 x) fun h1 => stC h1 b (o + 1) (.int .i64 y) fun h2 =>
   isP (some ⟨r, 0, none⟩) fun b o => ∃ u, cI h2 b o .i64 u /\ ∃ w, cell? h2 ⟨b, o + 1, none⟩ = some (.int .i64 w) /\ R (.returned (.agg #[.int .i64 u, .int .i64 w])) h2 := by
 refine ⟨r, 0, rfl, O.stC (by simp) rfl fun oa fa => oa.stC (by simp) rfl fun ob fb => ⟨r, 0, rfl, _, ob.cell _, _, ob.cell _, ?_⟩⟩
 have fab := Fr.trans (S := fun x => x = r) fa fb fun _ _ e => e
 exact H _ fab
theorem dirV_M {K w M : Nat} {e v : Int} {neg : Bool} (hM : M ≠ 0) (he : 0 <= e + (K : Int)) (hv : v = Ieee.signed neg M (e + (K : Int)).toNat) : dirV w v (-(K : Int)) = pat neg (dirP w neg M e) /\ inxV v (-(K : Int)) = inx w neg M e := by
 have h0 : v ≠ 0 := by rw [hv]; exact signed_ne hM
 have h2 : decide (v < 0) = neg := by rw [hv]; exact signed_neg hM
 have h1 : v.natAbs = M * 2 ^ (e + (K : Int)).toNat := by rw [hv, signed_abs]
 unfold dirV inxV
 rw [if_neg h0, if_neg h0, h2, h1, dirP_scale _ _ _ _ hM, (near_scale _ _ hM).2, show -(K : Int) + ((e + (K : Int)).toNat : Int) = e by omega, inx_near]
 exact ⟨rfl, rfl⟩
theorem cutW {K w : Nat} {xneg : Bool} {p : Option Addr} {n c : Nat} {e v : Int} (hw : w <= 3) (N : NumS K h xneg p n e v) (H : ∀ h', Ext h h' -> R (.returned (.tuple #[.int .i64 (dirV w v (-(K : Int))), .bool (inxV v (-(K : Int)))])) h') :
  Ent Tryz.prog B 133 #[K64V, .bool xneg, .slice p n c, .int .i64 e, .bool false, .int .i64 (w : Int)] R h := by
 obtain ⟨M, I, a1, a2⟩ := N
 have len := I.d.len
 by_cases hM : M = 0
 ·subst hM
  have hv : v = 0 := by rw [a2]; unfold Ieee.signed; simp
  have hn : n = 0 := by rw [digs_zero] at len; simp at len; omega
  obtain ⟨z1, z2⟩ := I.zero hn
  subst z1
  refine F237_ok _ _ _ _ _ _ _ _ _ _ _ _ (alK fun r h12 e11 f11 o11 z11 => ⟨nofun, fun _ => ?_⟩)
  have HH := H h12 f11
  rw [hv, dirV_zero] at HH
  unfold inxV at HH
  rw [if_pos rfl] at HH
  refine K253 (I.d.ext f11) (by omega) ⟨_, rfl, fun e0 => ⟨fun _ => HH, nofun⟩, fun e0 => ?_⟩
  rw [digs_zero] at e0
  exact absurd e0 (by decide)
 ·have hn : 0 < n := by rw [<- len, digs_ne (by decide) hM]; simp
  obtain ⟨p1, p2, p3⟩ := I.pos hn
  have le := I.le
  obtain ⟨d1, d2⟩ := dirV_M (w := w) hM a1 a2
  rw [d1, d2] at H
  exact K237w hw I.d (by omega) (by omega) (by omega) (by omega) H
theorem K1113 {b : Int} {od : Bool} (H : ∀ h', Ext h h' -> R (.returned (.tuple #[.int .i64 (pz b), .bool od])) h') : Ent Tryz.prog B 132 #[K64V, .int .i64 b, .bool od] R h := by
 refine F1113_ok _ _ _ _ _ _ _ (alK fun r1 h1 e1 f1 o1 z1 => ⟨r1, 0, rfl, r1, 0 + 4, rfl, _, o1.cell _, fun e => ?_, fun e => ?_⟩)
 ·have HH := H h1 f1
  unfold pz at HH
  rw [if_pos (of_decide_eq_true e)] at HH
  exact HH
 ·have HH := H h1 f1
  unfold pz at HH
  rw [if_neg (of_decide_eq_false e)] at HH
  exact HH
theorem K1103 {K w : Nat} {neg : Bool} {p : Option Addr} {n c : Nat} {e v : Int} (hw : w <= 3) (N : NumS K h neg p n e v) (H : ∀ h', Ext h h' -> R (.returned (.tuple #[.int .i64 (pz (dirV w v (-(K : Int)))), .bool (inxV v (-(K : Int)))])) h') :
  Ent Tryz.prog B 97 #[K64V, .agg #[.bool neg, .slice p n c, .int .i64 e], .int .i64 (w : Int)] R h := by
 refine F1103_ok _ _ _ _ _ _ _ _ _ _ _ (alK fun r1 h1 e1 f1 o1 z1 => alK fun r2 h2 e2 f2 o2 z2 => ?_)
 have O1 := o1.ext f2
 refine ⟨r1, 0, rfl, _, O1.cell _, _, O1.cell _, _, O1.cell _, _, O1.cell _, _, O1.cell _, r1, 0, rfl, _, O1.cell _, _, O1.cell _, _, O1.cell _, _, O1.cell _, _, O1.cell _,
  r2, 0, rfl, r2, 0, rfl, _, o2.cell _, r2, 0, rfl, r2, 0 + 1, rfl, _, _, _, o2.cell _, r2, 0, rfl, r2, 0 + 2, rfl, _, o2.cell _, ?_⟩
 refine cutW hw (N.ext (Ext.trans f1 f2)) fun h3 f3 => ⟨_, _, rfl, sameN O1 f3 id 5, K1113 fun h4 f4 => ⟨_, _, rfl, H h4 (Ext.trans (Ext.trans (Ext.trans f1 f2) f3) f4)⟩⟩
theorem K1102 {K : Nat} {neg neg2 : Bool} {p p2 : Option Addr} {n n2 c c2 : Nat} {e e2 v w : Int} (N1 : NumS K h neg p n e v) (N2 : NumS K h neg2 p2 n2 e2 w) (hK : K <= 1048576) (hv : bl v.natAbs <= 50000) (hw : bl w.natAbs <= 50000)
  (H : ∀ neg' p' n' c' e' h', Ext h h' -> NumS K h' neg' p' n' e' (v - w) -> R (.returned (.agg #[.bool neg', .slice p' n' c', .int .i64 e'])) h') :
  Ent Tryz.prog B 93 #[.agg #[.bool neg, .slice p n c, .int .i64 e], .agg #[.bool neg2, .slice p2 n2 c2, .int .i64 e2]] R h := by
 refine F1102_ok _ _ _ _ _ _ _ _ _ _ (alK fun r1 h1 e1 f1 o1 z1 => alK fun r2 h2 e2 f2 o2 z2 => alK fun r3 h3 e3 f3 o3 z3 => ?_)
 have O1 := (o1.ext f2).ext f3
 have O2 := o2.ext f3
 have F := Ext.trans (Ext.trans f1 f2) f3
 refine ⟨r1, 0, rfl, _, O1.cell _, _, _, _, O1.cell _, _, O1.cell _, r2, 0, rfl, _, O2.cell _, _, _, _, O2.cell _, _, O2.cell _, ?_⟩
 refine K213 (N2.ext F) fun neg' h4 f4 N2' => ⟨_, _, _, _, _, rfl, sameN O1 f4 id 3, ?_⟩
 refine K133 ((N1.ext F).ext f4) N2' hK hv (by rw [Int.natAbs_neg]; exact hw) fun neg'' p' n' c' e' h5 f5 N => ⟨_, _, _, _, _, rfl, ?_⟩
 have O3 := (o3.ext f4).ext f5
 rw [<- Int.sub_eq_add_neg] at N
 refine ret3 O3 fun h6 f6 => ?_
 exact H neg'' p' n' c' e' h6 (Fr.trans (Ext.trans (Ext.trans F f4) f5) f6 fun x hx e => by have := f1.size; have := f2.size; omega) (N.off O3 zero3 f6)
theorem K1090 {K : Nat} {neg : Bool} {p : Option Addr} {n c : Nat} {e v : Int} (N : NumS K h neg p n e v) (H : ∀ h', Ext h h' -> R (.returned (.int .i64 v.sign)) h') :
  Ent Tryz.prog B 83 #[.agg #[.bool neg, .slice p n c, .int .i64 e]] R h := by
 have hz := N.zero_iff
 refine F1090_ok _ _ _ _ _ (alK fun r1 h1 e1 f1 o1 z1 => ⟨r1, 0, rfl, r1, 0 + 1, rfl, _, _, _, o1.cell _, fun e0 => ?_, fun e0 => ⟨r1, 0, rfl, r1, 0, rfl, _, o1.cell _, fun e1 => ?_, fun e1 => ?_⟩⟩)
 ·have HH := H h1 f1
  rw [hz] at e0
  rw [of_decide_eq_true e0] at HH
  exact HH
 all_goals
  have HH := H h1 f1
  rw [hz] at e0
  have h0 := of_decide_eq_false e0
  obtain ⟨M, I, a1, a2⟩ := N
  have hM : M ≠ 0 := fun k => h0 (by rw [a2, k]; unfold Ieee.signed; simp)
  have hs : decide (v < 0) = neg := by rw [a2]; exact signed_neg hM
  rw [e1] at hs
 ·rw [Int.sign_eq_neg_one_of_neg (of_decide_eq_true hs)] at HH; exact HH
 ·rw [Int.sign_eq_one_of_pos (by have := of_decide_eq_false hs; omega)] at HH; exact HH
theorem K1085 {K : Nat} {neg neg2 : Bool} {p p2 : Option Addr} {n n2 c c2 : Nat} {e e2 v w : Int} (N1 : NumS K h neg p n e v) (N2 : NumS K h neg2 p2 n2 e2 w) (hK : K <= 1048576) (hv : bl v.natAbs <= 50000) (hw : bl w.natAbs <= 50000)
  (H : ∀ h', Ext h h' -> R (.returned (.int .i64 (v - w).sign)) h') :
  Ent Tryz.prog B 69 #[.agg #[.bool neg, .slice p n c, .int .i64 e], .agg #[.bool neg2, .slice p2 n2 c2, .int .i64 e2]] R h := by
 refine F1085_ok _ _ _ _ _ _ _ _ _ _ (alK fun r1 h1 e1 f1 o1 z1 => alK fun r2 h2 e2 f2 o2 z2 => ?_)
 have O1 := o1.ext f2
 have F := Ext.trans f1 f2
 refine ⟨r1, 0, rfl, _, O1.cell _, _, _, _, O1.cell _, _, O1.cell _, r2, 0, rfl, _, o2.cell _, _, _, _, o2.cell _, _, o2.cell _, ?_⟩
 refine K1102 (N1.ext F) (N2.ext F) hK hv hw fun neg' p' n' c' e' h3 f3 N => ⟨_, _, _, _, _, rfl, K1090 N fun h4 f4 => ⟨_, rfl, H h4 (Ext.trans (Ext.trans F f3) f4)⟩⟩
theorem K1060 {a : Int} (ia : I64 a) (na : isNaN a = false) (H : ∀ neg p n c e h', Ext h h' -> NumS 1074 h' neg p n e (fW a) -> R (.returned (.agg #[.int .i64 (ofI a), .bool neg, .slice p n c, .int .i64 e])) h') :
  Ent Tryz.prog B 41 #[.int .i64 a] R h := by
 refine F1060_ok _ (alK fun r1 h1 e1 f1 o1 z1 => K84 ia ⟨_, rfl, fun e => ?_, fun e => ?_⟩)
 ·have hc := of_decide_eq_true e
  have hf : isFin a = false := by
   rw [<- cls_fin a, hc]; rfl
  have hw : fW a = 0 := by unfold fW; rw [hf]; rfl
  rw [hw] at H
  unfold ofI at H
  rw [if_pos hc] at H
  refine ⟨fun e2 => ret4 o1 fun h2 f2 => ?_, fun e2 => ret4 o1 fun h2 f2 => ?_⟩
  ·rw [if_pos (of_decide_eq_true e2)] at H
   exact H false none 0 0 0 h2 (Fr.trans f1 f2 fun x hx e => by omega) (numS_zero _ _)
  ·rw [if_neg (of_decide_eq_false e2)] at H
   exact H false none 0 0 0 h2 (Fr.trans f1 f2 fun x hx e => by omega) (numS_zero _ _)
 ·have hc := of_decide_eq_false e
  have hf : isFin a = true := by
   rcases fin_or na with ⟨f, i⟩ | ⟨f, i⟩
   ·exact f
   ·exact absurd (inf_cls i) hc
  have hw : fW a = fV a := by unfold fW; rw [if_pos hf]
  rw [hw, ofI_fin hf] at H
  refine K114 ia hf fun neg p n c ex h2 f2 fr N => ⟨_, _, _, _, _, rfl, ret4 (o1.ext f2) fun h3 f3 => ?_⟩
  exact H neg p n c ex h3 (Fr.trans (Ext.trans f1 f2) f3 fun x hx e => by omega) (N.off (o1.ext f2) zero4 f3)
def ordE (i v j u : Int) : Int := if i = j then (if i = 0 then (v - u).sign else 0) else if i < j then -1 else 1
theorem ordE_le {i v j u : Int} : ordE i v j u <= 0 ↔ leE i v j u := by
 unfold ordE leE
 by_cases h1 : i = j
 ·rw [if_pos h1]
  by_cases h2 : i = 0
  ·rw [if_pos h2]
   rcases Int.lt_trichotomy (v - u) 0 with h | h | h
   ·rw [Int.sign_eq_neg_one_of_neg h]; omega
   ·rw [h]; simp; omega
   ·rw [Int.sign_eq_one_of_pos h]; omega
  ·rw [if_neg h2]; omega
 ·rw [if_neg h1]
  split <;> omega
theorem ordE_neg {i v j u : Int} : ordE j u i v = -ordE i v j u := by
 unfold ordE
 by_cases h1 : i = j
 ·rw [if_pos h1, if_pos h1.symm]
  by_cases h2 : i = 0
  ·rw [if_pos h2, if_pos (by omega), show u - v = -(v - u) by omega, Int.sign_neg]
  ·rw [if_neg h2, if_neg (by omega)]; rfl
 ·rw [if_neg h1, if_neg (fun k => h1 k.symm)]
  by_cases h2 : i < j
  ·rw [if_pos h2, if_neg (by omega)]; rfl
  ·rw [if_neg h2, if_pos (by omega)]
theorem K1061 {K : Nat} {neg neg2 : Bool} {p p2 : Option Addr} {n n2 c c2 : Nat} {e e2 i v j u : Int} (N1 : NumS K h neg p n e v) (N2 : NumS K h neg2 p2 n2 e2 u) (hK : K <= 1048576) (hv : bl v.natAbs <= 50000) (hu : bl u.natAbs <= 50000)
  (H : ∀ h', Ext h h' -> R (.returned (.int .i64 (ordE i v j u))) h') :
  Ent Tryz.prog B 42 #[.agg #[.int .i64 i, .bool neg, .slice p n c, .int .i64 e], .agg #[.int .i64 j, .bool neg2, .slice p2 n2 c2, .int .i64 e2]] R h := by
 refine F1061_ok _ _ _ _ _ _ _ _ _ _ _ _ (alK fun r1 h1 e1 f1 o1 z1 => alK fun r2 h2 e2 f2 o2 z2 => ?_)
 have O1 := o1.ext f2
 have F := Ext.trans f1 f2
 have HH := H h2 F
 unfold ordE at HH
 refine ⟨r1, 0, rfl, r1, 0, rfl, _, O1.cell _, r2, 0, rfl, r2, 0, rfl, _, o2.cell _, fun e => ⟨r1, 0, rfl, r1, 0, rfl, _, O1.cell _, r2, 0, rfl, r2, 0, rfl, _, o2.cell _, fun e3 => ?_, fun e3 => ?_⟩, fun e => ⟨r1, 0, rfl, r1, 0, rfl, _, O1.cell _, fun e3 => ?_, fun e3 => ?_⟩⟩
 ·have h1 : ¬ i = j := by simpa using e
  rw [if_neg h1, if_pos (of_decide_eq_true e3)] at HH
  exact HH
 ·have h1 : ¬ i = j := by simpa using e
  rw [if_neg h1, if_neg (of_decide_eq_false e3)] at HH
  exact HH
 ·have h1 : i = j := by simpa using e
  have h2 : ¬ i = 0 := by simpa using e3
  rw [if_pos h1, if_neg h2] at HH
  exact HH
 ·have h1 : i = j := by simpa using e
  have h2 : i = 0 := by simpa using e3
  refine ⟨r1, 0, rfl, r1, 0 + 1, rfl, _, O1.cell _, _, _, _, O1.cell _, _, O1.cell _, r2, 0, rfl, r2, 0 + 1, rfl, _, o2.cell _, _, _, _, o2.cell _, _, o2.cell _, ?_⟩
  refine K1085 (N1.ext F) (N2.ext F) hK hv hu fun h3 f3 => ⟨_, rfl, ?_⟩
  have HH := H h3 (Ext.trans F f3)
  unfold ordE at HH
  rw [if_pos h1, if_pos h2] at HH
  exact HH
end Go.Proofs
set_option linter.unusedVariables false
namespace Go.Proofs
open Go Go.Eng
variable {B : World} {R : Ending -> Heap -> Prop} {h : Heap}
theorem pz_nz (a : Int) : pz a ≠ -9223372036854775808 := by
 unfold pz
 split
 ·omega
 ·assumption
theorem K1086 {K w : Nat} {neg : Bool} {p : Option Addr} {n c : Nat} {e i v : Int} (hw : w <= 3) (N : NumS K h neg p n e v)
  (H : ∀ b h', Ext h h' -> I64 b -> isNaN b = false -> b ≠ -9223372036854775808 -> rk b = rT w K i v -> R (.returned (.int .i64 b)) h') :
  Ent Tryz.prog B 72 #[.agg #[.int .i64 i, .bool neg, .slice p n c, .int .i64 e], .int .i64 (w : Int)] R h := by
 refine F1086_ok _ _ _ _ _ _ _ (alK fun r1 h1 e1 f1 o1 z1 => ⟨r1, 0, rfl, r1, 0, rfl, _, o1.cell _, fun e => K186 fun h2 f2 => ⟨_, _, _, _, _, rfl, ?_⟩, fun e => ⟨r1, 0, rfl, r1, 0, rfl, _, o1.cell _, fun e2 => K186 fun h2 f2 => ⟨_, _, _, _, _, rfl, K186 fun h3 f3 => ⟨_, _, _, _, _, rfl, ?_⟩⟩, fun e2 => ?_⟩⟩)
 ·refine H _ h2 (Ext.trans f1 f2) (by unfold I64; omega) (by decide +kernel) (by omega) ?_
  unfold rT
  rw [if_pos (of_decide_eq_true e)]; rfl
 ·rw [show IntKind.i64.wrap ((9218868437227405312 : Int) + (-9223372036854775808 : Int)) = -4503599627370496 by decide]
  refine H _ h3 (Ext.trans (Ext.trans f1 f2) f3) (by unfold I64; omega) ninf_rk.2 (by omega) ?_
  unfold rT
  rw [if_neg (of_decide_eq_false e), if_pos (of_decide_eq_true e2)]; exact ninf_rk.1
 ·refine ⟨r1, 0, rfl, r1, 0 + 1, rfl, _, o1.cell _, _, _, _, o1.cell _, _, o1.cell _, K186 fun h2 f2 => ⟨_, _, _, _, _, rfl, sameN o1 f2 id 3, ?_⟩⟩
  refine K1103 hw ((N.ext f1).ext f2) fun h3 f3 => ⟨_, _, rfl, ?_⟩
  refine H _ h3 (Ext.trans (Ext.trans f1 f2) f3) (pz_I64 (dirV_I64 _ _ _)) (nan_pz (dirV_nan _ _ _)) (pz_nz _) ?_
  unfold rT
  rw [if_neg (of_decide_eq_false e), if_neg (of_decide_eq_false e2), rk_pz]
theorem K1063 {K : Nat} {neg neg2 : Bool} {p p2 : Option Addr} {n c n2 c2 : Nat} {e e2 i v j u : Int} (N1 : NumS K h neg p n e v) (N2 : NumS K h neg2 p2 n2 e2 u)
  (H : ∀ x y h', Ext h h' -> I64 x -> I64 y -> isNaN x = false -> isNaN y = false -> x ≠ -9223372036854775808 -> y ≠ -9223372036854775808 -> rk x = rT 1 K i v -> rk y = rT 2 K j u -> R (.returned (.agg #[.int .i64 x, .int .i64 y])) h') :
  Ent Tryz.prog B 47 #[.agg #[.int .i64 i, .bool neg, .slice p n c, .int .i64 e], .agg #[.int .i64 j, .bool neg2, .slice p2 n2 c2, .int .i64 e2]] R h := by
 refine F1063_ok _ _ _ _ _ _ _ _ _ _ _ _ (alK fun r1 h1 e1 f1 o1 z1 => alK fun r2 h2 e2 f2 o2 z2 => alK fun r3 h3 e3 f3 o3 z3 => ?_)
 have O1 := (o1.ext f2).ext f3
 have O2 := o2.ext f3
 have F := Ext.trans (Ext.trans f1 f2) f3
 refine ⟨r1, 0, rfl, _, O1.cell _, _, O1.cell _, _, _, _, O1.cell _, _, O1.cell _, r2, 0, rfl, _, O2.cell _, _, O2.cell _, _, _, _, O2.cell _, _, O2.cell _, ?_⟩
 refine K1086 (w := 1) (by decide) (N1.ext F) fun x h4 f4 ix nx zx rx => ⟨_, rfl, sameN O2 f4 id 4, ?_⟩
 refine K1086 (w := 2) (by decide) ((N2.ext F).ext f4) fun y h5 f5 iy ny zy ry => ⟨_, rfl, ret2 ((o3.ext f4).ext f5) fun h6 f6 => ?_⟩
 exact H x y h6 (Fr.trans (Ext.trans (Ext.trans F f4) f5) f6 fun x hx e => by have := f1.size; have := f2.size; omega) ix iy nx ny zx zy rx ry
theorem K1064 {K : Nat} {neg neg2 : Bool} {p p2 : Option Addr} {n c n2 c2 : Nat} {e e2 i v j u : Int} (N1 : NumS K h neg p n e v) (N2 : NumS K h neg2 p2 n2 e2 u) (hK : K <= 1048576) (hv : bl v.natAbs <= 50000) (hu : bl u.natAbs <= 50000)
  (H : ∀ neg' p' n' c' e' h', Ext h h' -> NumS K h' neg' p' n' e' (plV i v j u) -> R (.returned (.agg #[.int .i64 (plI i j), .bool neg', .slice p' n' c', .int .i64 e'])) h') :
  Ent Tryz.prog B 48 #[.agg #[.int .i64 i, .bool neg, .slice p n c, .int .i64 e], .agg #[.int .i64 j, .bool neg2, .slice p2 n2 c2, .int .i64 e2]] R h := by
 refine F1064_ok _ _ _ _ _ _ _ _ _ _ _ _ (alK fun r1 h1 e1 f1 o1 z1 => alK fun r2 h2 e2 f2 o2 z2 => alK fun r3 h3 e3 f3 o3 z3 => ?_)
 have O1 := (o1.ext f2).ext f3
 have O2 := o2.ext f3
 have F := Ext.trans (Ext.trans f1 f2) f3
 have n3 : h.size <= r3 := by have := f1.size; have := f2.size; omega
 unfold plI plV at H
 refine ⟨r1, 0, rfl, r1, 0, rfl, _, O1.cell _, fun e => ⟨r1, 0, rfl, _, O1.cell _, _, O1.cell _, _, _, _, O1.cell _, _, O1.cell _, ret4 o3 fun h4 f4 => ?_⟩, fun e => ⟨r2, 0, rfl, r2, 0, rfl, _, O2.cell _, fun e2 => ⟨r2, 0, rfl, _, O2.cell _, _, O2.cell _, _, _, _, O2.cell _, _, O2.cell _, ret4 o3 fun h4 f4 => ?_⟩, fun e2 => ?_⟩⟩
 ·have h1 : i ≠ 0 := by simpa using e
  rw [if_pos h1, if_pos h1] at H
  exact H _ _ _ _ _ h4 (Fr.trans F f4 fun x hx e => by omega) ((N1.ext F).off o3 zero4 f4)
 ·have h1 : ¬ i ≠ 0 := by simpa using e
  have h2 : j ≠ 0 := by simpa using e2
  rw [if_neg h1, if_neg h1, if_pos h2] at H
  exact H _ _ _ _ _ h4 (Fr.trans F f4 fun x hx e => by omega) ((N2.ext F).off o3 zero4 f4)
 ·have h1 : ¬ i ≠ 0 := by simpa using e
  have h2 : ¬ j ≠ 0 := by simpa using e2
  rw [if_neg h1, if_neg h1, if_neg h2] at H
  have h3 : j = 0 := by omega
  rw [h3] at H
  refine ⟨r1, 0, rfl, r1, 0 + 1, rfl, _, O1.cell _, _, _, _, O1.cell _, _, O1.cell _, r2, 0, rfl, r2, 0 + 1, rfl, _, O2.cell _, _, _, _, O2.cell _, _, O2.cell _, ?_⟩
  refine K133 (N1.ext F) (N2.ext F) hK hv hu fun neg' p' n' c' e' h4 f4 N => ⟨_, _, _, _, _, rfl, ret4 (o3.ext f4) fun h5 f5 => ?_⟩
  exact H _ _ _ _ _ h5 (Fr.trans (Ext.trans F f4) f5 fun x hx e => by omega) (N.off (o3.ext f4) zero4 f5)
theorem K1074 {K : Nat} {neg : Bool} {p : Option Addr} {n c : Nat} {e i v : Int} (N : NumS K h neg p n e v) (H : ∀ h', Ext h h' -> R (.returned (.int .i64 (sgE i v))) h') :
  Ent Tryz.prog B 57 #[.agg #[.int .i64 i, .bool neg, .slice p n c, .int .i64 e]] R h := by
 refine F1074_ok _ _ _ _ _ _ (alK fun r1 h1 e1 f1 o1 z1 => ⟨r1, 0, rfl, r1, 0, rfl, _, o1.cell _, fun e => ⟨r1, 0, rfl, r1, 0, rfl, _, o1.cell _, ?_⟩, fun e => ⟨r1, 0, rfl, r1, 0 + 1, rfl, _, o1.cell _, _, _, _, o1.cell _, _, o1.cell _, K1090 (N.ext f1) fun h2 f2 => ⟨_, rfl, ?_⟩⟩⟩)
 ·have HH := H h1 f1
  unfold sgE at HH
  rw [if_pos (by simpa using e)] at HH
  exact HH
 ·have HH := H h2 (Ext.trans f1 f2)
  unfold sgE at HH
  rw [if_neg (by simpa using e)] at HH
  exact HH
theorem K1075 {K : Nat} {neg : Bool} {p : Option Addr} {n c : Nat} {e i v : Int} (hi : -1 <= i /\ i <= 1) (N : NumS K h neg p n e v)
  (H : ∀ neg' p' n' c' e' h', Ext h h' -> NumS K h' neg' p' n' e' (-v) -> R (.returned (.agg #[.int .i64 (-i), .bool neg', .slice p' n' c', .int .i64 e'])) h') :
  Ent Tryz.prog B 58 #[.agg #[.int .i64 i, .bool neg, .slice p n c, .int .i64 e]] R h := by
 refine F1075_ok _ _ _ _ _ _ (alK fun r1 h1 e1 f1 o1 z1 => alK fun r2 h2 e2 f2 o2 z2 => ?_)
 have O1 := o1.ext f2
 refine ⟨r1, 0, rfl, r1, 0, rfl, _, O1.cell _, r1, 0, rfl, r1, 0 + 1, rfl, _, O1.cell _, _, _, _, O1.cell _, _, O1.cell _, ?_⟩
 refine K213 (N.ext (Ext.trans f1 f2)) fun neg' h3 f3 N' => ⟨_, _, _, _, _, rfl, sameN O1 f3 id 1, ?_⟩
 rw [show IntKind.i64.wrap (0 - i) = -i by rw [i64_in (by omega) (by omega)]; omega]
 refine ret4 (o2.ext f3) fun h4 f4 => ?_
 exact H _ _ _ _ _ h4 (Fr.trans (Ext.trans (Ext.trans f1 f2) f3) f4 fun x hx e => by have := f1.size; omega) (N'.off (o2.ext f3) zero4 f4)
theorem sgE_bd {i v : Int} (hi : -1 <= i /\ i <= 1) : -1 <= sgE i v /\ sgE i v <= 1 := by
 unfold sgE
 split
 ·exact hi
 ·exact sign_bd v
theorem K1065 {K K' : Nat} {neg neg2 : Bool} {p p2 : Option Addr} {n c n2 c2 : Nat} {e e2 i v j u : Int} (hi : -1 <= i /\ i <= 1) (hj : -1 <= j /\ j <= 1) (N1 : NumS K h neg p n e v) (N2 : NumS K' h neg2 p2 n2 e2 u) (hK : K + K' <= 1048576) (hv : bl v.natAbs <= 25000) (hu : bl u.natAbs <= 25000)
  (H : ∀ neg' p' n' c' e' h', Ext h h' -> NumS (K + K') h' neg' p' n' e' (tmV i v j u) -> R (.returned (.agg #[.int .i64 (tmI i v j u), .bool neg', .slice p' n' c', .int .i64 e'])) h') :
  Ent Tryz.prog B 49 #[.agg #[.int .i64 i, .bool neg, .slice p n c, .int .i64 e], .agg #[.int .i64 j, .bool neg2, .slice p2 n2 c2, .int .i64 e2]] R h := by
 have b1 := @sgE_bd i v hi
 have b2 := @sgE_bd j u hj
 have b3 : -1 <= sgE i v * sgE j u /\ sgE i v * sgE j u <= 1 := by
  generalize sgE i v = x at *
  generalize sgE j u = y at *
  have hx : x = -1 \/ x = 0 \/ x = 1 := by omega
  have hy : y = -1 \/ y = 0 \/ y = 1 := by omega
  rcases hx with rfl | rfl | rfl <;> rcases hy with rfl | rfl | rfl <;> decide
 refine F1065_ok _ _ _ _ _ _ _ _ _ _ _ _ (alK fun r1 h1 e1 f1 o1 z1 => alK fun r2 h2 e2 f2 o2 z2 => alK fun r3 h3 e3 f3 o3 z3 => ?_)
 have O1 := (o1.ext f2).ext f3
 have O2 := o2.ext f3
 have F := Ext.trans (Ext.trans f1 f2) f3
 have n3 : h.size <= r3 := by have := f1.size; have := f2.size; omega
 refine ⟨r1, 0, rfl, _, O1.cell _, _, O1.cell _, _, _, _, O1.cell _, _, O1.cell _, r2, 0, rfl, _, O2.cell _, _, O2.cell _, _, _, _, O2.cell _, _, O2.cell _, ?_⟩
 refine K1074 (N1.ext F) fun h4 f4 => ⟨_, rfl, sameN O2 f4 id 4, K1074 ((N2.ext F).ext f4) fun h5 f5 => ⟨_, rfl, ?_⟩⟩
 rw [i64_in (by omega) (by omega)]
 have g5 := Ext.trans f4 f5
 have F5 := Ext.trans F g5
 replace O1 := O1.ext g5
 replace O2 := O2.ext g5
 replace o3 := o3.ext g5
 unfold tmI tmV at H
 generalize sgE i v * sgE j u = s at *
 have inf : s ≠ 0 -> (i ≠ 0 \/ j ≠ 0) -> F1065_j5 B R (some ⟨r1, 0, none⟩) (some ⟨r2, 0, none⟩) (some ⟨r3, 0, none⟩) s true h5 := fun hs hij => by
  rw [if_neg hs, if_neg hs, if_pos hij, if_pos hij] at H
  exact ⟨fun _ => ret4 o3 fun h6 f6 => H _ _ _ _ _ h6 (Fr.trans F5 f6 fun x hx e => by omega) (numS_zero _ _), nofun⟩
 refine ⟨fun e => ret4 o3 fun h6 f6 => ?_, fun e => ⟨r1, 0, rfl, r1, 0, rfl, _, O1.cell _, fun e2 => ?_, fun e2 => ⟨r2, 0, rfl, r2, 0, rfl, _, O2.cell _, ?_⟩⟩⟩
 ·have hs := of_decide_eq_true e
  rw [if_pos hs, if_pos hs] at H
  exact H _ _ _ _ _ h6 (Fr.trans F5 f6 fun x hx e => by omega) (numS_zero _ _)
 ·exact inf (of_decide_eq_false e) (.inl (by simpa using e2))
 ·have hs := of_decide_eq_false e
  have hi0 : i = 0 := by simpa using e2
  by_cases hj0 : j = 0
  ·have hd : (!decide (j = (0 : Int))) = false := by rw [decide_eq_true hj0]; rfl
   unfold F1065_j59
   rw [hd]
   rw [if_neg hs, if_neg hs, if_neg (by omega), if_neg (by omega)] at H
   refine ⟨nofun, fun _ => ⟨r1, 0, rfl, r1, 0 + 1, rfl, _, O1.cell _, _, _, _, O1.cell _, _, O1.cell _, r2, 0, rfl, r2, 0 + 1, rfl, _, O2.cell _, _, _, _, O2.cell _, _, O2.cell _, ?_⟩⟩
   refine K113 ((N1.ext F).ext g5) ((N2.ext F).ext g5) hK hv hu fun neg' p' n' c' e' h6 f6 _ N => ⟨_, _, _, _, _, rfl, ret4 (o3.ext f6) fun h7 f7 => ?_⟩
   exact H _ _ _ _ _ h7 (Fr.trans (Ext.trans F5 f6) f7 fun x hx e => by omega) (N.off (o3.ext f6) zero4 f7)
  ·have hd : (!decide (j = (0 : Int))) = true := by rw [decide_eq_false hj0]; rfl
   unfold F1065_j59
   rw [hd]
   exact inf hs (.inr hj0)
end Go.Proofs
set_option linter.unusedVariables false
namespace Go.Proofs
open Go Go.Eng
variable {B : World} {R : Ending -> Heap -> Prop} {h : Heap}
structure EV where
 i : Int
 ng : Bool
 p : Option Addr
 n : Nat
 c : Nat
 e : Int
 v : Int
abbrev EV.agg (x : EV) : Value := .agg #[.int .i64 x.i, .bool x.ng, .slice x.p x.n x.c, .int .i64 x.e]
abbrev EV.cs (x : EV) : Array Value := #[.int .i64 x.i, .bool x.ng, .slice x.p x.n x.c, .int .i64 x.e]
abbrev Z4 : Array Value := #[.int .i64 (0 : Int), .bool false, .slice none 0 0, .int .i64 (0 : Int)]
theorem leE_trans {i v j u k w : Int} (h1 : leE i v j u) (h2 : leE j u k w) : leE i v k w := by
 unfold leE at *
 omega
theorem leE_refl {i v : Int} : leE i v i v := .inr ⟨rfl, .inr (Int.le_refl _)⟩
def OutI (h : Heap) (b n c r1 r2 rl rh : Nat) (xs : List EV) (m : Nat) (l : List Value) (h' : Heap) : Prop :=
 match l with
 | [.slice p n' c', .pointer s, .pointer t, .pointer u, .pointer v, .int _ i] => p = some (⟨b, 0, none⟩ : Addr) /\ n = n' /\ c = c' /\ s = some (⟨r1, 0, none⟩ : Addr) /\ t = some (⟨r2, 0, none⟩ : Addr) /\ u = some (⟨rl, 0, none⟩ : Addr) /\ v = some (⟨rh, 0, none⟩ : Addr) /\ Ext h h' /\ Own h' r1 Z4 /\ Own h' r2 Z4 /\
   ∃ (j : Nat) (x y : EV), i = (j : Int) /\ j <= xs.length /\ m = xs.length - j /\ x ∈ xs /\ y ∈ xs /\ Own h' rl x.cs /\ Own h' rh y.cs /\
    (∀ k (hk : k < xs.length), k < j -> leE x.i x.v xs[k].i xs[k].v /\ leE xs[k].i xs[k].v y.i y.v)
 | _ => False
set_option maxHeartbeats 1000000 in
/-- plumbref8.outer. -/
theorem K1062 {K b n c : Nat} {cs : Array Value} {xs : List EV} (O : Own h b cs) (hn : xs.length = n) (h0 : 0 < n) (hl : n <= 1000)
  (hc : ∀ k (hk : k < xs.length), cs[k * 4]? = some (Value.int .i64 xs[k].i) /\ cs[k * 4 + 1]? = some (.bool xs[k].ng) /\ cs[k * 4 + 2]? = some (.slice xs[k].p xs[k].n xs[k].c) /\ cs[k * 4 + 3]? = some (Value.int .i64 xs[k].e))
  (hN : ∀ x ∈ xs, NumS K h x.ng x.p x.n x.e x.v /\ bl x.v.natAbs <= 50000) (hK : K <= 1048576)
  (H : ∀ x y h', x ∈ xs -> y ∈ xs -> Ext h h' -> (∀ z ∈ xs, leE x.i x.v z.i z.v) -> (∀ z ∈ xs, leE z.i z.v y.i y.v) -> R (.returned (.tuple #[x.agg, y.agg])) h') :
  Ent Tryz.prog B 46 #[.slice (some ⟨b, 0, none⟩) n c] R h := by
 have rd : ∀ (g : Heap), Ext h g -> ∀ (j : Nat) (hj : j < xs.length), cell? g ⟨b, 0 + (j : Int).toNat * 4, none⟩ = some (Value.int .i64 xs[j].i) /\ cell? g ⟨b, 0 + (j : Int).toNat * 4 + 1, none⟩ = some (.bool xs[j].ng) /\
   cell? g ⟨b, 0 + (j : Int).toNat * 4 + 1 + 1, none⟩ = some (.slice xs[j].p xs[j].n xs[j].c) /\ cell? g ⟨b, 0 + (j : Int).toNat * 4 + 1 + 1 + 1, none⟩ = some (Value.int .i64 xs[j].e) := fun g f j hj => by
  have Og := O.ext f
  obtain ⟨c0, c1, c2, c3⟩ := hc j hj
  rw [Int.toNat_natCast, Nat.zero_add, Og.cell, Og.cell, Og.cell, Og.cell]
  exact ⟨c0, c1, c2, c3⟩
 have hx0 : 0 < xs.length := by omega
 refine F1062_ok _ _ _ (alK fun r1 h1 e1 f1 o1 z1 => alK fun r2 h2 e2 f2 o2 z2 => ?_)
 have F2 := Ext.trans f1 f2
 obtain ⟨a0, a1, a2, a3⟩ := rd h2 F2 0 hx0
 refine ⟨b, 0, rfl, by decide, by omega, b, _, rfl, _, a0, _, a1, _, _, _, a2, _, a3, enK fun rl h3 l3 f3 O3 => ?_⟩
 have F3 := Ext.trans F2 f3
 obtain ⟨b0, b1, b2, b3⟩ := rd h3 F3 0 hx0
 refine ⟨b, 0, rfl, by decide, by omega, b, _, rfl, _, b0, _, b1, _, _, _, b2, _, b3, enK fun rh h4 l4 f4 O4 => ?_⟩
 have F4 := Ext.trans F3 f4
 have lr1 := o1.lt
 have lr2 := o2.lt
 have lrl := O3.lt
 have lrh := O4.lt
 have s1 := f1.size
 have s2 := f2.size
 have s3 := f3.size
 have s4 := f4.size
 have d12 : r1 ≠ r2 := by omega
 have d1l : r1 ≠ rl := by omega
 have d1h : r1 ≠ rh := by omega
 have d2l : r2 ≠ rl := by omega
 have d2h : r2 ≠ rh := by omega
 have dlh : rl ≠ rh := by omega
 have g1 : h.size <= r1 := by omega
 have g2 : h.size <= r2 := by omega
 have gl : h.size <= rl := by omega
 have gh : h.size <= rh := by omega
 have Q1 := ((o1.ext f2).ext f3).ext f4
 have Q2 := (o2.ext f3).ext f4
 have O3' := O3.ext f4
 clear e1 e2 z1 z2 a0 a1 a2 a3 b0 b1 b2 b3 o1 o2 l3 l4 s1 s2 s3 s4 lr1 lr2 lrl lrh f1 f2 f3 f4 F2 F3 O3
 have hm0 : xs[0] ∈ xs := List.getElem_mem hx0
 refine ⟨OutI h b n c r1 r2 rl rh xs, xs.length - 1, ⟨rfl, rfl, rfl, rfl, rfl, rfl, rfl, F4, Q1, Q2, 1, xs[0], xs[0], rfl, by omega, rfl, hm0, hm0, O3', O4, fun k hk hk1 => ?_⟩, ?_⟩
 ·have : k = 0 := by omega
  subst this
  exact ⟨leE_refl, leE_refl⟩
 rintro m g _ _ _ _ _ _ _ _ ⟨rfl, rfl, rfl, rfl, rfl, rfl, rfl, fg, q1, q2, j, x, y, rfl, hj, rfl, hx, hy, ol, oh, hm⟩ _
 refine ⟨fun e => ?_, fun e => ?_⟩
 ·have hjn : j < xs.length := by simp at e; omega
  obtain ⟨a0, a1, a2, a3⟩ := rd g fg j hjn
  have hz := List.getElem_mem hjn
  obtain ⟨nz, bz⟩ := hN _ hz
  obtain ⟨nx, bx⟩ := hN _ hx
  obtain ⟨ny, by'⟩ := hN _ hy
  refine ⟨b, 0, rfl, by omega, by omega, b, _, rfl, _, a0, _, a1, _, _, _, a2, _, a3, rl, 0, rfl, _, ol.cell _, _, ol.cell _, _, _, _, ol.cell _, _, ol.cell _, ?_⟩
  refine K1061 (nz.ext fg) (nx.ext fg) hK bz bx fun g1' f1' => ⟨_, rfl, ?_⟩
  -- what comes behind the first comparison
  have j8 : ∀ (g2' : Heap) (x' : EV), Ext h g2' -> Own g2' r1 Z4 -> Own g2' r2 Z4 -> x' ∈ xs -> Own g2' rl x'.cs -> Own g2' rh y.cs -> (∀ k (hk : k < xs.length), k < j + 1 -> leE x'.i x'.v xs[k].i xs[k].v) ->
    F1062_j8 B R (OutI h b n c r1 r2 rl rh xs) (xs.length - j) (some ⟨b, 0, none⟩) n c (some ⟨r1, 0, none⟩) (some ⟨r2, 0, none⟩) (some ⟨rl, 0, none⟩) (some ⟨rh, 0, none⟩) (j : Int) g2' := fun g2' x' fg2 p1 p2 hx' pl ph hmx => by
   obtain ⟨a0, a1, a2, a3⟩ := rd g2' fg2 j hjn
   refine ⟨b, 0, rfl, by omega, by omega, b, _, rfl, _, a0, _, a1, _, _, _, a2, _, a3, rh, 0, rfl, _, ph.cell _, _, ph.cell _, _, _, _, ph.cell _, _, ph.cell _, ?_⟩
   refine K1061 (nz.ext fg2) (ny.ext fg2) hK bz by' fun g3 f3 => ⟨_, rfl, fun e2 => ?_, fun e2 => ?_⟩
   ·have fg3 := Ext.trans fg2 f3
    obtain ⟨a0, a1, a2, a3⟩ := rd g3 fg3 j hjn
    refine ⟨b, 0, rfl, by omega, by omega, b, _, rfl, _, a0, _, a1, _, _, _, a2, _, a3, wr4 (ph.ext f3) fun g4 f4 ph4 => ?_⟩
    refine ⟨xs.length - (j + 1), by omega, rfl, rfl, rfl, rfl, rfl, rfl, rfl, Fr.trans fg3 f4 fun x hx e => by omega, (p1.ext f3).fr f4 d1h, (p2.ext f3).fr f4 d2h, j + 1, x', xs[j], by rw [i64_in (by omega) (by omega)]; rfl, by omega, rfl, hx', hz, (pl.ext f3).fr f4 dlh, ph4, fun k hk hk1 => ⟨hmx k hk hk1, ?_⟩⟩
    have hgt := of_decide_eq_true e2
    have hyz : leE y.i y.v xs[j].i xs[j].v := ordE_le.1 (by rw [ordE_neg]; omega)
    by_cases hkj : k = j
    ·subst hkj; exact leE_refl
    ·exact leE_trans (hm k hk (by omega)).2 hyz
   ·refine ⟨xs.length - (j + 1), by omega, rfl, rfl, rfl, rfl, rfl, rfl, rfl, Ext.trans fg2 f3, p1.ext f3, p2.ext f3, j + 1, x', y, by rw [i64_in (by omega) (by omega)]; rfl, by omega, rfl, hx', hy, pl.ext f3, ph.ext f3, fun k hk hk1 => ⟨hmx k hk hk1, ?_⟩⟩
    have hle := of_decide_eq_false e2
    by_cases hkj : k = j
    ·subst hkj; exact ordE_le.1 (by omega)
    ·exact (hm k hk (by omega)).2
  refine ⟨fun e1 => ?_, fun e1 => ?_⟩
  ·have fg1 := Ext.trans fg f1'
   obtain ⟨a0, a1, a2, a3⟩ := rd g1' fg1 j hjn
   refine ⟨b, 0, rfl, by omega, by omega, b, _, rfl, _, a0, _, a1, _, _, _, a2, _, a3, wr4 (ol.ext f1') fun g2' f2' pl => ?_⟩
   refine j8 g2' xs[j] (Fr.trans fg1 f2' fun x hx e => by omega) ((q1.ext f1').fr f2' d1l) ((q2.ext f1').fr f2' d2l) hz pl ((oh.ext f1').fr f2' (fun e => dlh e.symm)) fun k hk hk1 => ?_
   have hlt := of_decide_eq_true e1
   have hzx : leE xs[j].i xs[j].v x.i x.v := ordE_le.1 (by omega)
   by_cases hkj : k = j
   ·subst hkj; exact leE_refl
   ·exact leE_trans hzx (hm k hk (by omega)).1
  ·refine j8 g1' x (Ext.trans fg f1') (q1.ext f1') (q2.ext f1') hx (ol.ext f1') (oh.ext f1') fun k hk hk1 => ?_
   have hge := of_decide_eq_false e1
   by_cases hkj : k = j
   ·subst hkj; exact ordE_le.1 (by rw [ordE_neg]; omega)
   ·exact (hm k hk (by omega)).1
 ·have hjn : j = xs.length := by simp at e; omega
  refine ⟨rl, 0, rfl, _, ol.cell _, _, ol.cell _, _, _, _, ol.cell _, _, ol.cell _, rh, 0, rfl, _, oh.cell _, _, oh.cell _, _, _, _, oh.cell _, _, oh.cell _, wr4 q1 fun g3 f3 p1 => ?_⟩
  refine ⟨sameN oh f3 (fun e => d1h e.symm) 4, wr4 (q2.fr f3 (fun e => d12 e.symm)) fun g4 f4 p2 => ?_⟩
  have p1' := p1.fr f4 d12
  refine ⟨r1, 0, rfl, _, p1'.cell _, _, p1'.cell _, _, _, _, p1'.cell _, _, p1'.cell _, r2, 0, rfl, _, p2.cell _, _, p2.cell _, _, _, _, p2.cell _, _, p2.cell _, ?_⟩
  refine H x y g4 hx hy (Fr.trans (Fr.trans fg f3 fun x hx e => by omega) f4 fun x hx e => by omega) (fun z hz => ?_) fun z hz => ?_
  ·obtain ⟨k, hk, rfl⟩ := List.getElem_of_mem hz
   exact (hm k hk (by omega)).1
  ·obtain ⟨k, hk, rfl⟩ := List.getElem_of_mem hz
   exact (hm k hk (by omega)).2
end Go.Proofs
