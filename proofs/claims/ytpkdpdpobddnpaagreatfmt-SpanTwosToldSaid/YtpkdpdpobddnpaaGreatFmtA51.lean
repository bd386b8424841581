import Derived.Test.YtpkdpdpobddnpaaGreatFmtA50
import Derived.Test.YtpkdpdpobddnpaaGreatFmtA49
import Derived.Test.YtpkdpdpobddnpaaGreatFmtA48
import Derived.Test.YtpkdpdpobddnpaaGreatFmtA47
/- Here stand lemmas: plumbref8: Valid, Neg, Plus, Minus, Times. -/
set_option linter.unusedVariables false
set_option linter.unusedVariables false
namespace Go.Eng
open Go
structure SpR (x y lo hi : Int) : Prop where
 ix : I64 x
 iy : I64 y
 nx : isNaN x = false
 ny : isNaN y = false
 zx : x ≠ -9223372036854775808
 zy : y ≠ -9223372036854775808
 rx : rk x = lo
 ry : rk y = hi
theorem SpR.uniq {x y u v lo hi : Int} (S : SpR x y lo hi) (T : SpR u v lo hi) : x = u /\ y = v :=
 ⟨rk_inj S.ix T.ix S.zx T.zx (by rw [S.rx, T.rx]), rk_inj S.iy T.iy S.zy T.zy (by rw [S.ry, T.ry])⟩
theorem SpR.cn {x y lo hi : Int} (ix : I64 x) (iy : I64 y) (nx : isNaN x = false) (ny : isNaN y = false) (rx : rk x = lo) (ry : rk y = hi) : SpR (Go.Eng.cnP x) (Go.Eng.cnP y) lo hi := by
 obtain ⟨a1, a2, a3⟩ := cn_rk ix nx
 obtain ⟨b1, b2, b3⟩ := cn_rk iy ny
 exact ⟨a3, b3, a2, b2, cn_nz ix nx, cn_nz iy ny, by rw [a1, rx], by rw [b1, ry]⟩
theorem ofI_bd (a : Int) : -1 <= ofI a /\ ofI a <= 1 := by
 unfold ofI
 split
 ·split <;> omega
 ·omega
end Go.Eng
namespace Go.Proofs
open Go Go.Eng
variable {B : World} {R : Ending -> Heap -> Prop} {h : Heap}
theorem fWbl (a : Int) : bl (fW a).natAbs <= 2100 := by
 unfold fW
 split
 ·rename_i hf; exact fV_bl hf
 ·exact Nat.le_trans (by decide : bl (0 : Int).natAbs <= 0) (Nat.zero_le _)
theorem rT_neg {w : Nat} {a : Int} (hw : w = 1 \/ w = 2) (ia : I64 a) (na : isNaN a = false) : rT w 1074 (-(ofI a)) (-(fW a)) = -rk a := by
 cases fa : isFin a
 ·rcases ofI_inf ia na fa with ⟨h, e⟩ | ⟨h, e⟩ <;> rw [e, h] <;> rfl
 ·obtain ⟨f, ev, i, n, r⟩ := fin_negP ia fa
  rw [ofI_fin fa]
  unfold rT fW
  rw [if_neg (by omega), if_neg (by omega), if_pos fa, <- ev, <- r]
  exact rk_self hw i f
theorem ofI_one {a : Int} (ia : I64 a) (na : isNaN a = false) : (ofI a = 1 ↔ rk a = 9218868437227405312) /\ (ofI a = -1 ↔ rk a = -9218868437227405312) := by
 cases fa : isFin a
 ·rcases ofI_inf ia na fa with ⟨h, e⟩ | ⟨h, e⟩ <;> rw [e, h] <;> decide
 ·have := fin_rk ia fa
  rw [ofI_fin fa]; omega
theorem K1033 {a b : Int} (ia : I64 a) (ib : I64 b) (H : ∀ h', Ext h h' -> R (.returned (.bool (vS a b))) h') : Ent Tryz.prog B 11 #[.agg #[.int .i64 a, .int .i64 b]] R h := by
 refine F1033_ok _ _ (alK fun r1 h1 e1 f1 o1 z1 => ⟨r1, 0, rfl, r1, 0, rfl, _, o1.cell _, K84 ia ⟨_, rfl, ?_⟩⟩)
 have no : (isNaN a = true \/ isNaN b = true) -> vS a b = false := fun k => by
  unfold vS
  rcases k with k | k <;> rw [k] <;> simp
 rw [cls_nan]
 cases na : isNaN a
 ·refine ⟨nofun, fun _ => ⟨r1, 0, rfl, r1, 0 + 1, rfl, _, o1.cell _, K84 ib ⟨_, rfl, ?_⟩⟩⟩
  rw [cls_nan]
  cases nb : isNaN b
  ·refine ⟨nofun, fun _ => ⟨r1, 0, rfl, r1, 0, rfl, _, o1.cell _, ?_⟩⟩
   refine K1060 ia na fun ng p n c e h2 f2 N1 => ⟨_, _, _, _, _, _, rfl, enK fun r3 h3 l3 f3 O3 => ?_⟩
   have o1' := (o1.ext f2).ext f3
   refine ⟨r1, 0, rfl, r1, 0 + 1, rfl, _, o1'.cell _, ?_⟩
   refine K1060 ib nb fun ng' p' n' c' e' h4 f4 N2 => ⟨_, _, _, _, _, _, rfl, enK fun r5 h5 l5 f5 O5 => ?_⟩
   have g5 := Ext.trans f4 f5
   have O3 := O3.ext g5
   have F := Ext.trans (Ext.trans (Ext.trans f1 f2) f3) g5
   obtain ⟨p1, p2⟩ := ofI_one ia na
   obtain ⟨q1, q2⟩ := ofI_one ib nb
   have bda := rk_bd ia na
   have bdb := rk_bd ib nb
   have HH := H h5 F
   refine ⟨r3, 0, rfl, r3, 0, rfl, _, O3.cell _, fun e1 => ⟨r5, 0, rfl, r5, 0, rfl, _, O5.cell _, ?_⟩, fun e1 => ?_⟩
   ·have h1 : ¬ ofI a = 1 := by simpa using e1
    by_cases h2 : ofI b = -1
    ·have hd : (!decide (ofI b = (-1 : Int))) = false := by rw [decide_eq_true h2]; rfl
     rw [hd]
     have : vS a b = false := by
      unfold vS
      rw [decide_eq_false (show ¬ -9218868437227405312 < rk b by omega)]; simp
     rw [this] at HH
     exact ⟨nofun, fun _ => HH⟩
    ·have hd : (!decide (ofI b = (-1 : Int))) = true := by rw [decide_eq_false h2]; rfl
     rw [hd]
     refine ⟨fun _ => ⟨r3, 0, rfl, _, O3.cell _, _, O3.cell _, _, _, _, O3.cell _, _, O3.cell _, r5, 0, rfl, _, O5.cell _, _, O5.cell _, _, _, _, O5.cell _, _, O5.cell _, ?_⟩, nofun⟩
     refine K1061 ((N1.ext f3).ext g5) (N2.ext f5) (by decide) (by have := fWbl a; omega) (by have := fWbl b; omega) fun h6 f6 => ⟨_, rfl, ?_⟩
     have HH := H h6 (Ext.trans F f6)
     have : vS a b = decide (ordE (ofI a) (fW a) (ofI b) (fW b) <= 0) := by
      unfold vS
      rw [na, nb, decide_eq_true (show rk a < 9218868437227405312 by omega), decide_eq_true (show -9218868437227405312 < rk b by omega)]
      simp only [Bool.not_false, Bool.true_and, Bool.and_true]
      rw [decide_eq_decide, ordE_le, leE_of ia ib na nb]
     rw [this] at HH
     exact HH
   ·have h1 : ofI a = 1 := by simpa using e1
    have : vS a b = false := by
     unfold vS
     rw [decide_eq_false (show ¬ rk a < 9218868437227405312 by omega)]; simp
    rw [this] at HH
    exact ⟨nofun, fun _ => HH⟩
  ·have HH := H h1 f1
   rw [no (.inr nb)] at HH
   exact ⟨fun _ => HH, nofun⟩
 ·have HH := H h1 f1
  rw [no (.inl na)] at HH
  exact ⟨fun _ => ⟨fun _ => HH, nofun⟩, nofun⟩
theorem K1052 {a b : Int} (ia : I64 a) (ib : I64 b) (na : isNaN a = false) (nb : isNaN b = false) (H : ∀ x y h', Ext h h' -> SpR x y (-rk b) (-rk a) -> R (.returned (.agg #[.int .i64 x, .int .i64 y])) h') :
  Ent Tryz.prog B 33 #[.agg #[.int .i64 a, .int .i64 b]] R h := by
 refine F1052_ok _ _ (alK fun r1 h1 e1 f1 o1 z1 => alK fun r2 h2 e2 f2 o2 z2 => ?_)
 have O1 := o1.ext f2
 have F2 := Ext.trans f1 f2
 refine ⟨r1, 0, rfl, r1, 0 + 1, rfl, _, O1.cell _, r1, 0, rfl, r1, 0, rfl, _, O1.cell _, ?_⟩
 refine K1060 ib nb fun ng p n c e h3 f3 N1 => ⟨_, _, _, _, _, _, rfl, sameN O1 f3 id 1, ?_⟩
 have O1 := O1.ext f3
 refine K1075 (ofI_bd b) N1 fun ng p n c e h4 f4 M1 => ⟨_, _, _, _, _, _, rfl, sameN O1 f4 id 1, ?_⟩
 refine K1060 ia na fun ng p n c e h5 f5 N2 => ⟨_, _, _, _, _, _, rfl, ?_⟩
 refine K1075 (ofI_bd a) N2 fun ng p n c e h6 f6 M2 => ⟨_, _, _, _, _, _, rfl, ?_⟩
 refine K1063 ((M1.ext f5).ext f6) M2 fun x y h7 f7 ix iy nx ny zx zy rx ry => ⟨_, _, rfl, ret2 (((((o2.ext f3).ext f4).ext f5).ext f6).ext f7) fun h8 f8 => ?_⟩
 rw [rT_neg (.inl rfl) ib nb] at rx
 rw [rT_neg (.inr rfl) ia na] at ry
 exact H x y h8 (Fr.trans (Ext.trans (Ext.trans (Ext.trans (Ext.trans (Ext.trans F2 f3) f4) f5) f6) f7) f8 fun x hx e => by have := f1.size; omega) ⟨ix, iy, nx, ny, zx, zy, rx, ry⟩
theorem K1036 {a b c d : Int} (ia : I64 a) (ib : I64 b) (ic : I64 c) (id' : I64 d) (hv : vS a b = true) (hv2 : vS c d = true)
  (H : ∀ x y h', Ext h h' -> SpR x y (rk (addW 1 a c)) (rk (addW 2 b d)) -> R (.returned (.agg #[.int .i64 x, .int .i64 y])) h') :
  Ent Tryz.prog B 18 #[.agg #[.int .i64 a, .int .i64 b], .agg #[.int .i64 c, .int .i64 d]] R h := by
 obtain ⟨na, nb, _, ka, kb⟩ := vS_parts hv
 obtain ⟨nc, nd, _, kc, kd⟩ := vS_parts hv2
 have p1 := (rT_plus (w := 1) (.inl rfl) ia ic na nc (.inl ⟨ka, kc⟩)).1
 have p2 := (rT_plus (w := 2) (.inr rfl) ib id' nb nd (.inr ⟨kb, kd⟩)).1
 have ba := fWbl a
 have bb := fWbl b
 have bc := fWbl c
 have bd := fWbl d
 refine F1036_ok _ _ _ _ (alK fun r1 h1 e1 f1 o1 z1 => alK fun r2 h2 e2 f2 o2 z2 => alK fun r3 h3 e3 f3 o3 z3 => ?_)
 have O1 := (o1.ext f2).ext f3
 have O2 := o2.ext f3
 have F3 := Ext.trans (Ext.trans f1 f2) f3
 refine ⟨r1, 0, rfl, r1, 0, rfl, _, O1.cell _, r2, 0, rfl, r2, 0, rfl, _, O2.cell _, r1, 0, rfl, r1, 0 + 1, rfl, _, O1.cell _, r2, 0, rfl, r2, 0 + 1, rfl, _, O2.cell _, ?_⟩
 refine K1060 ia na fun ng p n c e h4 f4 N1 => ⟨_, _, _, _, _, _, rfl, sameN O2 f4 id 1, sameN O1 f4 id 1, sameN O2 f4 id 1, ?_⟩
 have O1 := O1.ext f4
 have O2 := O2.ext f4
 refine K1060 ic nc fun ng p n c e h5 f5 N2 => ⟨_, _, _, _, _, _, rfl, sameN O2 f5 id 1, sameN O1 f5 id 1, ?_⟩
 have O1 := O1.ext f5
 have O2 := O2.ext f5
 refine K1064 (N1.ext f5) N2 (by decide) (by omega) (by omega) fun ng p n c e h6 f6 N3 => ⟨_, _, _, _, _, _, rfl, sameN O2 f6 id 1, sameN O1 f6 id 1, ?_⟩
 have O2 := O2.ext f6
 refine K1060 ib nb fun ng p n c e h7 f7 N4 => ⟨_, _, _, _, _, _, rfl, sameN O2 f7 id 1, ?_⟩
 refine K1060 id' nd fun ng p n c e h8 f8 N5 => ⟨_, _, _, _, _, _, rfl, ?_⟩
 refine K1064 (N4.ext f8) N5 (by decide) (by omega) (by omega) fun ng p n c e h9 f9 N6 => ⟨_, _, _, _, _, _, rfl, ?_⟩
 refine K1063 (((N3.ext f7).ext f8).ext f9) N6 fun x y h10 f10 ix iy nx ny zx zy rx ry => ⟨_, _, rfl, ret2 (((((((o3.ext f4).ext f5).ext f6).ext f7).ext f8).ext f9).ext f10) fun h11 f11 => ?_⟩
 rw [p1] at rx
 rw [p2] at ry
 exact H x y h11 (Fr.trans (Ext.trans (Ext.trans (Ext.trans (Ext.trans (Ext.trans (Ext.trans (Ext.trans F3 f4) f5) f6) f7) f8) f9) f10) f11 fun x hx e => by have := f1.size; have := f2.size; omega) ⟨ix, iy, nx, ny, zx, zy, rx, ry⟩
theorem K1037 {a b c d : Int} (ia : I64 a) (ib : I64 b) (ic : I64 c) (id' : I64 d) (hv : vS a b = true) (hv2 : vS c d = true) (hv3 : vS (cnP (negP d)) (cnP (negP c)) = true)
  (H : ∀ x y h', Ext h h' -> SpR x y (rk (addW 1 a (cnP (negP d)))) (rk (addW 2 b (cnP (negP c)))) -> R (.returned (.agg #[.int .i64 x, .int .i64 y])) h') :
  Ent Tryz.prog B 19 #[.agg #[.int .i64 a, .int .i64 b], .agg #[.int .i64 c, .int .i64 d]] R h := by
 obtain ⟨nc, nd, _, kc, kd⟩ := vS_parts hv2
 refine F1037_ok _ _ _ _ (alK fun r1 h1 e1 f1 o1 z1 => alK fun r2 h2 e2 f2 o2 z2 => alK fun r3 h3 e3 f3 o3 z3 => ?_)
 have O1 := (o1.ext f2).ext f3
 have O2 := o2.ext f3
 have F3 := Ext.trans (Ext.trans f1 f2) f3
 refine ⟨r1, 0, rfl, _, O1.cell _, _, O1.cell _, r2, 0, rfl, _, O2.cell _, _, O2.cell _, ?_⟩
 refine K1052 ic id' nc nd fun u v h4 f4 S => ⟨_, _, rfl, sameN O1 f4 id 2, ?_⟩
 obtain ⟨t1, t2, t3⟩ := rk_neg id' nd
 obtain ⟨s1, s2, s3⟩ := rk_neg ic nc
 obtain ⟨e1, e2⟩ := S.uniq (SpR.cn t2 s2 t3 s3 t1 s1)
 subst e1 e2
 refine K1036 ia ib S.ix S.iy hv hv3 fun x y h5 f5 T => ⟨_, _, rfl, ret2 ((o3.ext f4).ext f5) fun h6 f6 => ?_⟩
 exact H x y h6 (Fr.trans (Ext.trans (Ext.trans F3 f4) f5) f6 fun x hx e => by have := f1.size; have := f2.size; omega) T
end Go.Proofs
set_option linter.unusedVariables false
namespace Go.Proofs
open Go Go.Eng
variable {B : World} {R : Ending -> Heap -> Prop} {h : Heap}
theorem tmV_bl {i v j u : Int} (hv : bl v.natAbs <= 2100) (hu : bl u.natAbs <= 2100) : bl (tmV i v j u).natAbs <= 4200 := by
 have h0 : bl (0 : Int).natAbs <= 4200 := by decide
 unfold tmV
 split
 ·exact h0
 ·split
  ·exact h0
  ·exact bl_mul hv hu
set_option maxHeartbeats 2000000 in
/-- plumbref8.Times. -/
theorem K1038 {a b c d : Int} (ia : I64 a) (ib : I64 b) (ic : I64 c) (id' : I64 d) (na : isNaN a = false) (nb : isNaN b = false) (nc : isNaN c = false) (nd : isNaN d = false)
  (H : ∀ x y h', Ext h h' -> SpR x y (loR (fun k => rk (timW 1 (ptX a b k) (ptY c d k))) 4) (hiR (fun k => rk (timW 2 (ptX a b k) (ptY c d k))) 4) -> R (.returned (.agg #[.int .i64 x, .int .i64 y])) h') :
  Ent Tryz.prog B 20 #[.agg #[.int .i64 a, .int .i64 b], .agg #[.int .i64 c, .int .i64 d]] R h := by
 have ba := fWbl a
 have bb := fWbl b
 have bc := fWbl c
 have bd := fWbl d
 refine F1038_ok _ _ _ _ (alK fun r1 h1 e1 f1 o1 z1 => alK fun r2 h2 e2 f2 o2 z2 => alK fun r3 h3 e3 f3 o3 z3 => ?_)
 have O1 := (o1.ext f2).ext f3
 have O2 := o2.ext f3
 have F3 := Ext.trans (Ext.trans f1 f2) f3
 have n3 : h.size <= r3 := by have := f1.size; have := f2.size; omega
 refine ⟨r1, 0, rfl, r1, 0, rfl, _, O1.cell _, ?_⟩
 refine K1060 ia na fun ng p n c' e h4 f4 NA => ⟨_, _, _, _, _, _, rfl, enK fun rA h5 l5 f5 OA => ?_⟩
 have g5 := Ext.trans f4 f5
 have O1 := O1.ext g5
 refine ⟨r1, 0, rfl, r1, 0 + 1, rfl, _, O1.cell _, ?_⟩
 refine K1060 ib nb fun ng p n c' e h6 f6 NB => ⟨_, _, _, _, _, _, rfl, enK fun rB h7 l7 f7 OB => ?_⟩
 have g7 := Ext.trans f6 f7
 have O2 := (O2.ext g5).ext g7
 refine ⟨r2, 0, rfl, r2, 0, rfl, _, O2.cell _, ?_⟩
 refine K1060 ic nc fun ng p n c' e h8 f8 NC => ⟨_, _, _, _, _, _, rfl, enK fun rC h9 l9 f9 OC => ?_⟩
 have g9 := Ext.trans f8 f9
 have O2 := O2.ext g9
 refine ⟨r2, 0, rfl, r2, 0 + 1, rfl, _, O2.cell _, ?_⟩
 refine K1060 id' nd fun ng p n c' e h10 f10 ND => ⟨_, _, _, _, _, _, rfl, enK fun rD h11 l11 f11 OD => ?_⟩
 have g11 := Ext.trans f10 f11
 have OA := ((OA.ext g7).ext g9).ext g11
 have OB := (OB.ext g9).ext g11
 have OC := OC.ext g11
 have NA := (((NA.ext f5).ext g7).ext g9).ext g11
 have NB := ((NB.ext f7).ext g9).ext g11
 have NC := (NC.ext f9).ext g11
 have ND := ND.ext f11
 have o3 := (((o3.ext g5).ext g7).ext g9).ext g11
 have F11 := Ext.trans (Ext.trans (Ext.trans (Ext.trans F3 g5) g7) g9) g11
 clear f1 f2 f3 f4 f5 f6 f7 f8 f9 f10 f11 o1 o2 O1 O2
 refine ⟨rA, 0, rfl, _, OA.cell _, _, OA.cell _, _, _, _, OA.cell _, _, OA.cell _, rC, 0, rfl, _, OC.cell _, _, OC.cell _, _, _, _, OC.cell _, _, OC.cell _,
  rA, 0, rfl, _, OA.cell _, _, OA.cell _, _, _, _, OA.cell _, _, OA.cell _, rD, 0, rfl, _, OD.cell _, _, OD.cell _, _, _, _, OD.cell _, _, OD.cell _,
  rB, 0, rfl, _, OB.cell _, _, OB.cell _, _, _, _, OB.cell _, _, OB.cell _, rC, 0, rfl, _, OC.cell _, _, OC.cell _, _, _, _, OC.cell _, _, OC.cell _,
  rB, 0, rfl, _, OB.cell _, _, OB.cell _, _, _, _, OB.cell _, _, OB.cell _, rD, 0, rfl, _, OD.cell _, _, OD.cell _, _, _, _, OD.cell _, _, OD.cell _, ?_⟩
 refine K1065 (ofI_bd a) (ofI_bd c) NA NC (by decide) (by omega) (by omega) fun ng0 p0 n0 c0 e0 h12 f12 N0 => ⟨_, _, _, _, _, _, rfl, sameN OD f12 id 4, sameN OB f12 id 4, sameN OC f12 id 4, sameN OB f12 id 4, sameN OD f12 id 4, sameN OA f12 id 4, ?_⟩
 have OB := OB.ext f12
 have OC := OC.ext f12
 have OD := OD.ext f12
 refine K1065 (ofI_bd a) (ofI_bd d) (NA.ext f12) (ND.ext f12) (by decide) (by omega) (by omega) fun ng1 p1 n1 c1 e1 h13 f13 N1 => ⟨_, _, _, _, _, _, rfl, sameN OD f13 id 4, sameN OB f13 id 4, sameN OC f13 id 4, sameN OB f13 id 4, ?_⟩
 have OB := OB.ext f13
 have OD := OD.ext f13
 refine K1065 (ofI_bd b) (ofI_bd c) ((NB.ext f12).ext f13) ((NC.ext f12).ext f13) (by decide) (by omega) (by omega) fun ng2 p2 n2 c2 e2 h14 f14 N2 => ⟨_, _, _, _, _, _, rfl, sameN OD f14 id 4, sameN OB f14 id 4, ?_⟩
 refine K1065 (ofI_bd b) (ofI_bd d) (((NB.ext f12).ext f13).ext f14) (((ND.ext f12).ext f13).ext f14) (by decide) (by omega) (by omega) fun ng3 p3 n3' c3 e3 h15 f15 N3 => ⟨_, _, _, _, _, _, rfl, ?_⟩
 refine alK fun rl h16 el f16 ol zl => ?_
 have g16 := Ext.trans f15 f16
 have F16 := Ext.trans (Ext.trans (Ext.trans (Ext.trans F11 f12) f13) f14) g16
 have o3 := (((o3.ext f12).ext f13).ext f14).ext g16
 have M0 := ((N0.ext f13).ext f14).ext g16
 have M1 := (N1.ext f14).ext g16
 have M2 := N2.ext g16
 have M3 := N3.ext f16
 have t0 := fun w (hw : w = 1 \/ w = 2) => @rT_times w a c hw ia ic na nc
 have t1 := fun w (hw : w = 1 \/ w = 2) => @rT_times w a d hw ia id' na nd
 have t2 := fun w (hw : w = 1 \/ w = 2) => @rT_times w b c hw ib ic nb nc
 have t3 := fun w (hw : w = 1 \/ w = 2) => @rT_times w b d hw ib id' nb nd
 have v0 := @tmV_bl (ofI a) (fW a) (ofI c) (fW c) ba bc
 have v1 := @tmV_bl (ofI a) (fW a) (ofI d) (fW d) ba bd
 have v2 := @tmV_bl (ofI b) (fW b) (ofI c) (fW c) bb bc
 have v3 := @tmV_bl (ofI b) (fW b) (ofI d) (fW d) bb bd
 generalize tmI (ofI a) (fW a) (ofI c) (fW c) = i0 at *
 generalize tmV (ofI a) (fW a) (ofI c) (fW c) = w0 at *
 generalize tmI (ofI a) (fW a) (ofI d) (fW d) = i1 at *
 generalize tmV (ofI a) (fW a) (ofI d) (fW d) = w1 at *
 generalize tmI (ofI b) (fW b) (ofI c) (fW c) = i2 at *
 generalize tmV (ofI b) (fW b) (ofI c) (fW c) = w2 at *
 generalize tmI (ofI b) (fW b) (ofI d) (fW d) = i3 at *
 generalize tmV (ofI b) (fW b) (ofI d) (fW d) = w3 at *
 have hN : ∀ x ∈ ([⟨i0, ng0, p0, n0, c0, e0, w0⟩, ⟨i1, ng1, p1, n1, c1, e1, w1⟩, ⟨i2, ng2, p2, n2, c2, e2, w2⟩, ⟨i3, ng3, p3, n3', c3, e3, w3⟩] : List EV), NumS 2148 h16 x.ng x.p x.n x.e x.v /\ bl x.v.natAbs <= 50000 := by
  intro x hx
  simp only [List.mem_cons, List.not_mem_nil, or_false] at hx
  rcases hx with rfl | rfl | rfl | rfl
  ·exact ⟨M0, by show bl w0.natAbs <= _; omega⟩
  ·exact ⟨M1, by show bl w1.natAbs <= _; omega⟩
  ·exact ⟨M2, by show bl w2.natAbs <= _; omega⟩
  ·exact ⟨M3, by show bl w3.natAbs <= _; omega⟩
 refine K1062 (xs := [⟨i0, ng0, p0, n0, c0, e0, w0⟩, ⟨i1, ng1, p1, n1, c1, e1, w1⟩, ⟨i2, ng2, p2, n2, c2, e2, w2⟩, ⟨i3, ng3, p3, n3', c3, e3, w3⟩]) ol rfl (by decide) (by decide) (fun k hk => ?_) hN (by decide) fun x y h17 hx hy' f17 hlo hhi => ?_
 ·have hk' : k < 4 := hk
  rcases (by omega : k = 0 \/ k = 1 \/ k = 2 \/ k = 3) with rfl | rfl | rfl | rfl <;> exact ⟨rfl, rfl, rfl, rfl⟩
 refine ⟨_, _, _, _, _, _, _, _, _, _, _, _, rfl, ?_⟩
 refine K1063 ((hN x hx).1.ext f17) ((hN y hy').1.ext f17) fun u w h18 f18 iu iw nu nw zu zw ru rw' => ⟨_, _, rfl, ret2 ((o3.ext f17).ext f18) fun h19 f19 => ?_⟩
 refine H u w h19 (Fr.trans (Ext.trans (Ext.trans F16 f17) f18) f19 fun x hx e => by omega) ⟨iu, iw, nu, nw, zu, zw, ?_, ?_⟩
 ·have q0 := rT_mono (w := 1) (K := 2148) (.inl rfl) (hlo _ (List.mem_cons_self ..))
  have q1 := rT_mono (w := 1) (K := 2148) (.inl rfl) (hlo ⟨i1, ng1, p1, n1, c1, e1, w1⟩ (by simp))
  have q2 := rT_mono (w := 1) (K := 2148) (.inl rfl) (hlo ⟨i2, ng2, p2, n2, c2, e2, w2⟩ (by simp))
  have q3 := rT_mono (w := 1) (K := 2148) (.inl rfl) (hlo ⟨i3, ng3, p3, n3', c3, e3, w3⟩ (by simp))
  have b0 := rT_bd 1 2148 i0 w0
  have e1 : loR (fun k => rk (timW 1 (ptX a b k) (ptY c d k))) 4 = min (min (min (min 9218868437227405312 (rk (timW 1 a c))) (rk (timW 1 a d))) (rk (timW 1 b c))) (rk (timW 1 b d)) := rfl
  have t0 := t0 1 (.inl rfl)
  have t1 := t1 1 (.inl rfl)
  have t2 := t2 1 (.inl rfl)
  have t3 := t3 1 (.inl rfl)
  have t0 : rT 1 2148 i0 w0 = rk (timW 1 a c) := t0
  have t1 : rT 1 2148 i1 w1 = rk (timW 1 a d) := t1
  have t2 : rT 1 2148 i2 w2 = rk (timW 1 b c) := t2
  have t3 : rT 1 2148 i3 w3 = rk (timW 1 b d) := t3
  rw [e1, <- t0, <- t1, <- t2, <- t3]
  have hm : rT 1 2148 x.i x.v = rT 1 2148 i0 w0 \/ rT 1 2148 x.i x.v = rT 1 2148 i1 w1 \/ rT 1 2148 x.i x.v = rT 1 2148 i2 w2 \/ rT 1 2148 x.i x.v = rT 1 2148 i3 w3 := by
   simp only [List.mem_cons, List.not_mem_nil, or_false] at hx
   rcases hx with rfl | rfl | rfl | rfl
   ·exact .inl rfl
   ·exact .inr (.inl rfl)
   ·exact .inr (.inr (.inl rfl))
   ·exact .inr (.inr (.inr rfl))
  have ru : rk u = rT 1 2148 x.i x.v := ru
  rw [ru]
  clear e1 t0 t1 t2 t3 ru hlo hhi hx hy' rw'
  simp only at q0 q1 q2 q3
  generalize rT 1 2148 x.i x.v = z at *
  generalize rT 1 2148 i0 w0 = z0 at *
  generalize rT 1 2148 i1 w1 = z1 at *
  generalize rT 1 2148 i2 w2 = z2 at *
  generalize rT 1 2148 i3 w3 = z3 at *
  omega
 ·have q0 := rT_mono (w := 2) (K := 2148) (.inr rfl) (hhi _ (List.mem_cons_self ..))
  have q1 := rT_mono (w := 2) (K := 2148) (.inr rfl) (hhi ⟨i1, ng1, p1, n1, c1, e1, w1⟩ (by simp))
  have q2 := rT_mono (w := 2) (K := 2148) (.inr rfl) (hhi ⟨i2, ng2, p2, n2, c2, e2, w2⟩ (by simp))
  have q3 := rT_mono (w := 2) (K := 2148) (.inr rfl) (hhi ⟨i3, ng3, p3, n3', c3, e3, w3⟩ (by simp))
  have b0 := rT_bd 2 2148 i0 w0
  have e1 : hiR (fun k => rk (timW 2 (ptX a b k) (ptY c d k))) 4 = max (max (max (max (-9218868437227405312) (rk (timW 2 a c))) (rk (timW 2 a d))) (rk (timW 2 b c))) (rk (timW 2 b d)) := rfl
  have t0 := t0 2 (.inr rfl)
  have t1 := t1 2 (.inr rfl)
  have t2 := t2 2 (.inr rfl)
  have t3 := t3 2 (.inr rfl)
  have t0 : rT 2 2148 i0 w0 = rk (timW 2 a c) := t0
  have t1 : rT 2 2148 i1 w1 = rk (timW 2 a d) := t1
  have t2 : rT 2 2148 i2 w2 = rk (timW 2 b c) := t2
  have t3 : rT 2 2148 i3 w3 = rk (timW 2 b d) := t3
  rw [e1, <- t0, <- t1, <- t2, <- t3]
  have hm : rT 2 2148 y.i y.v = rT 2 2148 i0 w0 \/ rT 2 2148 y.i y.v = rT 2 2148 i1 w1 \/ rT 2 2148 y.i y.v = rT 2 2148 i2 w2 \/ rT 2 2148 y.i y.v = rT 2 2148 i3 w3 := by
   simp only [List.mem_cons, List.not_mem_nil, or_false] at hy'
   rcases hy' with rfl | rfl | rfl | rfl
   ·exact .inl rfl
   ·exact .inr (.inl rfl)
   ·exact .inr (.inr (.inl rfl))
   ·exact .inr (.inr (.inr rfl))
  have rw' : rk w = rT 2 2148 y.i y.v := rw'
  rw [rw']
  clear e1 t0 t1 t2 t3 ru hlo hhi hx hy' rw'
  simp only at q0 q1 q2 q3
  generalize rT 2 2148 y.i y.v = z at *
  generalize rT 2 2148 i0 w0 = z0 at *
  generalize rT 2 2148 i1 w1 = z1 at *
  generalize rT 2 2148 i2 w2 = z2 at *
  generalize rT 2 2148 i3 w3 = z3 at *
  omega
end Go.Proofs
