import Derived.Test.YtpnfpefcjeafbaaGreatFmtA43
import Derived.Test.YtpnfpefcjeafbaaGreatFmtA44
/- Here stand lemmas and contracts, in the order in which they are used. -/
set_option linter.unusedVariables false
set_option linter.unusedVariables false
/-! sums.Dot and Norm of lists with what is not finite; plumblaw5.put, SumsSpecial. -/
namespace Go.Proofs
open Go Go.Eng
variable {B : World} {R : Ending → Heap → Prop} {h : Heap}
theorem sq0 (v : Int) : 0 ≤ v * v := by
  rcases Int.le_total 0 v with k | k
  · exact Int.mul_nonneg k k
  · have := Int.mul_nonneg (show 0 ≤ -v by omega) (show 0 ≤ -v by omega)
    rwa [Int.neg_mul_neg] at this
theorem anyT {α : Type} {f : α → Bool} {l : List α} {j : Nat} (hj : j < l.length) : (l.take (j + 1)).any f = ((l.take j).any f || f l[j]) := by
  rw [List.take_succ_eq_append_getElem hj, List.any_append]; simp
/-- The sum of the products of finite ones. -/
def dV : List (Int × Int) → Int
  | [] => 0
  | x :: l => (if isFin x.1 && isFin x.2 then fV x.1 * fV x.2 else 0) + dV l
theorem dV_append (a b : List (Int × Int)) : dV (a ++ b) = dV a + dV b := by
  induction a with
  | nil => simp [dV]
  | cons x l ih => simp only [List.cons_append, dV, ih]; omega
theorem dV_take {l : List (Int × Int)} {j : Nat} (hj : j < l.length) : dV (l.take (j + 1)) = dV (l.take j) + (if isFin l[j].1 && isFin l[j].2 then fV l[j].1 * fV l[j].2 else 0) := by
  rw [List.take_succ_eq_append_getElem hj, dV_append]
  show _ + (_ + 0) = _
  rw [Int.add_zero]
theorem dV_bd {K : Nat} (hK : K = 2098) (l : List (Int × Int)) : (dV l).natAbs ≤ l.length * 2 ^ (K + K) := by
  induction l with
  | nil => simp [dV]
  | cons x l ih =>
    rw [List.length_cons, Nat.add_mul, Nat.one_mul]
    simp only [dV]
    have h1 : (if isFin x.1 && isFin x.2 then fV x.1 * fV x.2 else 0).natAbs ≤ 2 ^ (K + K) := by
      cases h : (isFin x.1 && isFin x.2)
      · rw [if_neg (by decide)]; exact Nat.zero_le _
      · obtain ⟨a, b⟩ := Bool.and_eq_true_iff.1 h
        rw [if_pos rfl, Int.natAbs_mul, Nat.pow_add]
        exact Nat.mul_le_mul (fV_bd a hK) (fV_bd b hK)
    generalize 2 ^ (K + K) = Q at *
    generalize l.length * Q = P at *
    omega
theorem dV_bl {l : List (Int × Int)} (hl : l.length ≤ 4096) : bl (dV l).natAbs ≤ 5000 := by
  obtain ⟨K, hK⟩ : ∃ K, K = 2098 := ⟨_, rfl⟩
  have h1 := dV_bd hK l
  refine bl_of_lt (a := 13 + (K + K)) ?_ (by omega)
  rw [Nat.pow_add, show (2 : Nat) ^ 13 = 8192 by decide]
  have : l.length * 2 ^ (K + K) ≤ 4096 * 2 ^ (K + K) := Nat.mul_le_mul_right _ hl
  have hp : 0 < 2 ^ (K + K) := Nat.pow_pos (by decide)
  generalize 2 ^ (K + K) = Q at *
  omega
/-- A flag of a product that is not one of finite ones. -/
def outB (f : Int → Bool) (x : Int × Int) : Bool := !(isFin x.1 && isFin x.2) && f (mulP (nrm x.1) (nrm x.2))
/-- What sums.dotted asks of two floats. -/
theorem dot_flow {A : Lp} {b0 n c c2 j e eo : Nat} {g1 g2 : Value} {w nn : Int} {pa pb : OA} {x y : Int} (ix : I64 x) (iy : I64 y) (hj : j < n) (hn : n ≤ 4096)
    (C1 : cell? h ⟨e, 0 + (j : Int).toNat * 1, none⟩ = some (.float .f64 (wd x))) (C2 : cell? h ⟨eo, 0 + (j : Int).toNat * 1, none⟩ = some (.float .f64 (wd y)))
    (k7 : F1369_j7 B R A b0 (some ⟨e, 0, none⟩) n c (some ⟨eo, 0, none⟩) n c2 g1 g2 w pa pb (j : Int) nn (j : Int) (!(isFin x && isFin y)) h) :
    Ent Tryz.prog B 65 #[.float .f64 (wd x), .int .i64 (0 : Int)] (retE (fun t5 u5 => ∃ v5, t5 = .bool v5 ∧
      (v5 = true → F1369_j33 B R A b0 (some ⟨e, 0, none⟩) n c (some ⟨eo, 0, none⟩) n c2 g1 g2 w pa pb (j : Int) nn (j : Int) true u5) ∧
      (v5 = false → ixW (some ⟨eo, 0, none⟩) n (j : Int) 1 fun w5 x5 => iP w5 x5 fun y5 z5 => ∃ a6, cell? u5 ⟨y5, z5, none⟩ = some (.float .f64 a6) ∧
        Ent Tryz.prog B 65 #[.float .f64 a6, .int .i64 (0 : Int)] (retE (fun b6 c6 => ∃ d6, b6 = .bool d6 ∧
          F1369_j33 B R A b0 (some ⟨e, 0, none⟩) n c (some ⟨eo, 0, none⟩) n c2 g1 g2 w pa pb (j : Int) nn (j : Int) d6 c6) (fun _ _ => False)) u5)) (fun _ _ => False)) h := by
  have hsa : (FloatKind.f64.format.order (wd x) (wd x) != some .eq) = isNaN (sg (wd x)) := order_self (wd_lt _)
  have hsb : (FloatKind.f64.format.order (wd y) (wd y) != some .eq) = isNaN (sg (wd y)) := order_self (wd_lt _)
  rw [sg_wd ix] at hsa
  rw [sg_wd iy] at hsb
  have k46 : ∀ t : Bool, (t || isNaN y) = !(isFin x && isFin y) → F1369_j46 B R A b0 (some ⟨e, 0, none⟩) n c (some ⟨eo, 0, none⟩) n c2 g1 g2 w pa pb (j : Int) nn (j : Int) t h := fun t ht => by
    refine ⟨fun et => ?_, fun et => ⟨eo, 0, rfl, by omega, by omega, eo, _, rfl, wd y, C2, eo, 0, rfl, by omega, by omega, eo, _, rfl, wd y, C2, ?_⟩⟩
    · rw [et] at ht
      rw [← ht] at k7; exact k7
    · rw [et] at ht
      rw [hsb]
      rw [← ht] at k7; exact k7
  have k33 : ∀ t : Bool, (t || isNaN x || isNaN y) = !(isFin x && isFin y) → F1369_j33 B R A b0 (some ⟨e, 0, none⟩) n c (some ⟨eo, 0, none⟩) n c2 g1 g2 w pa pb (j : Int) nn (j : Int) t h := fun t ht => by
    refine ⟨fun et => ?_, fun et => ⟨e, 0, rfl, by omega, by omega, e, _, rfl, wd x, C1, e, 0, rfl, by omega, by omega, e, _, rfl, wd x, C1, ?_⟩⟩
    · refine k46 true ?_
      rw [et] at ht
      exact ht
    · rw [et] at ht
      rw [hsa]
      exact k46 _ ht
  have hx := fin_eq x
  have hy := fin_eq y
  refine K118 (wd_lt _) ⟨_, rfl, ?_⟩
  rw [sg_wd ix]
  refine ⟨fun ei => k33 true ?_, fun ei => ⟨eo, 0, rfl, by omega, by omega, eo, _, rfl, wd y, C2, K118 (wd_lt _) ⟨_, rfl, ?_⟩⟩⟩
  · rw [hx, ei]; simp
  · rw [sg_wd iy]
    refine k33 _ ?_
    rw [hx, hy, ei]
    cases isInf y <;> cases isNaN x <;> cases isNaN y <;> rfl
/-- sums.dotted, of lists whose products tell something else than a sum. -/
theorem K1369s {f1 f2 e eo n c c2 : Nat} {l l2 : List Int} {w S : Int} (A : FlsA h e l) (A2 : FlsA h eo l2) (hn : l.length = n) (hn2 : l2.length = n) (hl : n ≤ 4096) (hi : ∀ x ∈ l, I64 x) (hi2 : ∀ x ∈ l2, I64 x)
    (hpos : ∀ x ∈ l.zip l2, isFin x.1 = true → isFin x.2 = true → 0 ≤ fV x.1 * fV x.2)
    (hS : specF ((l.zip l2).any (outB infP)) ((l.zip l2).any (outB infM)) ((l.zip l2).any (outB isNaN)) = some S)
    (Hof : ∀ {R' : Ending → Heap → Prop} {h' : Heap} {w : Nat}, WI w S → R' (.returned (.int .i64 S)) h' → EntV Tryz.prog B (.func (.func f2) #[] #[]) #[.float .f64 w] R' h')
    (H : ∀ h', Ext h h' → R (.returned (.tuple #[.int .i64 S, .int .i64 (0 : Int)])) h') :
    Ent Tryz.prog B 42 #[.slice (some ⟨e, 0, none⟩) n c, .slice (some ⟨eo, 0, none⟩) n c2, .func (.func f1) #[] #[], .func (.func f2) #[] #[], .int .i64 w] R h := by
  obtain ⟨cs, oc, hs, hc⟩ := A
  obtain ⟨cs2, oc2, hs2, hc2⟩ := A2
  have hcell : ∀ {k : Heap} (j : Nat) (hj : j < l.length), Ext h k → cell? k ⟨e, 0 + (j : Int).toNat * 1, none⟩ = some (.float .f64 (wd l[j])) := fun j hj E => by
    rw [Int.toNat_natCast, Nat.mul_one, Nat.zero_add]
    exact ((oc.ext E).cell _).trans (hc j hj)
  have hcell2 : ∀ {k : Heap} (j : Nat) (hj : j < l2.length), Ext h k → cell? k ⟨eo, 0 + (j : Int).toNat * 1, none⟩ = some (.float .f64 (wd l2[j])) := fun j hj E => by
    rw [Int.toNat_natCast, Nat.mul_one, Nat.zero_add]
    exact ((oc2.ext E).cell _).trans (hc2 j hj)
  have hz : (l.zip l2).length = n := by rw [List.length_zip]; omega
  generalize hzz : l.zip l2 = z at *
  refine F1369_ok _ _ _ _ _ _ _ _ _ (alK fun a h1 e1 f1 o1 z1 => alK fun b h2 e2 f2 o2 z2 => ⟨fun m vs h' => match vs with
    | [.slice p1 n1 c1, .slice p2 n2 c2, g1, g2, .int _ ww, .pointer pa, .pointer pb, .int _ nn, .int _ i] => p1 = some (⟨e, 0, none⟩ : Addr) ∧ n = n1 ∧ p2 = some (⟨eo, 0, none⟩ : Addr) ∧ n = n2 ∧ g1 = .func (.func _) #[] #[] ∧ g2 = .func (.func _) #[] #[] ∧ w = ww ∧ pa = some (⟨a, 0, none⟩ : Addr) ∧ pb = some (⟨b, 0, none⟩ : Addr) ∧ nn = (n : Int) ∧
        ∃ j q : Nat, i = (j : Int) ∧ j ≤ n ∧ m = n - j ∧ Ext h h' ∧ Own h' a #[.bool ((z.take j).any (outB infP)), .bool ((z.take j).any (outB infM)), .bool ((z.take j).any (outB isNaN))] ∧ IntAt h' b q (dV (z.take j)) ∧ h.size ≤ q ∧ q ≠ a
    | _ => False, n, ⟨rfl, rfl, rfl, rfl, rfl, rfl, rfl, rfl, rfl, rfl, 0, b, rfl, by omega, rfl, Ext.trans f1 f2, o1.ext f2, ZeroAt.int o2, by have := f1.size; omega, by have := o1.lt; omega⟩, ?_⟩)
  have la := o1.lt
  have s1 := f1.size
  rintro m h' _ _ _ _ _ _ _ _ _ _ _ _ _ ⟨rfl, rfl, rfl, rfl, rfl, rfl, rfl, rfl, rfl, rfl, j, q, rfl, hj, rfl, E, Oa, T, hq, hqa⟩ _
  have hbl := dV_bl (l := z.take j) (by rw [List.length_take]; omega)
  refine ⟨fun e2 => ?_, fun e2 => ?_⟩
  · have hjl : j < l.length := by have := of_decide_eq_true e2; omega
    have hjl2 : j < l2.length := by omega
    have hjz : j < z.length := by omega
    have zj : z[j] = (l[j], l2[j]) := by subst hzz; rw [List.getElem_zip]
    have ix := hi l[j] (List.getElem_mem _)
    have iy := hi2 l2[j] (List.getElem_mem _)
    have hp := hpos z[j] (List.getElem_mem _)
    have ljl : j < n := by omega
    have C1 := hcell j hjl E
    have C2 := hcell2 j hjl2 E
    have p0 := anyT (f := outB infP) hjz
    have p1 := anyT (f := outB infM) hjz
    have p2 := anyT (f := outB isNaN) hjz
    have p3 := dV_take hjz
    rw [zj] at p0 p1 p2 p3 hp
    generalize l[j] = x at *
    generalize l2[j] = y at *
    have hsa : (FloatKind.f64.format.order (wd x) (wd x) != some .eq) = isNaN (sg (wd x)) := order_self (wd_lt _)
    have hsb : (FloatKind.f64.format.order (wd y) (wd y) != some .eq) = isNaN (sg (wd y)) := order_self (wd_lt _)
    rw [sg_wd ix] at hsa
    rw [sg_wd iy] at hsb
    have ns : IntKind.i64.wrap ((j : Int) + (1 : Int)) = ((j + 1 : Nat) : Int) := by rw [i64_in (by omega) (by omega)]; rfl
    refine ⟨e, 0, rfl, by omega, by omega, e, _, rfl, wd x, C1, ?_⟩
    refine dot_flow ix iy ljl hl C1 C2 ?_
    cases hf : (isFin x && isFin y)
    · rw [hf] at p3
      have p3 : dV (z.take (j + 1)) = dV (z.take j) := by rw [p3]; exact Int.add_zero _
      have o0 : ∀ f, outB f (x, y) = f (mulP (nrm x) (nrm y)) := fun f => by unfold outB; rw [hf]; rfl
      rw [o0] at p0 p1 p2
      refine ⟨fun _ => ⟨e, 0, rfl, by omega, by omega, e, _, rfl, wd x, C1, eo, 0, rfl, by omega, by omega, eo, _, rfl, wd y, C2, WI.mul (wi_wd ix) (wi_wd iy) fun t ht => K1370w Oa ht fun h3 f3 O3 => ⟨rfl, ?_⟩⟩, fun e => (by cases e)⟩
      have E3 : Ext h h3 := Fr.trans E f3 fun x hx k => by omega
      refine ⟨n - (j + 1), by omega, rfl, rfl, rfl, rfl, rfl, rfl, rfl, rfl, rfl, rfl, j + 1, q, ns, by omega, rfl, E3, ?_, ?_, hq, hqa⟩
      · rw [p0, p1, p2]; exact O3
      · rw [p3]; exact T.fr f3 (show ¬ b = a by omega) hqa
    · obtain ⟨fx, fy⟩ := Bool.and_eq_true_iff.1 hf
      rw [hf, if_pos rfl] at p3
      have o0 : ∀ f, outB f (x, y) = false := fun f => by unfold outB; rw [hf]; rfl
      rw [o0, Bool.or_false] at p0 p1 p2
      refine ⟨fun e => (by cases e), fun _ => ⟨e, 0, rfl, by omega, by omega, e, _, rfl, wd x, C1, eo, 0, rfl, by omega, by omega, eo, _, rfl, wd y, C2, ?_⟩⟩
      refine K1371q T ix fx iy fy (by omega) (hp fx fy) fun q' h4 f4 hq' T4 => ⟨rfl, n - (j + 1), by omega, rfl, rfl, rfl, rfl, rfl, rfl, rfl, rfl, rfl, rfl, j + 1, q', ns, by omega, rfl, ?_, ?_, ?_, ?_, ?_⟩
      · refine Fr.trans E f4 fun x hx k => ?_
        rcases k with k | k
        · omega
        · have := k.1; omega
      · rw [p0, p1, p2]; exact Oa.fr f4 fun k => by rcases k with k | k; omega; exact hqa k.1.symm
      · rw [p3]; exact T4
      · have := E.size; omega
      · have := E.size
        have := Oa.lt
        omega
  · have hjn : j = n := by have := of_decide_eq_false e2; omega
    rw [hjn, List.take_of_length_le (by omega)] at Oa
    refine K1372g Oa hS fun w W => ⟨_, _, rfl, fun _ => Hof W ⟨_, rfl, H h' E⟩, fun e => (by cases e)⟩
/-- sums.Dot, of such lists. -/
theorem K1363s {p p2 : Option Addr} {n c c2 : Nat} {l l2 : List Int} {w S : Int} (I : IntsH h p l) (I2 : IntsH h p2 l2) (hn : l.length = n) (hn2 : l2.length = n) (hl : n ≤ 4096) (h0 : 0 ≤ w) (h4 : w < 4)
    (hpos : ∀ x ∈ l.zip l2, isFin x.1 = true → isFin x.2 = true → 0 ≤ fV x.1 * fV x.2)
    (hS : specF ((l.zip l2).any (outB infP)) ((l.zip l2).any (outB infM)) ((l.zip l2).any (outB isNaN)) = some S)
    (H : ∀ h', Ext h h' → R (.returned (.tuple #[.int .i64 S, .int .i64 (0 : Int)])) h') : Ent Tryz.prog B 18 #[.slice p n c, .slice p2 n c2, .int .i64 w] R h := by
  refine F1363_ok _ _ _ _ _ _ _ (alK fun e h1 e1 f1 o1 z1 => K1364t o1 h0 h4 hl ⟨_, rfl, fun e => absurd e (by decide), fun _ => ?_⟩)
  refine K1366 (φ := id) (I.ext f1) hn (by omega) (fun x h' _ k => K54 k) fun e2 h2 f2 l2' A => ⟨_, _, _, rfl, ?_⟩
  refine K1366 (φ := id) ((I2.ext f1).ext f2) hn2 (by omega) (fun x h' _ k => K54 k) fun e3 h3 f3 l3 A3 => ⟨_, _, _, rfl, ?_⟩
  rw [List.map_id] at A A3
  refine K1369s (A.ext f3) A3 hn hn2 hl I.1 I2.1 hpos hS (fun {R' h' w} W k => ev0 (K56 W k)) fun h4 f4 => ⟨_, _, rfl, H h4 (Ext.trans (Ext.trans (Ext.trans f1 f2) f3) f4)⟩
/-- What sums.Norm tells of what is not finite. -/
def normS (l : List Int) : Int := if l.any infP || l.any infM then 9218868437227405312 else 9221120237041090561
/-- sums.Norm, of a list with what is not finite. -/
theorem K1387s {p : Option Addr} {n c : Nat} {l : List Int} {w : Int} (I : IntsH h p l) (hn : l.length = n) (hl : n ≤ 4096) (h0 : 0 ≤ w) (h4 : w < 4) (hS : (l.any infP || l.any infM || l.any isNaN) = true)
    (H : ∀ h', Ext h h' → R (.returned (.tuple #[.int .i64 (normS l), .int .i64 (0 : Int)])) h') : Ent Tryz.prog B 17 #[.slice p n c, .int .i64 w] R h := by
  refine F1387_ok _ _ _ _ (alK fun e h1 e1 f1 o1 z1 => K1364 o1 h0 h4 hl ⟨_, rfl, fun e => absurd e (by decide), fun _ => ?_⟩)
  refine alK fun a g1 ea fa oa za => alK fun b g2 eb fb ob zb => ?_
  have G := Ext.trans (Ext.trans f1 fa) fb
  refine K1366 (φ := id) (I.ext G) hn (by omega) (fun x h' _ k => K54 k) fun e2 h2 f2 l2 A => ⟨_, _, _, rfl, ?_⟩
  rw [List.map_id] at A
  obtain ⟨cs, oc, hs, hc⟩ := A
  have hcell : ∀ {k : Heap} (j : Nat) (hj : j < l.length), Ext h2 k → cell? k ⟨e2, 0 + (j : Int).toNat * 1, none⟩ = some (.float .f64 (wd l[j])) := fun j hj E => by
    rw [Int.toNat_natCast, Nat.mul_one, Nat.zero_add]
    exact ((oc.ext E).cell _).trans (hc j hj)
  have la := oa.lt
  have lb := ob.lt
  have s2 := f2.size
  refine ⟨fun m vs h' => match vs with
    | [.int _ ww, .pointer pa, .pointer pb, .slice p1 n1 c1, .int _ nn, .int _ i] => w = ww ∧ pa = some (⟨a, 0, none⟩ : Addr) ∧ pb = some (⟨b, 0, none⟩ : Addr) ∧ p1 = some (⟨e2, 0, none⟩ : Addr) ∧ n = n1 ∧ nn = (n : Int) ∧
        ∃ j q : Nat, i = (j : Int) ∧ j ≤ n ∧ m = n - j ∧ Fr (fun x => x = a ∨ x = b ∨ h2.size ≤ x) h2 h' ∧ Own h' a #[.bool ((l.take j).any infP), .bool ((l.take j).any infM), .bool ((l.take j).any isNaN)] ∧ IntAt h' b q (dV ((l.zip l).take j)) ∧ (q = b ∨ h2.size ≤ q)
    | _ => False, n, ⟨rfl, rfl, rfl, rfl, rfl, rfl, 0, b, rfl, by omega, rfl, Fr.rfl', (oa.ext fb).ext f2, (ZeroAt.int ob).ext f2, .inl rfl⟩, ?_⟩
  have hz : (l.zip l).length = n := by rw [List.length_zip]; omega
  rintro m h' _ _ _ _ _ _ _ _ ⟨rfl, rfl, rfl, rfl, rfl, rfl, j, q, rfl, hj, rfl, F, Oa, T, hq⟩ _
  have hbl := dV_bl (l := (l.zip l).take j) (by rw [List.length_take]; omega)
  have hea : e2 ≠ a := by have := fb.size; omega
  have heb : e2 ≠ b := by omega
  have hab : a ≠ b := by omega
  have hqa : q ≠ a := by omega
  have C : ∀ {k : Heap} (hj : j < l.length), Fr (fun x => x = a ∨ x = b ∨ h2.size ≤ x) h2 k → cell? k ⟨e2, 0 + (j : Int).toNat * 1, none⟩ = some (.float .f64 (wd l[j])) := fun {k} hj F' => by
    have lo := oc.lt
    have o2 := oc.fr F' (by omega)
    rw [Int.toNat_natCast, Nat.mul_one, Nat.zero_add]
    exact (o2.cell _).trans (hc j hj)
  have sF := F.size
  refine ⟨fun e3 => ?_, fun e3 => ?_⟩
  · have hjl : j < l.length := by have := of_decide_eq_true e3; omega
    have hjz : j < (l.zip l).length := by omega
    have zj : (l.zip l)[j] = (l[j], l[j]) := by rw [List.getElem_zip]
    have p3 := dV_take hjz
    rw [zj] at p3
    have ij := I.1 l[j] (List.getElem_mem _)
    have ns : IntKind.i64.wrap ((j : Int) + (1 : Int)) = ((j + 1 : Nat) : Int) := by rw [i64_in (by omega) (by omega)]; rfl
    refine ⟨e2, 0, rfl, by omega, by omega, e2, _, rfl, wd l[j], C hjl F, K1370g Oa ij fun h3 f3 O3 => ⟨rfl, ?_⟩⟩
    have F3 : Fr (fun x => x = a ∨ x = b ∨ h2.size ≤ x) h2 h3 := Fr.trans F f3 fun x hx k => .inl k
    have T3 := T.fr f3 (show ¬ b = a by omega) hqa
    rw [← any_take hjl, ← any_take hjl, ← any_take hjl] at O3
    cases hf : isFin l[j]
    · rw [hf] at p3
      have p3 : dV ((l.zip l).take (j + 1)) = dV ((l.zip l).take j) := by rw [p3]; exact Int.add_zero _
      refine K1371n ij ij rfl (by rw [hf]; rfl) ⟨rfl, n - (j + 1), by omega, rfl, rfl, rfl, rfl, rfl, rfl, j + 1, q, ns, by omega, rfl, F3, O3, ?_, hq⟩
      rw [p3]; exact T3
    · rw [hf, Bool.and_self, if_pos rfl] at p3
      refine K1371q T3 ij hf ij hf (by omega) (sq0 _) fun q' h4 f4 hq' T4 => ⟨rfl, n - (j + 1), by omega, rfl, rfl, rfl, rfl, rfl, rfl, j + 1, q', ns, by omega, rfl, ?_, ?_, ?_, ?_⟩
      · refine Fr.trans F3 f4 fun x hx k => ?_
        rcases k with k | k
        · exact .inr (.inl k)
        · have := k.1
          rcases hq with e | e
          · exact .inr (.inl (by omega))
          · exact .inr (.inr (by omega))
      · exact O3.fr f4 fun k => by rcases k with k | k; omega; exact hqa k.1.symm
      · rw [p3]; exact T4
      · have := F3.size; omega
  · have hjn : j = n := by have := of_decide_eq_false e3; omega
    rw [hjn, List.take_of_length_le (by omega)] at Oa
    have E : Ext h h' := Fr.trans (S := fun _ => False) (Ext.trans G f2) F fun x hx k => by
      have s1 := f1.size
      have s3 := fa.size
      have s4 := fb.size
      rcases k with k | k | k <;> omega
    have hk13 : F1387_j13 B R w (some ⟨a, 0, none⟩) (some ⟨b, 0, none⟩) (l.any infP || l.any infM) h' := by
      have HH := H h' E
      unfold normS at HH
      cases hc' : (l.any infP || l.any infM)
      · rw [hc'] at hS HH
        rw [if_neg (by decide)] at HH
        refine ⟨fun e => (by cases e), fun _ => ⟨a, 0, rfl, a, 0 + 2, rfl, l.any isNaN, (Oa.cell _).trans rfl, fun _ => HH, fun e => ?_⟩⟩
        rw [e] at hS; cases hS
      · rw [hc', if_pos rfl] at HH
        exact ⟨fun _ => HH, fun e => (by cases e)⟩
    refine ⟨a, 0, rfl, a, 0, rfl, l.any infP, (Oa.cell _).trans rfl, fun e => ?_, fun e => ⟨a, 0, rfl, a, 0 + 1, rfl, l.any infM, (Oa.cell _).trans rfl, ?_⟩⟩
    · rw [e] at hk13; exact hk13
    · rw [e] at hk13; exact hk13
theorem IntsH.part {p : Option Addr} {l : List Int} {a c m : Nat} (I : IntsH h p l) (ha : a + m ≤ l.length) (hc : l.length ≤ c) : IntsH h (slP p a c 1) ((l.drop a).take m) := by
  refine ⟨fun x hx => I.1 x (List.mem_of_mem_drop (List.mem_of_mem_take hx)), ?_⟩
  rcases Nat.eq_zero_or_pos m with k | k
  · subst k; exact .inl (by simp)
  rcases I.2 with e | ⟨b, o, e, hb, g⟩
  · subst e; simp at ha; omega
  subst e
  refine .inr ⟨b, o + a, ?_, hb, fun i hi => ?_⟩
  · unfold slP
    rw [if_neg (by omega), Nat.mul_one]
    simp [Addr.add]
  · rw [List.length_take, List.length_drop] at hi
    rw [List.getElem_take, List.getElem_drop, show o + a + i = o + (a + i) by omega]
    exact g _ (by omega)
/-- plumblaw5.put. -/
theorem K1386 {g : Heap} {p px : Option Addr} {n c k m cx : Nat} {l xs : List Int} (L : Lj g h p n c l) (X : IntsH h px xs) (hx : xs.length = m) (hpx : Pt px) (hk : k ≤ n) (hlim : n + m ≤ 100000)
    (H : ∀ q c' h', Ext h h' → Lj h h' q (k + m + (n - k)) c' (l.take k ++ xs ++ l.drop k) → R (.returned (.slice q (k + m + (n - k)) c')) h') :
    Ent Tryz.prog B 16 #[.slice p n c, .int .i64 (k : Int), .slice px m cx] R h := by
  have ll := L.len
  have lc := L.le
  refine F1386_ok _ _ _ _ _ _ _ (sl_to rfl (by omega) (sl_from rfl (by omega) ?_))
  have I1 : IntsH h (slP p 0 c 1) (l.take k) := by
    have := IntsH.part L.ints (a := 0) (m := k) (c := c) (by omega) (by omega)
    rwa [List.drop_zero] at this
  have I2 : IntsH h (slP p k c 1) (l.drop k) := by
    have := IntsH.part L.ints (a := k) (m := n - k) (c := c) (by omega) (by omega)
    rwa [List.take_of_length_le (by rw [List.length_drop]; omega)] at this
  rw [Nat.sub_zero]
  refine apJN (h0 := h) (T := fun _ => False) Lj.nil Fr.rfl' (by omega) I1 (by rw [List.length_take]; omega) (L.pt.slP _ _) fun q1 c1 h1 L1 f1 _ => ?_
  rw [Nat.zero_add] at L1 ⊢
  rw [List.nil_append] at L1
  refine apJN (T := fun _ => False) L1 f1 (by omega) (X.ext f1) hx hpx fun q2 c2 h2 L2 f2 _ => ?_
  refine apJN (T := fun _ => False) L2 f2 (by omega) (I2.ext f2) (by rw [List.length_drop]; omega) (L.pt.slP _ _) fun q3 c3 h3 L3 f3 _ => ?_
  exact H q3 c3 h3 f3 L3
end Go.Proofs
set_option linter.unusedVariables false
/-! plumblaw5.SumsSpecial. -/
namespace Go.Proofs
open Go Go.Eng
variable {B : World} {R : Ending → Heap → Prop} {h : Heap}
abbrev PInf : Int := 9218868437227405312
abbrev MInf : Int := -4503599627370496
abbrev PNan : Int := 9221120237041090561
theorem any_false {l : List Int} (hf : ∀ y ∈ l, isFin y = true) : l.any infP = false ∧ l.any infM = false ∧ l.any isNaN = false := by
  refine ⟨?_, ?_, ?_⟩ <;> rw [List.any_eq_false] <;> intro x hx <;> have := inf_fin (hf x hx)
  · rw [this.1]; decide
  · rw [this.2.1]; decide
  · rw [this.2.2]; decide
theorem any_put {l xs : List Int} {k : Nat} (hf : ∀ y ∈ l, isFin y = true) : (l.take k ++ xs ++ l.drop k).any infP = xs.any infP ∧ (l.take k ++ xs ++ l.drop k).any infM = xs.any infM ∧ (l.take k ++ xs ++ l.drop k).any isNaN = xs.any isNaN := by
  obtain ⟨a1, a2, a3⟩ := any_false (l := l.take k) fun y hy => hf y (List.mem_of_mem_take hy)
  obtain ⟨b1, b2, b3⟩ := any_false (l := l.drop k) fun y hy => hf y (List.mem_of_mem_drop hy)
  simp only [List.any_append, a1, a2, a3, b1, b2, b3, Bool.false_or, Bool.or_false, and_self]
theorem spec_put {l xs : List Int} {k : Nat} (hf : ∀ y ∈ l, isFin y = true) : specL (l.take k ++ xs ++ l.drop k) = specL xs := by
  obtain ⟨a, b, c⟩ := any_put (xs := xs) (k := k) hf
  unfold specL
  rw [a, b, c]
theorem norm_put {l xs : List Int} {k : Nat} (hf : ∀ y ∈ l, isFin y = true) : normS (l.take k ++ xs ++ l.drop k) = normS xs := by
  obtain ⟨a, b, c⟩ := any_put (xs := xs) (k := k) hf
  unfold normS
  rw [a, b]
theorem zip_same {l : List Int} : ∀ x ∈ l.zip l, x.1 = x.2 ∧ x.1 ∈ l := by
  induction l with
  | nil => intro x hx; cases hx
  | cons a r ih =>
    intro x hx
    rw [List.zip_cons_cons] at hx
    rcases List.mem_cons.1 hx with e | e
    · subst e; exact ⟨rfl, by simp⟩
    · exact ⟨(ih x e).1, List.mem_cons_of_mem _ (ih x e).2⟩
theorem zip_put {l : List Int} {k : Nat} (a b : Int) : (l.take k ++ [a] ++ l.drop k).zip (l.take k ++ [b] ++ l.drop k) = (l.take k).zip (l.take k) ++ [(a, b)] ++ (l.drop k).zip (l.drop k) := by
  rw [List.zip_append (by simp), List.zip_append (by simp)]; rfl
theorem out_false {l : List Int} {f : Int → Bool} (hf : ∀ y ∈ l, isFin y = true) : (l.zip l).any (outB f) = false := by
  rw [List.any_eq_false]
  intro x hx
  obtain ⟨e, m⟩ := zip_same x hx
  unfold outB
  rw [← e, hf _ m]
  simp
theorem out_put {l : List Int} {k : Nat} {f : Int → Bool} (hf : ∀ y ∈ l, isFin y = true) (a b : Int) : ((l.take k ++ [a] ++ l.drop k).zip (l.take k ++ [b] ++ l.drop k)).any (outB f) = outB f (a, b) := by
  rw [zip_put, List.any_append, List.any_append, out_false fun y hy => hf y (List.mem_of_mem_take hy), out_false fun y hy => hf y (List.mem_of_mem_drop hy)]
  simp
/-- The calls of SumsSpecial. -/
theorem K1380j {g : Heap} {p : Option Addr} {n c k : Nat} {la : List Int} {what : Int} (ht : TabH h) (L : Lj g h p n c la) (hn : n ≤ 100) (hf : ∀ y ∈ la, isFin y = true) (hk : k ≤ n)
    (H : ∀ h', Ext h h' → R (.returned (.bool true)) h') : F1380_j8 B R what p n c PInf MInf PNan (k : Int) h := by
  obtain ⟨w, hw, w0, w4⟩ := way_in what
  have ip : I64 PInf := by unfold I64 PInf; omega
  have im : I64 MInf := by unfold I64 MInf; omega
  have iN : I64 PNan := by unfold I64 PNan; omega
  have i0 : I64 0 := by unfold I64; omega
  have two : ∀ {k : Heap} {b : Nat} {x y : Int}, Own k b #[.int .i64 x, .int .i64 y] → I64 x → I64 y → IntsH k (some ⟨b, 0, none⟩) [x, y] := fun {k b x y} O ix iy => by
    refine ⟨fun z hz => ?_, .inr ⟨b, 0, rfl, O.lt, fun i hi => ?_⟩⟩
    · rcases List.mem_cons.1 hz with e | e
      · rw [e]; exact ix
      · rw [List.mem_singleton.1 e]; exact iy
    · have : i = 0 ∨ i = 1 := by simp at hi; omega
      rcases this with rfl | rfl
      · exact (O.cell _).trans rfl
      · exact (O.cell _).trans rfl
  have one : ∀ {k : Heap} {b : Nat} {x : Int}, Own k b #[.int .i64 x] → I64 x → IntsH k (some ⟨b, 0, none⟩) [x] := fun {k b x} O ix => by
    refine ⟨fun z hz => by rw [List.mem_singleton.1 hz]; exact ix, .inr ⟨b, 0, rfl, O.lt, fun i hi => ?_⟩⟩
    have : i = 0 := by simp at hi; omega
    subst this
    exact (O.cell _).trans rfl
  have ll := L.len
  unfold F1380_j8
  rw [hw]
  refine alK fun r1 h1 e1 f1 o1 z1 => K1386 (L.ext f1) (one o1 ip) rfl pt_some hk (by omega) fun q1 c1 g1 f2 L1 => ⟨_, _, _, rfl, ?_⟩
  refine K1360s (S := PInf) L1.ints L1.len (by omega) (by rw [spec_put hf]; decide +kernel) w0 w4 fun h2 f3 => ⟨_, _, rfl, ?_⟩
  have F2 := Ext.trans (Ext.trans f1 f2) f3
  refine alK fun r2 h3 e2 f4 o2 z2 => K1386 (L.ext (Ext.trans F2 f4)) (two o2 im im) rfl pt_some hk (by omega) fun q2 c2 g2 f5 L2 => ⟨_, _, _, rfl, ?_⟩
  refine K1360s (S := MInf) L2.ints L2.len (by omega) (by rw [spec_put hf]; decide +kernel) w0 w4 fun h4 f6 => ⟨_, _, rfl, ?_⟩
  have F4 := Ext.trans (Ext.trans (Ext.trans F2 f4) f5) f6
  refine alK fun r3 h5 e3 f7 o3 z3 => K1386 (L.ext (Ext.trans F4 f7)) (two o3 ip im) rfl pt_some hk (by omega) fun q3 c3 g3 f8 L3 => ⟨_, _, _, rfl, ?_⟩
  refine K1360s (S := PNan) L3.ints L3.len (by omega) (by rw [spec_put hf]; decide +kernel) w0 w4 fun h6 f9 => ⟨_, _, rfl, ?_⟩
  have F6 := Ext.trans (Ext.trans (Ext.trans F4 f7) f8) f9
  refine alK fun r4 h7 e4 f10 o4 z4 => K1386 (L.ext (Ext.trans F6 f10)) (two o4 iN ip) rfl pt_some hk (by omega) fun q4 c4 g4 f11 L4 => ⟨_, _, _, rfl, ?_⟩
  refine K1360s (S := PNan) L4.ints L4.len (by omega) (by rw [spec_put hf]; decide +kernel) w0 w4 fun h8 f12 => ⟨_, _, rfl, ?_⟩
  have F8 := Ext.trans (Ext.trans (Ext.trans F6 f10) f11) f12
  refine alK fun r5 h9 e5 f13 o5 z5 => K1386 (L.ext (Ext.trans F8 f13)) (two o5 iN im) rfl pt_some hk (by omega) fun q5 c5 g5 f14 L5 => ⟨_, _, _, rfl, ?_⟩
  obtain ⟨a1, a2, a3⟩ := any_put (xs := [PNan, MInf]) (k := k) hf
  refine K1387s L5.ints L5.len (by omega) w0 w4 (by rw [a1, a2, a3]; decide +kernel) fun h10 f15 => ⟨_, _, rfl, ?_⟩
  rw [norm_put hf]
  have F10 := Ext.trans (Ext.trans (Ext.trans F8 f13) f14) f15
  refine alK fun r6 h11 e6 f16 o6 z6 => K1386 (L.ext (Ext.trans F10 f16)) (one o6 iN) rfl pt_some hk (by omega) fun q6 c6 g6 f17 L6 => ⟨_, _, _, rfl, ?_⟩
  obtain ⟨b1, b2, b3⟩ := any_put (xs := [PNan]) (k := k) hf
  refine K1387s L6.ints L6.len (by omega) w0 w4 (by rw [b1, b2, b3]; decide +kernel) fun h12 f18 => ⟨_, _, rfl, ?_⟩
  rw [norm_put hf]
  have F12 := Ext.trans (Ext.trans (Ext.trans F10 f16) f17) f18
  refine alK fun r7 h13 e7 f19 o7 z7 => K1386 (L.ext (Ext.trans F12 f19)) (one o7 ip) rfl pt_some hk (by omega) fun q7 c7 g7 f20 L7 => ⟨_, _, _, rfl, ?_⟩
  have F14 := Ext.trans (Ext.trans F12 f19) f20
  refine alK fun r8 h15 e8 f21 o8 z8 => K1386 (L.ext (Ext.trans F14 f21)) (one o8 i0) rfl pt_some hk (by omega) fun q8 c8 g8 f22 L8 => ⟨_, _, _, rfl, ?_⟩
  have F16 := Ext.trans (Ext.trans F14 f21) f22
  refine K1363s (S := PNan) ((L7.ext f21).ext f22).ints L8.ints L7.len L8.len (by omega) w0 w4 (fun x hx h1 h2 => ?_) ?_ fun h17 f23 => ⟨_, _, rfl, ?_⟩
  · rw [zip_put] at hx
    rcases List.mem_append.1 hx with hx | hx
    · rcases List.mem_append.1 hx with hx | hx
      · rw [← (zip_same x hx).1]; exact sq0 _
      · rw [List.mem_singleton.1 hx] at h1
        exact absurd h1 (by decide)
    · rw [← (zip_same x hx).1]; exact sq0 _
  · rw [out_put hf, out_put hf, out_put hf]
    decide +kernel
  have F17 := Ext.trans F16 f23
  have e4w : IntKind.i64.wrap ((4 : Int) + w) = 4 + w := i64_in (by omega) (by omega)
  rw [e4w]
  refine K1360x (by omega) fun h18 f24 => ⟨_, _, rfl, ?_⟩
  have F18 := Ext.trans F17 f24
  refine K1361 (ht.fr F18 id) fun h19 f25 => ⟨_, rfl, fun _ => ?_, fun e => (by cases e)⟩
  have e1' : normS [PNan, MInf] = PInf := by decide +kernel
  have e2' : normS [PNan] = PNan := by decide +kernel
  rw [e1', e2']
  have HH := H h19 (Ext.trans F18 f25)
  refine ⟨fun _ => ⟨fun _ => ⟨fun _ => ⟨fun _ => ⟨fun _ => ⟨fun _ => ⟨fun _ => ⟨fun _ => ⟨fun _ => ⟨fun _ => HH, fun e => absurd e (by decide)⟩, fun e => absurd e (by decide)⟩, fun e => absurd e (by decide)⟩, fun e => absurd e (by decide)⟩, fun e => absurd e (by decide)⟩, fun e => absurd e (by decide)⟩, fun e => absurd e (by decide)⟩, fun e => absurd e (by decide)⟩, fun e => absurd e (by decide)⟩, fun e => absurd e (by decide)⟩
/-- plumblaw5.SumsSpecial. -/
theorem K1380 {p : Option Addr} {n c : Nat} {xs : List Int} {at_ what : Int} (ht : TabH h) (I : IntsH h p xs) (hn : xs.length = n) (hm : n < 9223372036854775808) (H : ∀ h', Ext h h' → R (.returned (.bool true)) h') :
    Ent Tryz.prog B 4 #[.slice p n c, .int .i64 at_, .int .i64 what] R h := by
  refine F1380_ok _ _ _ _ _ (K1359 (N := 100) (by decide) I hn hm fun p1 n1 c1 la h1 f1 L1 m1 g1 => ⟨_, _, _, rfl, ?_⟩)
  refine K99 (by unfold I64; omega) ⟨_, rfl, ?_⟩
  have e0 : negP 9218868437227405312 = MInf := by decide +kernel
  rw [e0]
  have T1 := ht.fr f1 id
  have HH : ∀ h', Ext h1 h' → R (.returned (.bool true)) h' := fun h' f => H h' (Ext.trans f1 f)
  refine ⟨fun e => ⟨?_, ?_⟩, fun _ => K1380j (k := 0) T1 L1 m1 g1 (by omega) HH⟩
  · rw [i64_in (by omega) (by omega)]; omega
  · rw [i64_in (x := (n1 : Int) + 1) (by omega) (by omega)]
    have e3 := and_i64 (x := at_) (m := 1073741823) (by decide)
    have e4 : bitsI .and .i64 at_ (1073741823 : Int) = (((at_ % 18446744073709551616).toNat &&& 1073741823 : Nat) : Int) := e3
    rw [e4]
    generalize ((at_ % 18446744073709551616).toNat &&& 1073741823) = a
    have e5 : Int.tmod (a : Int) ((n1 : Int) + 1) = ((a % (n1 + 1) : Nat) : Int) := by
      rw [show (n1 : Int) + 1 = ((n1 + 1 : Nat) : Int) by omega]; rfl
    rw [e5]
    exact K1380j T1 L1 m1 g1 (by have := Nat.mod_lt a (show 0 < n1 + 1 by omega); omega) HH
end Go.Proofs
