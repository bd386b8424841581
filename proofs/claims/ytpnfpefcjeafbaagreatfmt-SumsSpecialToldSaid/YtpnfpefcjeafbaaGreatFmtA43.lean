import Derived.Test.YtpnfpefcjeafbaaGreatFmtA42
import Derived.Test.YtpnfpefcjeafbaaGreatFmtA33
import Derived.Test.YtpnfpefcjeafbaaGreatFmtA26
/- Here stand lemmas and contracts, in the order in which they are used. -/
set_option linter.unusedVariables false
set_option linter.unusedVariables false
/-! sums.Sum and Dot of lists with what is not finite. -/
namespace Go.Eng
open Go
def infP (a : Int) : Bool := isInf a && decide (0 ≤ a)
def infM (a : Int) : Bool := isInf a && decide (a < 0)
theorem inf_fin {a : Int} (f : isFin a = true) : infP a = false ∧ infM a = false ∧ isNaN a = false := by
  obtain ⟨h1, h2⟩ := fin_not f
  unfold infP infM
  rw [h2]; exact ⟨rfl, rfl, h1⟩
end Go.Eng
namespace Go.Proofs
open Go Go.Eng
variable {B : World} {R : Ending → Heap → Prop} {h : Heap}
theorem see_rk {a : Int} (ia : I64 a) (na : isNaN a = false) : (decide (9218868437227405311 < rk a) = infP a) ∧ (decide (rk a < -9218868437227405311) = infM a) := by
  have hi : isInf a = !isFin a := by
    have := fin_eq a
    rw [na] at this
    cases h1 : isInf a <;> rw [h1] at this <;> rw [this] <;> rfl
  cases hf : isFin a
  · have r := rk_inf ia na hf
    rw [hf] at hi
    unfold infP infM
    rw [hi]
    simp only [Bool.not_false, Bool.true_and]
    unfold rk at *
    unfold I64 at ia
    constructor <;> rw [decide_eq_decide] <;> split at r <;> constructor <;> intro h <;> omega
  · obtain ⟨r1, r2⟩ := fin_rk ia hf
    obtain ⟨i1, i2, _⟩ := inf_fin hf
    rw [i1, i2]
    exact ⟨decide_eq_false (by omega), decide_eq_false (by omega)⟩
theorem see_gt {a : Int} (ia : I64 a) : (FloatKind.f64.format.order (wd a) 9218868437227405311 == some .gt) = infP a := by
  cases hn : isNaN a
  · have h1 := order_rk ia (b := 9218868437227405311) (by unfold I64; omega) hn (by decide +kernel)
    rw [wmax, show rk 9218868437227405311 = 9218868437227405311 from by decide] at h1
    rw [h1, gt_ord]
    exact (see_rk ia hn).1
  · have h1 := order_nan ia (b := 9218868437227405311) (by unfold I64; omega) (.inl hn)
    rw [wmax] at h1
    rw [h1]
    unfold infP
    rw [nan_inf hn]; rfl
theorem see_lt {a : Int} (ia : I64 a) : (FloatKind.f64.format.order (wd a) 18442240474082181119 == some .lt) = infM a := by
  cases hn : isNaN a
  · have h1 := order_rk ia (b := -4503599627370497) (by unfold I64; omega) hn (by decide +kernel)
    rw [show wd (-4503599627370497) = 18442240474082181119 from by decide, show rk (-4503599627370497) = -9218868437227405311 from by decide] at h1
    rw [h1, lt_ord]
    exact (see_rk ia hn).2
  · have h1 := order_nan ia (b := -4503599627370497) (by unfold I64; omega) (.inl hn)
    rw [show wd (-4503599627370497) = 18442240474082181119 from by decide] at h1
    rw [h1]
    unfold infM
    rw [nan_inf hn]; rfl
/-- met.see. -/
theorem K1370g {b : Nat} {a : Int} {p m n : Bool} (O : Own h b #[.bool p, .bool m, .bool n]) (ia : I64 a) (H : ∀ h', Fr (fun x => x = b) h h' → Own h' b #[.bool (p || infP a), .bool (m || infM a), .bool (n || isNaN a)] → R (.returned (.tuple #[])) h') :
    Ent Tryz.prog B 38 #[.pointer (some ⟨b, 0, none⟩), .float .f64 (wd a)] R h := by
  have hs : (FloatKind.f64.format.order (wd a) (wd a) != some .eq) = isNaN (sg (wd a)) := order_self (wd_lt _)
  rw [sg_wd ia] at hs
  have k56 : ∀ {h1 : Heap}, Fr (fun x => x = b) h h1 → Own h1 b #[.bool (p || infP a), .bool (m || infM a), .bool n] → F1370_j56 B R (some ⟨b, 0, none⟩) (n || isNaN a) h1 := fun f o =>
    ⟨b, 0, rfl, b, 0, rfl, b, 0 + 2, rfl, o.stC (by simp) rfl fun oc fc => H _ (Fr.trans (S := fun x => x = b) f fc fun _ _ e => e) oc⟩
  have k2 : ∀ {h1 : Heap}, Fr (fun x => x = b) h h1 → Own h1 b #[.bool (p || infP a), .bool (m || infM a), .bool n] → F1370_j2 B R (some ⟨b, 0, none⟩) (wd a) h1 := fun f o => by
    refine ⟨b, 0, rfl, b, 0, rfl, b, 0 + 2, rfl, n, (o.cell _).trans rfl, fun e => ?_, fun e => ?_⟩
    · have := k56 f o
      rw [e] at this; exact this
    · have := k56 f o
      rw [hs]
      rw [e] at this; exact this
  have k33 : ∀ {h1 : Heap}, Fr (fun x => x = b) h h1 → Own h1 b #[.bool (p || infP a), .bool m, .bool n] → F1370_j33 B R (some ⟨b, 0, none⟩) (wd a) (some ⟨b, 0, none⟩) (m || infM a) h1 := fun f o =>
    ⟨b, 0, rfl, b, 0, rfl, b, 0 + 1, rfl, o.stC (by simp) rfl fun oc fc => k2 (Fr.trans (S := fun x => x = b) f fc fun _ _ e => e) oc⟩
  have k1 : ∀ {h1 : Heap}, Fr (fun x => x = b) h h1 → Own h1 b #[.bool (p || infP a), .bool m, .bool n] → F1370_j1 B R (some ⟨b, 0, none⟩) (wd a) h1 := fun f o => by
    refine ⟨b, 0, rfl, b, 0, rfl, b, 0 + 1, rfl, m, (o.cell _).trans rfl, fun e => ?_, fun e => ?_⟩
    · have := k33 f o
      rw [e] at this; exact this
    · have := k33 f o
      rw [see_lt ia]
      rw [e] at this; exact this
  have k10 : F1370_j10 B R (some ⟨b, 0, none⟩) (wd a) (some ⟨b, 0, none⟩) (p || infP a) h :=
    ⟨b, 0, rfl, b, 0, rfl, b, 0, rfl, O.stC (by simp) rfl fun oc fc => k1 fc oc⟩
  refine F1370_ok _ _ ⟨b, 0, rfl, b, 0, rfl, b, 0, rfl, p, (O.cell _).trans rfl, fun e => ?_, fun e => ?_⟩
  · rw [e] at k10; exact k10
  · rw [see_gt ia]
    rw [e] at k10; exact k10
/-- met.see, by a word. -/
theorem K1370w {b w : Nat} {a : Int} {p m n : Bool} (O : Own h b #[.bool p, .bool m, .bool n]) (W : WI w a) (H : ∀ h', Fr (fun x => x = b) h h' → Own h' b #[.bool (p || infP a), .bool (m || infM a), .bool (n || isNaN a)] → R (.returned (.tuple #[])) h') :
    Ent Tryz.prog B 38 #[.pointer (some ⟨b, 0, none⟩), .float .f64 w] R h := by
  rw [← wd_sg W.1]
  have e1 : infP (sg w) = infP a ∧ infM (sg w) = infM a := by
    cases hn : isNaN a
    · rw [W.eq hn]; exact ⟨rfl, rfl⟩
    · have h2 := W.nan
      rw [hn] at h2
      unfold infP infM
      rw [nan_inf hn, nan_inf h2]; exact ⟨rfl, rfl⟩
  refine K1370g O (sg_I64 W.1) fun h' f o => H h' f ?_
  rw [e1.1, e1.2, W.nan] at o
  exact o
/-- What is told of flags. -/
def specF (p m n : Bool) : Option Int := if n || (p && m) then some 9221120237041090561 else if p then some 9218868437227405312 else if m then some (-4503599627370496) else none
/-- met.special. -/
theorem K1372g {b : Nat} {p m n : Bool} {S : Int} (O : Own h b #[.bool p, .bool m, .bool n]) (hS : specF p m n = some S) (H : ∀ w, WI w S → R (.returned (.tuple #[.float .f64 w, .bool true])) h) :
    Ent Tryz.prog B 63 #[.pointer (some ⟨b, 0, none⟩)] R h := by
  have wn : WI 9221120237041090561 9221120237041090561 := ⟨by decide, by decide +kernel⟩
  have wp : WI 9218868437227405312 9218868437227405312 := ⟨by decide, by decide +kernel⟩
  have wm : WI 18442240474082181120 (-4503599627370496) := ⟨by decide, by decide +kernel⟩
  have j2t : S = 9221120237041090561 → F1372_j2 B R (some ⟨b, 0, none⟩) true h := fun e => ⟨fun _ => F1087_ok (E116 (n := 9221120237041090561) ⟨_, rfl, ⟨_, rfl, H _ (by rw [e]; exact wn)⟩⟩), fun e => (by cases e)⟩
  have j2f : (n || (p && m)) = false → F1372_j2 B R (some ⟨b, 0, none⟩) false h := fun hnm => by
    unfold specF at hS
    rw [hnm, if_neg (by decide)] at hS
    refine ⟨fun e => (by cases e), fun _ => ⟨b, 0, rfl, b, 0, rfl, b, 0, rfl, p, (O.cell _).trans rfl, fun e => ?_, fun e => ⟨b, 0, rfl, b, 0, rfl, b, 0 + 1, rfl, m, (O.cell _).trans rfl, fun e2 => ?_, fun e2 => ?_⟩⟩⟩
    · rw [if_pos e] at hS
      cases hS
      refine K185 (ng := false) rfl ⟨_, rfl, ?_⟩
      rw [wordN_f]; exact H _ wp
    · rw [if_neg (by rw [e]; decide), if_pos e2] at hS
      cases hS
      refine K185 (ng := true) rfl ⟨_, rfl, ?_⟩
      rw [wordN_t]; exact H _ wm
    · rw [if_neg (by rw [e]; decide), if_neg (by rw [e2]; decide)] at hS
      cases hS
  have nan : (n || (p && m)) = true → S = 9221120237041090561 := fun e => by
    unfold specF at hS
    rw [if_pos e] at hS
    exact (Option.some.inj hS).symm
  refine F1372_ok _ ⟨b, 0, rfl, b, 0, rfl, b, 0 + 2, rfl, n, (O.cell _).trans rfl, fun e => j2t (nan (by rw [e]; rfl)), fun e => ⟨b, 0, rfl, b, 0, rfl, b, 0, rfl, p, (O.cell _).trans rfl, fun e2 => ⟨b, 0, rfl, b, 0, rfl, b, 0 + 1, rfl, m, (O.cell _).trans rfl, ?_⟩, fun e2 => ?_⟩⟩
  · cases hm : m
    · exact j2f (by rw [e, e2, hm]; rfl)
    · exact j2t (nan (by rw [e, e2, hm]; rfl))
  · exact j2f (by rw [e, e2]; rfl)
/-- What is told of a list beside its sum. -/
def specL (l : List Int) : Option Int := specF (l.any infP) (l.any infM) (l.any isNaN)
theorem any_take {f : Int → Bool} {l : List Int} {j : Nat} (hj : j < l.length) : (l.take (j + 1)).any f = ((l.take j).any f || f l[j]) := by
  rw [List.take_succ_eq_append_getElem hj, List.any_append]; simp
theorem sV_filt {l : List Int} {j : Nat} (hj : j < l.length) : sV ((l.take (j + 1)).filter isFin) = sV ((l.take j).filter isFin) + (if isFin l[j] then fV l[j] else 0) := by
  rw [List.take_succ_eq_append_getElem hj, List.filter_append, sV_append]
  cases h : isFin l[j]
  · rw [List.filter_cons_of_neg (by rw [h]; decide)]; rfl
  · rw [List.filter_cons_of_pos h]
    show _ + (fV l[j] + 0) = _
    rw [Int.add_zero]; rfl
theorem filt_bl {l : List Int} (hl : l.length ≤ 4096) : bl (sV (l.filter isFin) * (UW : Int)).natAbs ≤ 3200 :=
  sV_bl (fun x hx => (List.mem_filter.1 hx).2) (Nat.le_trans (List.length_filter_le _ _) hl)
/-- sums.summed, of a list with what is not finite. -/
theorem K1365s {f1 f2 e n c : Nat} {l : List Int} {w S : Int} (A : FlsA h e l) (hn : l.length = n) (hl : n ≤ 4096) (hi : ∀ x ∈ l, I64 x) (hS : specL l = some S)
    (Hof : ∀ {R' : Ending → Heap → Prop} {h' : Heap} {w : Nat}, WI w S → R' (.returned (.int .i64 S)) h' → EntV Tryz.prog B (.func (.func f2) #[] #[]) #[.float .f64 w] R' h')
    (H : ∀ h', Ext h h' → R (.returned (.tuple #[.int .i64 S, .int .i64 (0 : Int)])) h') :
    Ent Tryz.prog B 29 #[.slice (some ⟨e, 0, none⟩) n c, .func (.func f1) #[] #[], .func (.func f2) #[] #[], .int .i64 w] R h := by
  obtain ⟨cs, oc, hs, hc⟩ := A
  have hcell : ∀ {k : Heap} (j : Nat) (hj : j < l.length), Ext h k → cell? k ⟨e, 0 + (j : Int).toNat * 1, none⟩ = some (.float .f64 (wd l[j])) := fun j hj E => by
    rw [Int.toNat_natCast, Nat.mul_one, Nat.zero_add]
    exact ((oc.ext E).cell _).trans (hc j hj)
  have i1 : I64 P1 := by unfold I64 P1; omega
  refine F1365_ok _ _ _ _ _ _ (alK fun a h1 e1 f1 o1 z1 => alK fun b h2 e2 f2 o2 z2 => ⟨fun m vs h' => match vs with
    | [.slice p1 n1 c1, g1, g2, .int _ ww, .pointer pa, .pointer pb, .int _ nn, .int _ i] => p1 = some (⟨e, 0, none⟩ : Addr) ∧ n = n1 ∧ g1 = .func (.func _) #[] #[] ∧ g2 = .func (.func _) #[] #[] ∧ ww = w ∧ pa = some (⟨a, 0, none⟩ : Addr) ∧ pb = some (⟨b, 0, none⟩ : Addr) ∧ nn = (n : Int) ∧
        ∃ j q : Nat, i = (j : Int) ∧ j ≤ n ∧ m = n - j ∧ Ext h h' ∧ Own h' a #[.bool ((l.take j).any infP), .bool ((l.take j).any infM), .bool ((l.take j).any isNaN)] ∧ IntAt h' b q (sV ((l.take j).filter isFin) * (UW : Int)) ∧ h.size ≤ q ∧ q ≠ a
    | _ => False, n, ⟨rfl, rfl, rfl, rfl, rfl, rfl, rfl, rfl, 0, b, rfl, by omega, rfl, Ext.trans f1 f2, o1.ext f2, ?_, by have := f1.size; omega, by have := o1.lt; omega⟩, ?_⟩)
  · have : sV ((l.take 0).filter isFin) * (UW : Int) = 0 := by show (0 : Int) * _ = 0; rw [Int.zero_mul]
    rw [this]
    exact ZeroAt.int o2
  have la := o1.lt
  have s1 := f1.size
  rintro m h' _ _ _ _ _ _ _ _ _ _ ⟨rfl, rfl, rfl, rfl, rfl, rfl, rfl, rfl, j, q, rfl, hj, rfl, E, Oa, T, hq, hqa⟩ _
  have hbl := filt_bl (l := l.take j) (by rw [List.length_take]; omega)
  refine ⟨fun e2 => ?_, fun e2 => ?_⟩
  · have hjl : j < l.length := by have := of_decide_eq_true e2; omega
    have ij := hi l[j] (List.getElem_mem _)
    have ns : IntKind.i64.wrap ((j : Int) + (1 : Int)) = ((j + 1 : Nat) : Int) := by rw [i64_in (by omega) (by omega)]; rfl
    refine ⟨e, 0, rfl, by omega, by omega, e, _, rfl, wd l[j], hcell j hjl E, K1370g Oa ij fun h3 f3 O3 => ⟨rfl, ?_⟩⟩
    have E3 : Ext h h3 := Fr.trans E f3 fun x hx k => by omega
    have T3 := T.fr f3 (show ¬ b = a by omega) hqa
    refine ⟨e, 0, rfl, by omega, by omega, e, _, rfl, wd l[j], hcell j hjl E3, ?_⟩
    rw [← any_take hjl, ← any_take hjl, ← any_take hjl] at O3
    have hsv := sV_filt hjl
    cases hf : isFin l[j]
    · rw [hf] at hsv
      have hsv : sV ((l.take (j + 1)).filter isFin) = sV ((l.take j).filter isFin) := by rw [hsv]; exact Int.add_zero _
      refine K1371n ij i1 (by decide) (by rw [hf]; rfl) ⟨rfl, n - (j + 1), by omega, rfl, rfl, rfl, rfl, rfl, rfl, rfl, rfl, j + 1, q, ns, by omega, rfl, E3, O3, ?_, hq, hqa⟩
      rw [hsv]; exact T3
    · rw [hf] at hsv
      have hsv : sV ((l.take (j + 1)).filter isFin) = sV ((l.take j).filter isFin) + fV l[j] := hsv
      refine K1371 T3 ij hf (by decide) (by omega) fun q' h4 f4 hq' T4 => ⟨rfl, n - (j + 1), by omega, rfl, rfl, rfl, rfl, rfl, rfl, rfl, rfl, j + 1, q', ns, by omega, rfl, ?_, ?_, ?_, ?_, ?_⟩
      · refine Fr.trans E3 f4 fun x hx k => ?_
        rcases k with k | k
        · omega
        · have := k.1; omega
      · exact O3.fr f4 fun k => by rcases k with k | k; omega; exact hqa k.1.symm
      · rw [hsv, Int.add_mul]; exact T4
      · have := E3.size; omega
      · have := E3.size
        have := O3.lt
        omega
  · have hjn : j = n := by have := of_decide_eq_false e2; omega
    rw [hjn, List.take_of_length_le (by omega)] at Oa
    refine K1372g Oa hS fun w W => ⟨_, _, rfl, fun _ => Hof W ⟨_, rfl, H h' E⟩, fun e => (by cases e)⟩
/-- sums.Sum, of a list with what is not finite. -/
theorem K1360s {p : Option Addr} {n c : Nat} {l : List Int} {w S : Int} (I : IntsH h p l) (hn : l.length = n) (hl : n ≤ 4096) (hS : specL l = some S) (h0 : 0 ≤ w) (h4 : w < 4)
    (H : ∀ h', Ext h h' → R (.returned (.tuple #[.int .i64 S, .int .i64 (0 : Int)])) h') : Ent Tryz.prog B 7 #[.slice p n c, .int .i64 w] R h := by
  refine F1360_ok _ _ _ _ (alK fun e h1 e1 f1 o1 z1 => K1364 o1 h0 h4 hl ⟨_, rfl, fun e => absurd e (by decide), fun _ => ?_⟩)
  refine K1366 (φ := id) (I.ext f1) hn (by omega) (fun x h' _ k => K54 k) fun e2 h2 f2 l2 A => ⟨_, _, _, rfl, ?_⟩
  rw [List.map_id] at A
  refine K1365s A hn hl I.1 hS (fun {R' h' w} W k => ev0 (K56 W k)) fun h3 f3 => ⟨_, _, rfl, H h3 (Ext.trans (Ext.trans f1 f2) f3)⟩
/-- sums.look, of a way that is none. -/
theorem K1364x {e n c : Nat} {w : Int} (h4 : 4 ≤ w) (H : R (.returned (.int .i64 (1 : Int))) h) : Ent Tryz.prog B 28 #[.int .i64 w, .slice (some ⟨e, 0, none⟩) n c] R h := by
  have lt : decide (w < (0 : Int)) = false := decide_eq_false (by omega)
  have gt : decide ((3 : Int) < w) = true := decide_eq_true (by omega)
  refine F1364_ok _ _ _ _ ?_
  unfold F1364
  rw [lt, gt]
  exact ⟨fun e => (by cases e), fun _ => ⟨fun _ => H, fun e => (by cases e)⟩⟩
/-- sums.Sum, of a way that is none. -/
theorem K1360x {p : Option Addr} {n c : Nat} {w : Int} (h4 : 4 ≤ w) (H : ∀ h', Ext h h' → R (.returned (.tuple #[.int .i64 (0 : Int), .int .i64 (1 : Int)])) h') : Ent Tryz.prog B 7 #[.slice p n c, .int .i64 w] R h := by
  refine F1360_ok _ _ _ _ (alK fun e h1 e1 f1 o1 z1 => K1364x h4 ⟨_, rfl, fun _ => H h1 f1, fun e => absurd e (by decide)⟩)
end Go.Proofs
