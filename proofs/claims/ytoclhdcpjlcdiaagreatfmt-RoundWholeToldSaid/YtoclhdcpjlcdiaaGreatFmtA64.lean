import Derived.Test.YtoclhdcpjlcdiaaGreatFmtA61
import Derived.Test.YtoclhdcpjlcdiaaGreatFmtA08
import Derived.Test.YtoclhdcpjlcdiaaGreatFmtA27
import Derived.Test.YtoclhdcpjlcdiaaGreatFmtA58
import Derived.Test.YtoclhdcpjlcdiaaGreatFmtA38
import Derived.Test.YtoclhdcpjlcdiaaGreatFmtA60
import Derived.Test.YtoclhdcpjlcdiaaGreatFmtA39
/- Here stand lemmas: round.ToInt, round.FromInt, and the walk of RoundWhole. -/
set_option linter.unusedVariables false
set_option linter.unusedVariables false
/-! math.Floor and its like. -/
namespace Go.Proofs
open Go Go.Eng
variable {B : World} {R : Ending → Heap → Prop} {h : Heap}
/-- A function without a body here that the model answers, drawing. -/
theorem Ent.of_extW {P : Program} {f : FuncId} {fn : Func} {e : Array Value → Sem Value} {args : Array Value} (hf : P.funcs[f]? = some fn) (hname : (fn.name == "runtime.NumGoroutine") = false)
    (hb : fn.body.isNone = true) (hn : Extern.findNext fn = none) (he : Extern.find fn = some e) (H : wpH true P (e args) (fun v h' => R (.returned v) h') (fun _ _ => False) h) : Ent P B f args R h := .inr fun n => by
  rcases wpH_run (B := B) _ h H n with ⟨v, h', n', hr, _, hR⟩ | ⟨x, h', n', hr, hx⟩
  · exact ⟨v, h', n', by rw [run_callFunc_extern hf hname hb hn he, hr]; rfl, hR⟩
  · exact hx.elim
/-- The words of -2^63 and 2^63. -/
abbrev WLO : Nat := 14114281232179134464
abbrev WHI : Nat := 4890909195324358656
/-- A word that no int is told for. -/
def badW (w : Nat) : Prop := (FloatKind.f64.format.order w WLO == some .gt || FloatKind.f64.format.order w WLO == some .eq) = false ∨ (FloatKind.f64.format.order w WHI == some .lt) = false
theorem bad_nan {w : Nat} {s : Bool} {t : Nat} (hr : Ieee.double.read w = .nan s t) : badW w := by
  left
  have : FloatKind.f64.format.order w WLO = none := by
    show (Ieee.double.read w).order (Ieee.double.read WLO) = none
    rw [hr]; rfl
  rw [this]; rfl
theorem bad_inf (s : Bool) : badW (FloatKind.f64.encode (.infinity s)) := by
  cases s
  · right; decide +kernel
  · left; decide +kernel
theorem read_nan (s : Bool) {t : Nat} (h0 : t ≠ 0) (ht : t < 4503599627370496) : ∃ t', Ieee.double.read (FloatKind.f64.encode (.nan s t)) = .nan s t' := by
  have hp : FloatKind.f64.encode (.nan s t) = wd (pat s (9218868437227405312 + t)) := by
    rw [wd_pat _ (by omega)]
    have e : FloatKind.f64.encode (.nan s t) = Ieee.double.word s (9218868437227405312 + t % 4503599627370496) := rfl
    rw [e, Nat.mod_eq_of_lt ht]
  have hi : I64 (pat s (9218868437227405312 + t)) := pat_I64 (by omega)
  have hE := pat_fE s (r := 9218868437227405312 + t) (by omega)
  have hT := pat_fT s (r := 9218868437227405312 + t) (by omega)
  have hN := pat_neg s (r := 9218868437227405312 + t) (by omega)
  rw [hp, read_wd hi, if_neg (by rw [hE]; omega), if_neg (by rw [hT]; omega), hN]
  exact ⟨_, rfl⟩
/-- What making whole answers. -/
def whW (way : Ieee.Toward) (b : Int) (w : Nat) : Prop := (isFin b = true → w = wd (wholeP way b)) ∧ (isFin b = false → badW w)
theorem integ_num {name : String} {way : Ieee.Toward} {x m : Nat} {s : Bool} {e : Int} {K : Value → Heap → Prop} {X : Halt → Heap → Prop} (hd : FloatKind.f64.decode x = .number s m e) (H : K (.float .f64 (FloatKind.f64.encode ((Ieee.Datum.number s m e).integral way))) h) :
    wpH true Tryz.prog (Extern.MathFloor.toIntegral name way #[.float .f64 x]) K X h := by
  change wpH true _ (match FloatKind.f64.decode x with | .nan s t => _ | d => _) _ _ _
  rw [hd]
  exact H
theorem integ_inf {name : String} {way : Ieee.Toward} {x : Nat} {s : Bool} {K : Value → Heap → Prop} {X : Halt → Heap → Prop} (hd : FloatKind.f64.decode x = .infinity s) (H : K (.float .f64 (FloatKind.f64.encode (.infinity s))) h) :
    wpH true Tryz.prog (Extern.MathFloor.toIntegral name way #[.float .f64 x]) K X h := by
  change wpH true _ (match FloatKind.f64.decode x with | .nan s t => _ | d => _) _ _ _
  rw [hd]
  exact H
theorem integ_nan {name : String} {way : Ieee.Toward} {x t : Nat} {s : Bool} {K : Value → Heap → Prop} {X : Halt → Heap → Prop} (hd : FloatKind.f64.decode x = .nan s t) (H1 : K (.float .f64 x) h)
    (H2 : K (.float .f64 (FloatKind.f64.encode (.nan s (FloatKind.f64.format.quiet t)))) h) : wpH true Tryz.prog (Extern.MathFloor.toIntegral name way #[.float .f64 x]) K X h := by
  change wpH true _ (match FloatKind.f64.decode x with | .nan s t => _ | d => _) _ _ _
  rw [hd]
  have key : ∀ k : Bool, K (.float .f64 (if k = true then x else FloatKind.f64.encode (.nan s (FloatKind.f64.format.quiet t)))) h := by
    intro k; cases k
    · exact H2
    · exact H1
  show wpH true Tryz.prog (if FloatKind.f64.format.quiet t = t then _ else _) K X h
  split
  · exact H1
  · exact ⟨rfl, rfl, fun t => key _⟩
theorem quiet_bad (s : Bool) {t : Nat} (ht : t < 4503599627370496) : badW (FloatKind.f64.encode (.nan s (FloatKind.f64.format.quiet t))) := by
  have hq : FloatKind.f64.format.quiet t = t ||| 2 ^ 51 := rfl
  have e52 : (2 : Nat) ^ 52 = 4503599627370496 := by decide
  have l1 : t ||| 2 ^ 51 < 2 ^ 52 := Nat.or_lt_two_pow (by omega) (by decide)
  have l2 : 2 ^ 51 ≤ t ||| 2 ^ 51 := Nat.right_le_or
  have e51 : (2 : Nat) ^ 51 = 2251799813685248 := by decide
  rw [e51] at l2
  obtain ⟨t', e⟩ := read_nan s (t := t ||| 2 ^ 51) (by rw [e51]; omega) (by rw [e52] at l1; exact l1)
  rw [hq]
  exact bad_nan e
theorem integ_spec (name : String) (way : Ieee.Toward) {b : Int} (ib : I64 b) (H : ∀ w, whW way b w → R (.returned (.float .f64 w)) h) :
    wpH true Tryz.prog (Extern.MathFloor.toIntegral name way #[.float .f64 (wd b)]) (fun v h' => R (.returned v) h') (fun _ _ => False) h := by
  cases fb : isFin b
  · have H2 : ∀ w, badW w → R (.returned (.float .f64 w)) h := fun w hw => H w ⟨fun e => (by rw [fb] at e; cases e), fun _ => hw⟩
    have hE : ¬ fE b < 2047 := by unfold isFin at fb; exact of_decide_eq_false fb
    have hr := read_wd ib
    rw [if_neg hE] at hr
    by_cases hT : fT b = 0
    · rw [if_pos hT] at hr
      exact integ_inf (show FloatKind.f64.decode (wd b) = .infinity (decide (b < 0)) from hr) (H2 _ (bad_inf _))
    · rw [if_neg hT] at hr
      exact integ_nan (show FloatKind.f64.decode (wd b) = .nan (decide (b < 0)) (fT b) from hr) (H2 _ (bad_nan hr)) (H2 _ (quiet_bad _ (fT_lt b)))
  · have hw := whole_word ib fb way
    have H1 : R (.returned (.float .f64 (wd (wholeP way b)))) h := H _ ⟨fun _ => rfl, fun e => (by rw [fb] at e; cases e)⟩
    rw [read_fin ib fb] at hw
    rw [← hw] at H1
    exact integ_num (read_fin ib fb) H1
/-- Is a whole float an int? -/
theorem in_range {c K : Int} (ic : I64 c) (fc : isFin c = true) (hv : fV c = K * (UW : Int)) :
    (FloatKind.f64.format.order (wd c) WLO == some .gt || FloatKind.f64.format.order (wd c) WLO == some .eq) = decide (-9223372036854775808 ≤ K) ∧ (FloatKind.f64.format.order (wd c) WHI == some .lt) = decide (K < 9223372036854775808) := by
  have i1 : I64 CLO := by unfold I64 CLO; omega
  have i2 : I64 CHI := by unfold I64 CHI; omega
  have w1 : WLO = wd CLO := by decide +kernel
  have w2 : WHI = wd CHI := by decide +kernel
  have n := (fin_not fc).1
  rw [w1, w2, order_rk ic i1 n (by decide), order_rk ic i2 n (by decide)]
  obtain ⟨a1, a2⟩ := fV_rk ic i1 fc clo_fin.1
  obtain ⟨b1, b2⟩ := fV_rk ic i2 fc chi_fin.1
  rw [clo_fin.2, hv] at a1 a2
  rw [chi_fin.2, hv] at b1 b2
  have hU := uw_pos
  have c1 : K * (UW : Int) < -9223372036854775808 * (UW : Int) ↔ K < -9223372036854775808 := ⟨mul_lt_uw, fun h => Int.mul_lt_mul_of_pos_right h (by omega)⟩
  have c2 : K * (UW : Int) < 9223372036854775808 * (UW : Int) ↔ K < 9223372036854775808 := ⟨mul_lt_uw, fun h => Int.mul_lt_mul_of_pos_right h (by omega)⟩
  rw [c1] at a1
  rw [c2] at b1
  constructor
  · unfold compareOfLessAndEq
    by_cases h1 : rk c < rk CLO
    · rw [if_pos h1, decide_eq_false (by have := a1.2 h1; omega)]; rfl
    · have h2 : -9223372036854775808 ≤ K := by
        apply Int.not_lt.1
        intro k
        exact h1 (a1.1 k)
      rw [if_neg h1, decide_eq_true h2]
      split <;> rfl
  · rw [lt_ord, decide_eq_decide]
    exact b1.symm
end Go.Proofs
set_option linter.unusedVariables false
/-! round.ToInt. -/
namespace Go.Proofs
open Go Go.Eng
variable {B : World} {R : Ending → Heap → Prop} {h : Heap}
theorem E1346 {b : Int} (ib : I64 b) (H : ∀ w, whW .even b w → R (.returned (.float .f64 w)) h) : Ent Tryz.prog B 13 #[.float .f64 (wd b)] R h :=
  Ent.of_extW (e := Extern.MathFloor.toIntegral "math.RoundToEven" .even) Tryz.func13 (by kernel_rfl) (by kernel_rfl) (by kernel_rfl) (by kernel_rfl) (integ_spec _ _ ib H)
theorem E1350 {b : Int} (ib : I64 b) (H : ∀ w, whW .down b w → R (.returned (.float .f64 w)) h) : Ent Tryz.prog B 32 #[.float .f64 (wd b)] R h :=
  Ent.of_extW (e := Extern.MathFloor.toIntegral "math.archFloor" .down) Tryz.func32 (by kernel_rfl) (by kernel_rfl) (by kernel_rfl) (by kernel_rfl) (integ_spec _ _ ib H)
theorem E1352 {b : Int} (ib : I64 b) (H : ∀ w, whW .up b w → R (.returned (.float .f64 w)) h) : Ent Tryz.prog B 34 #[.float .f64 (wd b)] R h :=
  Ent.of_extW (e := Extern.MathFloor.toIntegral "math.archCeil" .up) Tryz.func34 (by kernel_rfl) (by kernel_rfl) (by kernel_rfl) (by kernel_rfl) (integ_spec _ _ ib H)
theorem E1354 {b : Int} (ib : I64 b) (H : ∀ w, whW .zero b w → R (.returned (.float .f64 w)) h) : Ent Tryz.prog B 36 #[.float .f64 (wd b)] R h :=
  Ent.of_extW (e := Extern.MathFloor.toIntegral "math.archTrunc" .zero) Tryz.func36 (by kernel_rfl) (by kernel_rfl) (by kernel_rfl) (by kernel_rfl) (integ_spec _ _ ib H)
theorem K1347 {b : Int} (ib : I64 b) (H : ∀ w, whW .down b w → R (.returned (.float .f64 w)) h) : Ent Tryz.prog B 14 #[.float .f64 (wd b)] R h :=
  F1347_ok _ ⟨fun _ => E1350 ib fun w hw => ⟨_, rfl, H w hw⟩, fun e => (by cases e)⟩
theorem K1348 {b : Int} (ib : I64 b) (H : ∀ w, whW .up b w → R (.returned (.float .f64 w)) h) : Ent Tryz.prog B 15 #[.float .f64 (wd b)] R h :=
  F1348_ok _ ⟨fun _ => E1352 ib fun w hw => ⟨_, rfl, H w hw⟩, fun e => (by cases e)⟩
theorem K1349 {b : Int} (ib : I64 b) (H : ∀ w, whW .zero b w → R (.returned (.float .f64 w)) h) : Ent Tryz.prog B 16 #[.float .f64 (wd b)] R h :=
  F1349_ok _ ⟨fun _ => E1354 ib fun w hw => ⟨_, rfl, H w hw⟩, fun e => (by cases e)⟩
/-- Is a float told as an int? -/
def tolB (way : Ieee.Toward) (b : Int) : Bool := isFin b && decide (-9223372036854775808 ≤ wholeI way UW (fV b)) && decide (wholeI way UW (fV b) < 9223372036854775808)
/-- The int that is told. -/
def tolV (way : Ieee.Toward) (b : Int) : Int := if tolB way b = true then wholeI way UW (fV b) else 0
theorem toi_tail {way : Ieee.Toward} {b : Int} {w : Nat} (ib : I64 b) (hw : whW way b w) (H : R (.returned (.tuple #[.int .i64 (tolV way b), .bool (tolB way b), .int .i64 (0 : Int)])) h) : F1344_j12 B R w h := by
  have bad : tolB way b = false → F1344_j13 B R w true h := fun e => by
    unfold tolV at H
    rw [e, if_neg (by decide)] at H
    exact ⟨fun _ => H, fun e => (by cases e)⟩
  cases fb : isFin b
  · have hT : tolB way b = false := by unfold tolB; rw [fb]; rfl
    have bad := bad hT
    rcases hw.2 fb with hb | hb
    · exact ⟨fun e => (by rw [hb] at e; cases e), fun _ => bad⟩
    · refine ⟨fun e => ?_, fun _ => bad⟩
      unfold F1344_j15
      rw [hb]
      exact bad
  · obtain ⟨ic, fc, hv⟩ := whole_val ib fb way
    rw [hw.1 fb] at bad ⊢
    obtain ⟨r1, r2⟩ := in_range ic fc hv
    unfold tolV tolB at H
    unfold tolB at bad
    rw [fb, Bool.true_and] at H bad
    generalize wholeI way UW (fV b) = K at *
    refine ⟨fun e => ?_, fun e => ?_⟩
    · rw [r1] at e
      unfold F1344_j15
      rw [r2]
      rw [e, Bool.true_and] at H bad
      cases hk : decide (K < 9223372036854775808)
      · exact bad hk
      · rw [hk, if_pos rfl] at H
        refine ⟨fun e => (by cases e), fun _ => ?_⟩
        unfold cviW
        rw [toInt_whole ic fc hv]
        have h1 := of_decide_eq_true e
        have h2 := of_decide_eq_true hk
        have e1 : IntKind.i64.min = -9223372036854775808 := rfl
        have e2 : IntKind.i64.max = 9223372036854775807 := rfl
        exact ⟨fun _ => H, fun x => absurd ⟨by rw [e1]; exact h1, by rw [e2]; omega⟩ x⟩
    · rw [r1] at e
      rw [e] at bad
      exact bad rfl
/-- round.ToInt. -/
theorem K1344 {b w : Int} (way : Ieee.Toward) (ib : I64 b) (hw : (w = 0 ∧ way = .even) ∨ (w = 1 ∧ way = .down) ∨ (w = 2 ∧ way = .up) ∨ (w = 3 ∧ way = .zero))
    (H : R (.returned (.tuple #[.int .i64 (tolV way b), .bool (tolB way b), .int .i64 (0 : Int)])) h) : Ent Tryz.prog B 5 #[.int .i64 b, .int .i64 w] R h := by
  rcases hw with ⟨rfl, rfl⟩ | ⟨rfl, rfl⟩ | ⟨rfl, rfl⟩ | ⟨rfl, rfl⟩
  · refine F1344_ok _ _ (K54 ⟨_, rfl, fun _ => E1346 ib fun x hx => ⟨_, rfl, toi_tail ib hx H⟩, fun e => absurd e (by decide)⟩)
  · refine F1344_ok _ _ (K54 ⟨_, rfl, fun e => absurd e (by decide), fun _ => ⟨fun _ => K1347 ib fun x hx => ⟨_, rfl, toi_tail ib hx H⟩, fun e => absurd e (by decide)⟩⟩)
  · refine F1344_ok _ _ (K54 ⟨_, rfl, fun e => absurd e (by decide), fun _ => ⟨fun e => absurd e (by decide), fun _ => ⟨fun _ => K1348 ib fun x hx => ⟨_, rfl, toi_tail ib hx H⟩, fun e => absurd e (by decide)⟩⟩⟩)
  · refine F1344_ok _ _ (K54 ⟨_, rfl, fun e => absurd e (by decide), fun _ => ⟨fun e => absurd e (by decide), fun _ => ⟨fun e => absurd e (by decide), fun _ => ⟨fun _ => K1349 ib fun x hx => ⟨_, rfl, toi_tail ib hx H⟩, fun e => absurd e (by decide)⟩⟩⟩⟩)
end Go.Proofs
set_option linter.unusedVariables false
/-! The float of an int; round.FromInt down. -/
namespace Go.Proofs
open Go Go.Eng
variable {B : World} {R : Ending → Heap → Prop} {h : Heap}
/-- The pattern of an int's nearest float. -/
def nrP (n : Int) : Int := pat (decide (n < 0)) (if n = 0 then 0 else rung n.natAbs 0)
theorem nrP_I64 (n : Int) : I64 (nrP n) := by
  unfold nrP
  split
  · exact pat_I64 (by decide)
  · exact pat_I64 (rung63' _ _)
theorem nearest_wd (n : Int) : FloatKind.f64.nearest n = wd (nrP n) := by
  have h2 : FloatKind.f64.nearest n = Ieee.double.nearest (decide (n < 0)) n.natAbs 0 := rfl
  rw [h2]
  unfold nrP
  by_cases hk : n = 0
  · subst hk; rw [if_pos rfl, wd_pat _ (by decide)]; rfl
  · rw [if_neg hk, nearest_rung _ _ (by omega), wd_pat _ (rung63' _ _)]
/-- The float of a float made whole. -/
theorem near_whole {b : Int} (fb : isFin b = true) (way : Ieee.Toward) : isFin (nrP (wholeI way UW (fV b))) = true ∧ fV (nrP (wholeI way UW (fV b))) = wholeI way UW (fV b) * (UW : Int) := by
  obtain ⟨N, hN⟩ : ∃ N, N = 1074 := ⟨_, rfl⟩
  obtain ⟨f1, K, f2, f3⟩ := whole_fl fb way (decide (fV b < 0))
  have hwI : wholeI way UW (fV b) = if decide (fV b < 0) then -(wholeN way (decide (fV b < 0)) UW (fV b).natAbs : Int) else (wholeN way (decide (fV b < 0)) UW (fV b).natAbs : Int) := by
    unfold wholeI
    by_cases h0 : fV b < 0
    · rw [decide_eq_true h0, if_pos h0, if_pos rfl]
    · rw [decide_eq_false h0, if_neg h0, if_neg (by decide)]
  have hna : (wholeI way UW (fV b)).natAbs = wholeN way (decide (fV b < 0)) UW (fV b).natAbs := by
    rw [hwI]; split <;> omega
  generalize wholeI way UW (fV b) = w at *
  rw [← hna] at f1 f3
  unfold nrP
  by_cases hk : w = 0
  · subst hk
    rw [if_pos rfl]
    exact ⟨by decide, by decide +kernel⟩
  · rw [if_neg hk, rung_up w.natAbs hN (by omega), ← uw_pow hN]
    obtain ⟨c1, c2⟩ := rung_top (decide (w < 0)) f2 f3
    refine ⟨c1, ?_⟩
    rw [c2, f1, signed_nat, Nat.pow_zero, Nat.mul_one, Int.natCast_mul]
    by_cases hw : w < 0
    · rw [decide_eq_true hw, if_pos rfl, ← Int.neg_mul, show -(w.natAbs : Int) = w by omega]
    · rw [decide_eq_false hw, if_neg (by decide), show (w.natAbs : Int) = w by omega]
/-- The closure of round.FromInt. -/
theorem K1345 {rx : Nat} {n : Int} (hn : I64 n) (Ox : Own h rx #[.int .i64 n]) (H : ∀ r q h', Ext h h' → IntAt h' r q n → R (.returned (.agg #[.pointer (some ⟨r, 0, none⟩), .int .i64 (0 : Int), .bool false])) h') :
    Ent Tryz.prog B 11 #[.pointer (some ⟨rx, 0, none⟩)] R h := by
  unfold I64 at hn
  refine F1345_ok _ (alK fun r1 h1 e1 f1 o1 z1 => ⟨rx, 0, rfl, n, ((Ox.ext f1).cell _).trans rfl, K120 hn.1 hn.2 fun r q h2 f2 l1 l2 l3 I2 => ⟨_, rfl, r1, 0, rfl, ?_⟩⟩)
  refine (o1.ext f2).stC (by simp) rfl fun oa fa => oa.stC (by simp) rfl fun ob fb => ob.stC (by simp) rfl fun oc fc => ⟨r1, 0, rfl, _, oc.cell _, _, oc.cell _, _, oc.cell _, ?_⟩
  have fabc := Fr.trans (S := fun x => x = r1) (Fr.trans (S := fun x => x = r1) fa fb fun _ _ e => e) fc fun _ _ e => e
  exact H r q _ (Fr.trans (Ext.trans f1 f2) fabc fun x hx e => by omega) (I2.fr fabc (by omega) (by omega))
/-- round.settle, of what one holds. -/
theorem K1068n {w near v : Int} {K : Nat} {ok : Bool} {f : Nat} {c1 : Value} (h0 : 0 ≤ w) (h4 : w < 4) (hK : K ≤ 5000)
    (Hf : ok = true → ∀ {R' : Ending → Heap → Prop} h', Ext h h' → (∀ r q m e h'', Ext h' h'' → IntAt h'' r q m → 0 ≤ e + (K : Int) → e ≤ 7000 → bl m.natAbs ≤ 12000 → m * 2 ^ (e + (K : Int)).toNat = v → R' (.returned (.agg #[.pointer (some ⟨r, 0, none⟩), .int .i64 e, .bool false])) h'') →
      EntV Tryz.prog B (.func (.func f) #[] #[c1]) #[] R' h')
    (H : ∀ h', Ext h h' → R (.returned (.tuple #[.int .i64 (if w = 0 ∨ ok = false ∨ v = 0 then near else dirV w.toNat v (-K)), .int .i64 (0 : Int)])) h') :
    Ent Tryz.prog B 9 #[.int .i64 w, .int .i64 near, .bool ok, .func (.func f) #[] #[c1]] R h := by
  refine F1068_ok _ _ _ _ (K1076 (by omega) h4 fun wv h1 f1 W1 hone => ⟨_, _, rfl, alK fun r2 h2 e2 f2 o2 z2 => ⟨r2, 0, rfl, o2.stC (by simp) hone fun oa fa => ?_⟩⟩)
  generalize setCell h2 _ _ = h3 at *
  have oa : Own h3 r2 #[wv] := oa
  have F3 : Ext h h3 := Fr.trans (Ext.trans f1 f2) fa fun x hx e => by have := f1.size; omega
  have W3 : WayV h3 w.toNat wv := W1.ext (Fr.trans f2 fa fun x hx e => by omega)
  refine ⟨fun e => (by cases e), fun _ => ⟨fun e => ?_, fun e => ?_⟩⟩
  · have hw : w = 0 := of_decide_eq_true e
    have HH := H h3 F3
    rw [if_pos (.inl hw)] at HH
    exact ⟨fun _ => HH, fun e => (by cases e)⟩
  have hw : w ≠ 0 := of_decide_eq_false e
  cases hok : ok
  · have HH := H h3 F3
    rw [if_pos (.inr (.inl hok))] at HH
    exact ⟨fun _ => HH, fun e => (by cases e)⟩
  refine ⟨fun e => (by cases e), fun _ => ?_⟩
  refine Hf hok h3 F3 fun r q m e h4 f4 I4 g1 g2 hb hv => ⟨_, _, _, rfl, ?_⟩
  refine alK fun r5 h5 e5 f5 o5 z5 => ⟨r5, 0, rfl, o5.stC (by simp) rfl fun oq fq => oq.stC (by simp) rfl fun or fr => or.stC (by simp) rfl fun os fs => ?_⟩
  have fqs := Fr.trans (S := fun x => x = r5) (Fr.trans (S := fun x => x = r5) fq fr fun _ _ e => e) fs fun _ _ e => e
  generalize setCell (setCell (setCell h5 _ _) _ _) _ _ = h6 at *
  have os : Own h6 r5 #[.pointer (some ⟨r, 0, none⟩), .int .i64 e, .bool false] := os
  have E46 : Ext h4 h6 := Fr.trans f5 fqs fun x hx e => by omega
  have I6 := I4.ext E46
  have O6 := (oa.ext f4).ext E46
  have E6 := Ext.trans (Ext.trans F3 f4) E46
  have hp : (0 : Int) < 2 ^ (e + (K : Int)).toNat := Int.pow_pos (by decide)
  refine ⟨r5, 0, rfl, r5, 0, rfl, _, os.cell _, K75 I6 ⟨_, rfl, fun e1 => ?_, fun e1 => ?_⟩⟩
  · have hm := Int.sign_eq_zero_iff_zero.1 (of_decide_eq_true e1)
    have hv0 : v = 0 := by rw [← hv, hm, Int.zero_mul]
    have HH := H h6 E6
    rw [if_pos (.inr (.inr hv0))] at HH
    exact HH
  have hm : m ≠ 0 := fun hm => of_decide_eq_false e1 (by rw [hm]; rfl)
  have hv0 : v ≠ 0 := by rw [← hv]; exact Int.mul_ne_zero hm (by omega)
  refine ⟨r5, 0, rfl, _, os.cell _, _, os.cell _, _, os.cell _, r2, 0, rfl, _, O6.cell _, ?_⟩
  refine K1057 ((W3.ext f4).ext E46) hone I6 (by omega) (by omega) (by omega) fun h7 f7 => ⟨_, _, rfl, ?_⟩
  have HH := H h7 (Ext.trans E6 f7)
  obtain ⟨d1, d2⟩ := dirV_scale w.toNat m (-(K : Int)) (e + (K : Int)).toNat
  rw [hv, show -(K : Int) + ((e + (K : Int)).toNat : Int) = e by omega] at d1
  rw [if_neg (fun x => by rcases x with x | x | x; exact hw x; rw [hok] at x; cases x; exact hv0 x), d1] at HH
  exact HH
theorem ev1z {f : Nat} {p : Value} (H : Ent Tryz.prog B f #[p] R h) : EntV Tryz.prog B (.func (.func f) #[] #[p]) #[] R h := H
/-- round.FromInt, down. -/
theorem K1343 {n : Int} (hn : I64 n) (H : ∀ h', Ext h h' → R (.returned (.tuple #[.int .i64 (dirV 1 n 0), .int .i64 (0 : Int)])) h') : Ent Tryz.prog B 4 #[.int .i64 n, .int .i64 (1 : Int)] R h := by
  refine F1343_ok _ _ (alK fun r1 h1 e1 f1 o1 z1 => ⟨r1, 0, rfl, n, (o1.cell _).trans rfl, ?_⟩)
  rw [nearest_wd]
  refine K56 (wi_wd (nrP_I64 n)) ⟨_, rfl, K1068n (w := 1) (v := n) (K := 0) (by decide) (by decide) (by decide) (fun _ {R'} h2 f2 k => ?_) fun h2 f2 => ⟨_, _, rfl, ?_⟩⟩
  · refine ev1z (K1345 hn (o1.ext f2) fun r q h3 f3 I3 => k r q n 0 h3 f3 I3 (by decide) (by decide) ?_ ?_)
    · unfold I64 at hn
      have : n.natAbs < 2 ^ 64 := by
        rw [show (2 : Nat) ^ 64 = 18446744073709551616 by decide]; omega
      exact bl_of_lt this (by decide)
    · show n * 2 ^ 0 = n
      rw [Int.pow_zero, Int.mul_one]
  · have HH := H h2 (Ext.trans f1 f2)
    by_cases h0 : n = 0
    · subst h0
      rw [dirV_zero] at HH
      rw [if_pos (.inr (.inr rfl))]
      exact HH
    · rw [if_neg (fun x => by rcases x with x | x | x; exact absurd x (by decide); cases x; exact h0 x)]
      exact HH
end Go.Proofs
set_option linter.unusedVariables false
/-! plumblaw4.RoundWhole. -/
namespace Go.Proofs
open Go Go.Eng
variable {B : World} {R : Ending → Heap → Prop} {h : Heap}
theorem eq_ord {x y : Int} : (some (compareOfLessAndEq x y) == some Ordering.eq) = decide (x = y) := by
  unfold compareOfLessAndEq
  by_cases h : x < y
  · rw [if_pos h, decide_eq_false (by omega)]; rfl
  · rw [if_neg h]
    by_cases h2 : x = y
    · rw [if_pos h2, decide_eq_true h2]; rfl
    · rw [if_neg h2, decide_eq_false h2]; rfl
/-- The comparisons of a float with whole numbers. -/
theorem le_nr {b c : Int} (ib : I64 b) (fb : isFin b = true) (ic : I64 c) (fc : isFin c = true) (hle : fV c ≤ fV b) : (FloatKind.f64.format.order (wd c) (wd b) == some .lt || FloatKind.f64.format.order (wd c) (wd b) == some .eq) = true := by
  rw [order_rk ic ib (fin_not fc).1 (fin_not fb).1, le_ord]
  obtain ⟨h1, h2⟩ := fV_rk ib ic fb fc
  apply decide_eq_true
  apply Int.not_lt.1
  intro k
  have := h1.2 k
  omega
theorem eq_nr {b c : Int} (ib : I64 b) (fb : isFin b = true) (ic : I64 c) (fc : isFin c = true) (he : fV c = fV b) : (FloatKind.f64.format.order (wd c) (wd b) == some .eq) = true := by
  rw [order_rk ic ib (fin_not fc).1 (fin_not fb).1, eq_ord]
  exact decide_eq_true ((fV_rk ic ib fc fb).2.1 he)
theorem zero_lt {b : Int} (ib : I64 b) (fb : isFin b = true) : (FloatKind.f64.format.order (wd b) 0 == some .gt || FloatKind.f64.format.order (wd b) 0 == some .eq) = decide (0 ≤ fV b) ∧ (FloatKind.f64.format.order (wd b) 0 == some .lt || FloatKind.f64.format.order (wd b) 0 == some .eq) = decide (fV b ≤ 0) := by
  have i0 : I64 0 := by unfold I64; omega
  have f0 : isFin 0 = true := by decide
  have v0 : fV 0 = 0 := by decide +kernel
  have r0 : rk 0 = 0 := rfl
  obtain ⟨a1, a2⟩ := fV_rk ib i0 fb f0
  rw [v0, r0] at a1 a2
  rw [order_0 ib (fin_not fb).1, ge_ord, le_ord, decide_eq_decide, decide_eq_decide]
  constructor <;> constructor <;> intro k
  · apply Int.not_lt.1; intro q; have := a1.1 q; omega
  · apply Int.not_lt.1; intro q; have := a1.2 q; omega
  · rcases Int.lt_or_eq_of_le k with q | q
    · have := a1.2 q; omega
    · have := a2.2 q; omega
  · rcases Int.lt_or_eq_of_le k with q | q
    · have := a1.1 q; omega
    · have := a2.1 q; omega
/-- All that the four ways tell. -/
theorem whole_end {b : Int} (ib : I64 b) (fb : isFin b = true) {P Q Z M : Int} (hP : P = wholeI .down UW (fV b)) (hQ : Q = wholeI .up UW (fV b)) (hZ : Z = wholeI .zero UW (fV b)) (hM : M = wholeI .even UW (fV b))
    (p1 : -9223372036854775808 ≤ P) (p2 : P < 9223372036854775808) (H : R (.returned (.bool true)) h) : F1342_j112 B R P Q Z M (wd b) true h := by
  obtain ⟨w1, w2, w3, w4, w5, w6, w7, w8⟩ := whole_law uw_pos hP hQ hZ hM
  obtain ⟨f1, v1⟩ := near_whole fb .down
  obtain ⟨f2, v2⟩ := near_whole fb .up
  rw [← hP] at f1 v1
  rw [← hQ] at f2 v2
  obtain ⟨z1, z2⟩ := zero_lt ib fb
  have o1 := le_nr ib fb (nrP_I64 P) f1 (by rw [v1]; exact w1)
  have o2 := le_nr (nrP_I64 Q) f2 ib fb (by rw [v2]; exact w2)
  rw [← nearest_wd] at o1 o2
  have hd : decide (IntKind.i64.wrap (Q - P) ≤ (1 : Int)) = true := by
    rw [i64_in (by omega) (by omega)]; exact decide_eq_true w3
  refine ⟨fun _ => ?_, fun e => (by cases e)⟩
  rw [hd]
  refine ⟨fun _ => ?_, fun e => (by cases e)⟩
  rw [decide_eq_true w4]
  refine ⟨fun _ => ?_, fun e => (by cases e)⟩
  rw [o1]
  refine ⟨fun _ => ?_, fun e => (by cases e)⟩
  rw [o2]
  have j159 : F1342_j159 B R P Q (wd b) true h := by
    refine ⟨fun _ => ⟨fun _ => H, fun e => ?_⟩, fun e => (by cases e)⟩
    have hqp : Q = P := by simpa using e
    unfold F1342_j165
    rw [nearest_wd, eq_nr ib fb (nrP_I64 P) f1 (by rw [v1]; exact w5 hqp)]
    exact H
  have j152 : F1342_j152 B R P Q M (wd b) true h := by
    refine ⟨fun _ => ⟨fun _ => j159, fun e => ?_⟩, fun e => (by cases e)⟩
    have hmp := of_decide_eq_false e
    rw [decide_eq_true (show M = Q by rcases w7 with k | k; exact absurd k hmp; exact k)]
    exact j159
  refine ⟨fun _ => ?_, fun e => (by cases e)⟩
  rw [z1, z2]
  by_cases hx : fV b < 0
  · rw [if_pos hx] at w6
    have e1 : decide (0 ≤ fV b) = false := decide_eq_false (by omega)
    have e2 : decide (fV b ≤ 0) = true := decide_eq_true (by omega)
    have e3 : decide (Z = Q) = true := decide_eq_true w6
    rw [e1, e2, e3]
    exact ⟨fun _ => ⟨fun e => (by cases e), fun _ => ⟨fun _ => j152, fun e => (by cases e)⟩⟩, fun _ => ⟨fun e => (by cases e), fun _ => ⟨fun _ => j152, fun e => (by cases e)⟩⟩⟩
  · rw [if_neg hx] at w6
    have e1 : decide (0 ≤ fV b) = true := decide_eq_true (by omega)
    have e3 : decide (Z = P) = true := decide_eq_true w6
    rw [e1, e3]
    exact ⟨fun _ => ⟨fun _ => j152, fun e => (by cases e)⟩, fun e => (by cases e)⟩
theorem tol_in {way : Ieee.Toward} {b : Int} (h : tolB way b = true) : isFin b = true ∧ -9223372036854775808 ≤ wholeI way UW (fV b) ∧ wholeI way UW (fV b) < 9223372036854775808 ∧ tolV way b = wholeI way UW (fV b) := by
  have hv : tolV way b = wholeI way UW (fV b) := by unfold tolV; rw [if_pos h]
  unfold tolB at h
  rw [Bool.and_eq_true, Bool.and_eq_true] at h
  exact ⟨h.1.1, of_decide_eq_true h.1.2, of_decide_eq_true h.2, hv⟩
theorem tol_mk {way : Ieee.Toward} {b : Int} (fb : isFin b = true) (h1 : -9223372036854775808 ≤ wholeI way UW (fV b)) (h2 : wholeI way UW (fV b) < 9223372036854775808) : tolB way b = true ∧ tolV way b = wholeI way UW (fV b) := by
  have h : tolB way b = true := by unfold tolB; rw [fb, decide_eq_true h1, decide_eq_true h2]; rfl
  exact ⟨h, (tol_in h).2.2.2⟩
theorem tol_no {way : Ieee.Toward} {b : Int} (h : tolB way b = false) : tolV way b = 0 := by unfold tolV; rw [h]; rfl
/-- The second half. -/
theorem K1342b {b : Int} (ib : I64 b) (ht : TabH h) (H : ∀ h', Ext h h' → R (.returned (.bool true)) h') : F1342_j4 B R b false h := by
  have HH := H h (Fr.rfl')
  refine ⟨fun e => (by cases e), fun _ => K1344 .down ib (.inr (.inl ⟨rfl, rfl⟩)) ⟨_, _, _, rfl, K1344 .up ib (.inr (.inr (.inl ⟨rfl, rfl⟩))) ⟨_, _, _, rfl, K1344 .zero ib (.inr (.inr (.inr ⟨rfl, rfl⟩))) ⟨_, _, _, rfl, K1344 .even ib (.inl ⟨rfl, rfl⟩) ⟨_, _, _, rfl, K17 ⟨_, rfl, ?_⟩⟩⟩⟩⟩⟩
  rw [cls_no]
  cases fb : isFin b
  · have n : ∀ way, tolB way b = false := fun way => by unfold tolB; rw [fb]; rfl
    rw [n .down, n .up, n .zero, n .even]
    exact ⟨fun _ => ⟨fun _ => ⟨fun _ => ⟨fun _ => HH, fun e => (by cases e)⟩, fun e => (by cases e)⟩, fun e => (by cases e)⟩, fun e => (by cases e)⟩
  · refine ⟨fun e => (by cases e), fun _ => ?_⟩
    cases tp : tolB .down b
    · rw [tol_no tp]
      exact ⟨fun _ => ⟨fun _ => ⟨fun _ => ⟨fun _ => HH, fun e => (by cases e)⟩, fun e => absurd e (by decide)⟩, fun e => (by cases e)⟩, fun e => (by cases e)⟩
    · refine ⟨fun e => (by cases e), fun _ => ?_⟩
      obtain ⟨_, p1, p2, pv⟩ := tol_in tp
      cases tq : tolB .up b
      · rw [tol_no tq]
        refine ⟨fun _ => ⟨fun _ => ⟨fun e => (by cases e), fun _ => ⟨fun _ => HH, fun e => absurd e (by decide)⟩⟩, fun _ => ⟨fun e => (by cases e), fun _ => ⟨fun _ => HH, fun e => absurd e (by decide)⟩⟩⟩, fun e => (by cases e)⟩
      · obtain ⟨_, q1, q2, qv⟩ := tol_in tq
        obtain ⟨w1, w2, w3, w4, w5, w6, w7, w8⟩ := whole_law uw_pos (x := fV b) rfl rfl rfl rfl
        obtain ⟨tz, zv⟩ := tol_mk (way := .zero) fb (by rw [w6]; split <;> omega) (by rw [w6]; split <;> omega)
        obtain ⟨tm, mv⟩ := tol_mk (way := .even) fb (by rcases w7 with k | k <;> rw [k] <;> omega) (by rcases w7 with k | k <;> rw [k] <;> omega)
        rw [tz, tm, pv, qv, zv, mv]
        exact ⟨fun e => (by cases e), fun _ => K54 ⟨_, rfl, fun _ => whole_end ib fb rfl rfl rfl rfl p1 p2 HH, fun e => (by cases e)⟩⟩
/-- plumblaw4.RoundWhole. -/
theorem K1342 {n b : Int} (ht : TabH h) (hn : I64 n) (ib : I64 b) (H : ∀ h', Ext h h' → R (.returned (.bool true)) h') : Ent Tryz.prog B 3 #[.int .i64 n, .int .i64 b] R h := by
  obtain ⟨iD, fD, v, hv, l1, l2, l3⟩ := from_down hn
  have hw : wholeI .even UW (fV (dirV 1 n 0)) = v := by rw [hv]; exact whole_self .even v
  have hn' := hn
  unfold I64 at hn'
  obtain ⟨tb, tv⟩ := tol_mk (way := .even) fD (by rw [hw]; exact l2) (by rw [hw]; omega)
  rw [hw] at tv
  refine F1342_ok _ _ (K1343 hn fun h1 f1 => ⟨_, _, rfl, K1344 .even iD (.inl ⟨rfl, rfl⟩) ⟨_, _, _, rfl, K1319 (ht.fr f1 id) fun h2 f2 => ⟨_, rfl, ?_⟩⟩⟩)
  rw [tb, tv]
  have F := Ext.trans f1 f2
  have e0 : (!decide (IntKind.i64.wrap ((0 : Int) + 0) = 0)) = false := by decide
  have e1 : decide (n < v) = false := decide_eq_false (by omega)
  have fin : F1342_j4 B R b false h2 := K1342b ib (ht.fr F id) fun h3 f3 => H h3 (Ext.trans F f3)
  refine ⟨fun e => (by cases e), fun _ => ?_⟩
  rw [e0]
  refine ⟨fun e => (by cases e), fun _ => ⟨fun e => (by cases e), fun _ => ?_⟩⟩
  rw [e1]
  refine ⟨fun e => (by cases e), fun _ => ⟨fun e => ⟨fun e2 => ?_, fun _ => fin⟩, fun _ => ⟨fun e => (by cases e), fun _ => fin⟩⟩⟩
  have a1 := of_decide_eq_true e
  have a2 := of_decide_eq_true e2
  have e3 : (!decide (v = n)) = false := by rw [decide_eq_true (l3 (by omega))]; rfl
  rw [e3]
  exact fin
end Go.Proofs
