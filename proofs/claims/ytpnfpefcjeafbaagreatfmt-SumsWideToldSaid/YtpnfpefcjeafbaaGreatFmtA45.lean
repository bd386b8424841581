import Derived.Test.YtpnfpefcjeafbaaGreatFmtA44
import Derived.Test.YtpnfpefcjeafbaaGreatFmtA27
import Derived.Test.YtpnfpefcjeafbaaGreatFmtA35
/- Here stand lemmas and contracts, in the order in which they are used. -/
set_option linter.unusedVariables false
set_option linter.unusedVariables false
/-! sums.Dot with ones, sums.Left of ones. -/
namespace Go.Proofs
open Go Go.Eng
variable {B : World} {R : Ending → Heap → Prop} {h : Heap}
/-- sums.look, of two lists as long as each other. -/
theorem K1364t {e n c c' : Nat} {p p' : Option Addr} {w : Int} (O : Own h e #[.slice p n c, .slice p' n c']) (h0 : 0 ≤ w) (h4 : w < 4) (hn : n ≤ 4096) (H : R (.returned (.int .i64 (0 : Int))) h) : Ent Tryz.prog B 28 #[.int .i64 w, .slice (some ⟨e, 0, none⟩) 2 2] R h := by
  have lt : decide (w < (0 : Int)) = false := decide_eq_false (by omega)
  have gt : decide ((3 : Int) < w) = false := decide_eq_false (by omega)
  refine F1364_ok _ _ _ _ ?_
  unfold F1364
  rw [lt, gt]
  refine ⟨fun e => (by cases e), fun _ => ⟨fun e => (by cases e), fun _ => ⟨fun m vs h' => match vs with
    | [.slice p1 n1 c1, .slice p2 n2 c2, .int _ nn, .int _ i] => p1 = some (⟨e, 0, none⟩ : Addr) ∧ n1 = 2 ∧ p2 = some (⟨e, 0, none⟩ : Addr) ∧ n2 = 2 ∧ nn = 2 ∧ h = h' ∧ ((i = 0 ∧ m = 2) ∨ (i = 1 ∧ m = 1) ∨ (i = 2 ∧ m = 0))
    | _ => False, 2, ⟨rfl, rfl, rfl, rfl, rfl, rfl, .inl ⟨rfl, rfl⟩⟩, ?_⟩⟩⟩
  rintro m h' _ _ _ _ _ _ _ _ ⟨rfl, rfl, rfl, rfl, rfl, rfl, hi⟩ _
  have c0 : ∀ x, x = e → cell? h ⟨x, 0, none⟩ = some (.slice p n c) := fun x hx => by subst hx; exact (O.cell _).trans rfl
  have c1 : ∀ x, x = e → cell? h ⟨x, 1, none⟩ = some (.slice p' n c') := fun x hx => by subst hx; exact (O.cell _).trans rfl
  rcases hi with ⟨rfl, rfl⟩ | ⟨rfl, rfl⟩ | ⟨rfl, rfl⟩
  · refine ⟨fun _ => ⟨e, 0, rfl, by decide, by decide, e, _, rfl, p, n, c, c0 _ rfl, e, 0, rfl, by decide, by decide, e, _, rfl, p, n, c, c0 _ rfl, fun e1 => ?_, fun _ => ⟨1, by decide, rfl, rfl, rfl, rfl, rfl, rfl, .inr (.inl ⟨rfl, rfl⟩)⟩⟩, fun e => absurd e (by decide)⟩
    simp at e1
  · refine ⟨fun _ => ⟨e, 0, rfl, by decide, by decide, e, _, rfl, p', n, c', c1 _ rfl, e, 0, rfl, by decide, by decide, e, _, rfl, p, n, c, c0 _ rfl, fun e1 => ?_, fun _ => ⟨0, by decide, rfl, rfl, rfl, rfl, rfl, rfl, .inr (.inr ⟨rfl, rfl⟩)⟩⟩, fun e => absurd e (by decide)⟩
    simp at e1
  · refine ⟨fun e => absurd e (by decide), fun _ => ⟨e, 0, rfl, by decide, by decide, e, _, rfl, p, n, c, c0 _ rfl, fun e1 => absurd (of_decide_eq_true e1) (by omega), fun _ => H⟩⟩
/-- sums.dotted, of finite floats and ones. -/
theorem K1369 {f1 f2 e eo n c c2 : Nat} {l : List Int} {w v : Int} (ht : TabH h) (A : FlsA h e l) (A2 : FlsA h eo (List.replicate n P1)) (hn : l.length = n) (hl : n ≤ 4096) (hf : ∀ x ∈ l, I64 x ∧ isFin x = true)
    (Hto : ∀ {R' : Ending → Heap → Prop} {h' : Heap} {ng : Bool} {p : Option Addr} {n c : Nat} {e : Int}, Ext h h' → NumS 2148 h' ng p n e (sV l * (UW : Int)) → (∀ h'' b, Ext h' h'' → R' (.returned (.tuple #[.int .i64 v, .bool b, .int .i64 (0 : Int)])) h'') →
      EntV Tryz.prog B (.func (.func f1) #[] #[]) #[.agg #[.bool ng, .slice p n c, .int .i64 e], .int .i64 w] R' h')
    (H : ∀ h', Ext h h' → R (.returned (.tuple #[.int .i64 v, .int .i64 (0 : Int)])) h') :
    Ent Tryz.prog B 42 #[.slice (some ⟨e, 0, none⟩) n c, .slice (some ⟨eo, 0, none⟩) n c2, .func (.func f1) #[] #[], .func (.func f2) #[] #[], .int .i64 w] R h := by
  obtain ⟨cs, oc, hs, hc⟩ := A
  obtain ⟨cs2, oc2, hs2, hc2⟩ := A2
  have hcell : ∀ {k : Heap} (j : Nat) (hj : j < l.length), Ext h k → cell? k ⟨e, 0 + (j : Int).toNat * 1, none⟩ = some (.float .f64 (wd l[j])) := fun j hj E => by
    rw [Int.toNat_natCast, Nat.mul_one, Nat.zero_add]
    exact ((oc.ext E).cell _).trans (hc j hj)
  have hcell2 : ∀ {k : Heap} (j : Nat) (hj : j < l.length), Ext h k → cell? k ⟨eo, 0 + (j : Int).toNat * 1, none⟩ = some (.float .f64 (wd P1)) := fun j hj E => by
    rw [Int.toNat_natCast, Nat.mul_one, Nat.zero_add]
    have := hc2 j (by rw [List.length_replicate]; omega)
    rw [List.getElem_replicate] at this
    exact ((oc2.ext E).cell _).trans this
  have i1 : I64 P1 := by unfold I64 P1; omega
  have g1 : isFin P1 = true := by decide
  refine F1369_ok _ _ _ _ _ _ _ _ _ (alK fun a h1 e1 f1 o1 z1 => alK fun b h2 e2 f2 o2 z2 => ⟨fun m vs h' => match vs with
    | [.slice p1 n1 c1, .slice p2 n2 c2, g1, g2, .int _ ww, .pointer pa, .pointer pb, .int _ nn, .int _ i] => p1 = some (⟨e, 0, none⟩ : Addr) ∧ n = n1 ∧ p2 = some (⟨eo, 0, none⟩ : Addr) ∧ n = n2 ∧ g1 = .func (.func _) #[] #[] ∧ g2 = .func (.func _) #[] #[] ∧ ww = w ∧ pa = some (⟨a, 0, none⟩ : Addr) ∧ pb = some (⟨b, 0, none⟩ : Addr) ∧ nn = (n : Int) ∧
        ∃ j q : Nat, i = (j : Int) ∧ j ≤ n ∧ m = n - j ∧ Ext h h' ∧ Own h' a MET ∧ IntAt h' b q (sV (l.take j) * (UW : Int)) ∧ h.size ≤ q ∧ q ≠ a
    | _ => False, n, ⟨rfl, rfl, rfl, rfl, rfl, rfl, rfl, rfl, rfl, rfl, 0, b, rfl, by omega, rfl, Ext.trans f1 f2, o1.ext f2, ?_, by have := f1.size; omega, by have := o1.lt; omega⟩, ?_⟩)
  · have : sV (l.take 0) * (UW : Int) = 0 := by show (0 : Int) * _ = 0; rw [Int.zero_mul]
    rw [this]
    exact ZeroAt.int o2
  have la := o1.lt
  have s1 := f1.size
  rintro m h' _ _ _ _ _ _ _ _ _ _ _ _ _ ⟨rfl, rfl, rfl, rfl, rfl, rfl, rfl, rfl, rfl, rfl, j, q, rfl, hj, rfl, E, Oa, T, hq, hqa⟩ _
  have hT : ∀ x ∈ l.take j, isFin x = true := fun x hx => (hf x (List.mem_of_mem_take hx)).2
  have hbl := sV_bl hT (by rw [List.length_take]; omega)
  refine ⟨fun e2 => ?_, fun e2 => ?_⟩
  · have hjl : j < l.length := by have := of_decide_eq_true e2; omega
    obtain ⟨ij, fj⟩ := hf l[j] (List.getElem_mem _)
    have ljl : j < n := by omega
    have C1 := hcell j hjl E
    have C2 := hcell2 j hjl E
    have hsa : (FloatKind.f64.format.order (wd l[j]) (wd l[j]) != some .eq) = isNaN (sg (wd l[j])) := order_self (wd_lt _)
    have hsb : (FloatKind.f64.format.order (wd P1) (wd P1) != some .eq) = isNaN (sg (wd P1)) := order_self (wd_lt _)
    rw [sg_wd ij, (fin_not fj).1] at hsa
    rw [sg_wd i1, (fin_not g1).1] at hsb
    refine ⟨e, 0, rfl, by omega, by omega, e, _, rfl, wd l[j], C1, K118 (wd_lt _) ⟨_, rfl, ?_⟩⟩
    rw [sg_wd ij, (fin_not fj).2]
    refine ⟨fun e => (by cases e), fun _ => ⟨eo, 0, rfl, by omega, by omega, eo, _, rfl, wd P1, C2, K118 (wd_lt _) ⟨_, rfl, ?_⟩⟩⟩
    rw [sg_wd i1, (fin_not g1).2]
    refine ⟨fun e => (by cases e), fun _ => ⟨e, 0, rfl, by omega, by omega, e, _, rfl, wd l[j], C1, e, 0, rfl, by omega, by omega, e, _, rfl, wd l[j], C1, ?_⟩⟩
    rw [hsa]
    refine ⟨fun e => (by cases e), fun _ => ⟨eo, 0, rfl, by omega, by omega, eo, _, rfl, wd P1, C2, eo, 0, rfl, by omega, by omega, eo, _, rfl, wd P1, C2, ?_⟩⟩
    rw [hsb]
    refine ⟨fun e => (by cases e), fun _ => ⟨e, 0, rfl, by omega, by omega, e, _, rfl, wd l[j], C1, eo, 0, rfl, by omega, by omega, eo, _, rfl, wd P1, C2, ?_⟩⟩
    refine K1371 T ij fj rfl (by omega) fun q' h4 f4 hq' T4 => ⟨rfl, n - (j + 1), by omega, rfl, rfl, rfl, rfl, rfl, rfl, rfl, rfl, rfl, rfl, j + 1, q', ?_, by omega, rfl, ?_, ?_, ?_, ?_, ?_⟩
    · rw [i64_in (x := (j : Int) + 1) (by omega) (by omega)]; omega
    · refine Fr.trans E f4 fun x hx k => ?_
      rcases k with k | k
      · omega
      · have := k.1; omega
    · exact Oa.fr f4 fun k => by rcases k with k | k; omega; exact hqa k.1.symm
    · rw [sV_take hjl, Int.add_mul]; exact T4
    · have := E.size; omega
    · have := E.size
      have := Oa.lt
      omega
  · have hjn : j = n := by have := of_decide_eq_false e2; omega
    rw [hjn, List.take_of_length_le (by omega)] at T
    have hbl2 := sV_bl (fun x hx => (hf x hx).2) (by omega)
    refine K1372 Oa ⟨_, _, rfl, fun e => (by cases e), fun _ => K1373 (ht.fr E id) T (by omega) fun ng p n c e h5 f5 NS => ⟨_, _, _, _, _, rfl, ?_⟩⟩
    exact Hto (Ext.trans E f5) NS fun h6 b f6 => ⟨_, _, _, rfl, H h6 (Ext.trans (Ext.trans E f5) f6)⟩
theorem FlsA.ext {h h' : Heap} {e : Nat} {l : List Int} (A : FlsA h e l) (f : Ext h h') : FlsA h' e l := let ⟨cs, o, a⟩ := A; ⟨cs, o.ext f, a⟩
/-- sums.Dot, of finite floats and ones. -/
theorem K1363 {p p2 : Option Addr} {n c c2 : Nat} {l : List Int} {w : Int} (ht : TabH h) (I : IntsH h p l) (I2 : IntsH h p2 (List.replicate n P1)) (hn : l.length = n) (hl : n ≤ 4096) (hf : ∀ x ∈ l, isFin x = true) (h0 : 0 ≤ w) (h4 : w < 4)
    (H : ∀ h', Ext h h' → R (.returned (.tuple #[.int .i64 (sumV w l), .int .i64 (0 : Int)])) h') : Ent Tryz.prog B 18 #[.slice p n c, .slice p2 n c2, .int .i64 w] R h := by
  refine F1363_ok _ _ _ _ _ _ _ (alK fun e h1 e1 f1 o1 z1 => K1364t o1 h0 h4 hl ⟨_, rfl, fun e => absurd e (by decide), fun _ => ?_⟩)
  refine K1366 (φ := id) (I.ext f1) hn (by omega) (fun x h' _ k => K54 k) fun e2 h2 f2 l2 A => ⟨_, _, _, rfl, ?_⟩
  refine K1366 (φ := id) ((I2.ext f1).ext f2) (by rw [List.length_replicate]) (by omega) (fun x h' _ k => K54 k) fun e3 h3 f3 l3 A3 => ⟨_, _, _, rfl, ?_⟩
  rw [List.map_id] at A A3
  refine K1369 (v := sumV w l) (((ht.fr f1 id).fr f2 id).fr f3 id) (A.ext f3) A3 hn hl (fun x hx => ⟨I.1 x hx, hf x hx⟩) (fun {R' h' ng p n c e} E N k => ?_) fun h4 f4 => ⟨_, _, rfl, H h4 (Ext.trans (Ext.trans (Ext.trans f1 f2) f3) f4)⟩
  exact K1030 N h0 h4 fun h'' f => k h'' _ f
end Go.Proofs
set_option linter.unusedVariables false
/-! round.To32 of the number 2; sums.Sum32 and sums.Left of two ones; plumblaw5.alive. -/
namespace Go.Proofs
open Go Go.Eng
variable {B : World} {R : Ending → Heap → Prop} {h : Heap}
/-- math/big.msb32. -/
theorem K1338 {q o n c : Nat} {ws : List Nat} (M : Mn h q o n c ws) (h0 : 0 < n) (H : R (.returned (.int .u32 ((ws.getD (n - 1) 0 / 4294967296 : Nat) : Int))) h) : Ent Tryz.prog B 127 #[.slice (some ⟨q, o, none⟩) n c] R h := by
  have hl := M.len
  have hc := M.lim
  have hle := M.le
  have e1 : IntKind.i64.wrap ((n : Int) - 1) = ((n - 1 : Nat) : Int) := by rw [i64_in (by omega) (by omega)]; omega
  refine F1338_ok _ _ _ ⟨fun e => ?_, fun _ => ⟨fun e => (by cases e), fun _ => ?_⟩⟩
  · rw [e1] at e; have := of_decide_eq_true e; omega
  rw [e1]
  refine ⟨fun e => (by cases e), fun _ => ⟨fun e => absurd e (by decide), fun _ => ⟨fun _ => ?_, fun e => (by cases e)⟩⟩⟩
  have hw : n - 1 < ws.length := by omega
  have hd := M.dig _ (List.getElem_mem hw)
  rw [List.getD_eq_getElem?_getD, List.getElem?_eq_getElem hw] at H
  refine M.sl.get (n - 1) rfl (by omega) (by omega) ⟨by decide, ?_⟩
  have H : R (.returned (.int .u32 ((ws[n - 1] / 4294967296 : Nat) : Int))) h := H
  have hd : ws[n - 1] < 18446744073709551616 := hd
  generalize ws[n - 1] = w at *
  have h1 := fdiv_pow (x := w) (s := 32) (by decide)
  rw [show ((32 : Nat) : Int) = 32 from rfl, show (2 : Nat) ^ 32 = 4294967296 by decide] at h1
  rw [h1, wrap_u32_in (by omega) (by omega)]
  exact H
/-- Float32 of 2. -/
theorem K1335c {r q : Nat} {pr ac : Int} (F : FltV h r q pr ac false 1 9223372036854775808 2) (hpr : 53 < pr)
    (H : ∀ h', Ext h h' → R (.returned (.tuple #[.float .f32 1073741824, .int .i8 (0 : Int)])) h') :
    Ent Tryz.prog B 83 #[.pointer (some ⟨r, 0, none⟩)] R h := by
  obtain ⟨o, c, ws, F1, M1, v1, hT, hq⟩ := F
  refine F1335_ok _ ⟨fun e => by simp at e, fun _ => F1.lfo ⟨fun _ => F1.lex ?_, fun e => absurd (of_decide_eq_false e) (by simp)⟩⟩
  have w1 : IntKind.i32.wrap ((2 : Int) - (1 : Int)) = 1 := by decide +kernel
  rw [w1]
  refine ⟨fun e => absurd e (by decide), fun _ => ?_⟩
  refine alK fun rz g1 erz f1 o1 z1 => ?_
  have Z1 : Flt g1 rz 0 0 0 false none 0 0 0 := o1
  have hrz : rz ≠ r := by have := F1.lt; omega
  have hrq : rz ≠ q := by have := M1.lt; omega
  refine ⟨rz, 0, rfl, rz, 0, rfl, Own.stC Z1 (by simp) rfl fun a2 f2 => ?_⟩
  have w2 : IntKind.u32.wrap (24 : Int) = ((24 : Nat) : Int) := by decide +kernel
  rw [w2] at a2 f2 ⊢
  generalize setCell g1 ⟨rz, 0, none⟩ (.int .u32 ((24 : Nat) : Int)) = g2 at a2 f2 ⊢
  have Z2 : Flt g2 rz ((24 : Nat) : Int) 0 0 false none 0 0 0 := a2
  have F2 : FltV g2 r q pr ac false 1 9223372036854775808 2 := ⟨o, c, ws, (F1.fr f1 id).fr f2 (fun e => hrz e.symm), (M1.fr f1 id).fr f2 (fun e => hrq e.symm), v1, hT, hq⟩
  refine K1098b Z2 F2 hrz hrq hpr (by decide) (by decide) (by decide) (by decide) (by decide) fun g3 q3 o3 c3 Z3 M3 f3 => ⟨_, rfl, ?_⟩
  have fx : Ext h g3 := by
    have a := Fr.trans (Fr.trans (S := fun x => x = rz) (Ext.to f1) f2 fun _ _ e => e) f3 fun _ _ e => e
    exact Fr.toExt a fun x hx e => by omega
  have Fx : Flt g3 r pr ac 1 false (some ⟨q, o, none⟩) 1 c 2 := ((F1.fr f1 id).fr f2 (fun e => hrz e.symm)).fr f3 (fun e => hrz e.symm)
  have HH := H g3 fx
  have e1 : rn 9223372036854775808 (64 * 1 - 24) = 8388608 := by decide +kernel
  have e2 : accR 9223372036854775808 (64 * 1 - 24) false = 0 := by decide +kernel
  have e3 : rndE 8388608 24 = 0 := by decide +kernel
  have e4 : rndW 8388608 24 = 9223372036854775808 := by decide +kernel
  rw [e1] at Z3 M3
  rw [e2, e3] at Z3
  rw [e4] at M3
  clear H F2 Z2 a2 f2 f3 M1 F1 f1 o1 z1 Z1
  refine ⟨rz, 0, rfl, rz, 0 + 6, rfl, _, Own.cell Z3 _, rz, 0, rfl, rz, 0 + 3, rfl, _, Own.cell Z3 _, fun e => by simp at e, fun _ => ?_⟩
  have w3 : IntKind.i32.wrap (((2 : Int) + 0) - (1 : Int)) = 1 := by decide +kernel
  rw [w3]
  refine ⟨fun e => absurd e (by decide), fun _ => Fx.lng ⟨fun e => (by cases e), fun _ => ?_⟩⟩
  refine ⟨fun e => absurd e (by decide), fun e => ⟨by decide, rz, 0, rfl, rz, 0 + 5, rfl, _, _, _, Own.cell Z3 _, K1338 M3 (by decide) ⟨_, rfl, by decide, ?_⟩⟩⟩
  refine ⟨rz, 0, rfl, rz, 0 + 2, rfl, 0, Own.cell Z3 _, ?_⟩
  have w4 : bitsI .or .u32 (bitsI .or .u32 (0 : Int) (IntKind.u32.wrap ((IntKind.u32.wrap (IntKind.i32.wrap ((1 : Int) + (127 : Int)))) * 2 ^ min (Int.toNat (23 : Int)) IntKind.u32.bits))) (bitsI .and .u32 (Int.fdiv (([9223372036854775808].getD (1 - 1) 0 / 4294967296 : Nat) : Int) (2 ^ min (Int.toNat (8 : Int)) IntKind.u32.bits)) (8388607 : Int)) = ((1073741824 : Nat) : Int) := by decide +kernel
  rw [w4]
  exact E1331 ⟨_, rfl, rfl, HH⟩
/-- number.to32 of 1 times 2. -/
theorem K1333c {r q : Nat} {wv : Value} (hone : oneCell wv = true) (hx : IntAt h r q 1)
    (H : ∀ h', Ext h h' → R (.returned (.tuple #[.int .i64 (1073741824 : Int), .bool false])) h') :
    Ent Tryz.prog B 50 #[.agg #[.pointer (some ⟨r, 0, none⟩), .int .i64 (1 : Int), .bool false], .agg #[wv]] R h := by
  refine F1333_ok _ _ _ _ (alK fun r1 h1 e1 f1 o1 z1 => alK fun r2 h2 e2 f2 o2 z2 => ?_)
  have X2 := (hx.ext f1).ext f2
  have O1 := o1.ext f2
  refine ⟨r1, 0, rfl, _, O1.cell _, _, O1.cell _, _, O1.cell _, K1078 X2 (by decide) (by omega) (by omega) fun r3 q3 h3 f3 l3 X3 => ⟨_, _, _, rfl, ?_⟩⟩
  refine alK fun r4 h4 e4 f4 o4 z4 => ⟨r4, 0, rfl, o4.stC (by simp) rfl fun oa fa => oa.stC (by simp) rfl fun ob fb => ob.stC (by simp) rfl fun O4 fc => ?_⟩
  have fabc := Fr.trans (S := fun x => x = r4) (Fr.trans (S := fun x => x = r4) fa fb fun _ _ e => e) fc fun _ _ e => e
  generalize setCell (setCell (setCell h4 _ _) _ _) _ _ = h5 at *
  have O4 : Own h5 r4 #[.pointer (some ⟨r3, 0, none⟩), .int .i64 (1 - 1), .bool false] := O4
  have F5 : Ext h h5 := Fr.trans (Ext.trans (Ext.trans (Ext.trans f1 f2) f3) f4) fabc fun x hx e => by have := f3.size; omega
  have G5 : Ext h2 h5 := Fr.trans (Ext.trans f3 f4) fabc fun x hx e => by have := f3.size; omega
  have G35 : Ext h3 h5 := Fr.trans f4 fabc fun x hx e => by omega
  have X5 : IntAt h5 r3 q3 2 := X3.ext G35
  refine alK fun r6 h6 e6 f6 o6 z6 => ⟨r4, 0, rfl, r4, 0, rfl, _, (O4.ext f6).cell _, ?_⟩
  have Z6 : Flt h6 r6 0 0 0 false none 0 0 0 := o6
  have X6 := X5.ext f6
  have lx := X5.lt
  have lq := X5.lq
  have lo4 := O4.lt
  have F6 := Ext.trans F5 f6
  clear hx X2 X3
  have hbl : bl (2 : Int).natAbs = 2 := by decide +kernel
  refine K1079 Z6 X6 (by omega) (by omega) (by decide) (by decide +kernel) fun q n h7 f7 l7 hn1 hn2 hn3 V7 => ⟨_, rfl, r4, 0, rfl, r4, 0 + 1, rfl, _, ((O4.ext f6).fr f7 (by omega)).cell _, ?_⟩
  rw [hbl] at hn1 hn3 V7
  have hn : n = 1 := by omega
  subst hn
  have eV : (2 : Int).natAbs * 2 ^ (64 * 1 - 2) = 9223372036854775808 := by decide +kernel
  have e0 : decide ((2 : Int) < 0) = false := by decide
  rw [eV, e0] at V7
  have hm : max ((2 : Nat) : Int) 64 = 64 := by decide
  rw [hm] at V7
  refine K1080 (e := 0) V7 (by decide) (by decide) (by decide) (by decide) (by decide) (by decide) (by decide) (by decide) (by decide) (by decide) fun h8 V8 f8 => ⟨_, rfl, ?_⟩
  have V8 : FltV h8 r6 q 64 0 false 1 9223372036854775808 2 := V8
  refine K1335c V8 (by decide) fun h9 f9 => ⟨_, _, rfl, ?_⟩
  have n7 : ∀ x, x < h6.size → x ≠ r6 → ¬ (x = r6 ∨ x = q) := fun x a b c => by omega
  have s7 := f7.size
  have kp : ∀ {x : Nat} {cs : Array Value}, Own h6 x cs → x ≠ r6 → Own h9 x cs := fun o hx => ((o.fr f7 hx).fr f8 (n7 _ o.lt hx)).ext f9
  have E9 : Ext h h9 := Fr.trans (Fr.trans (Fr.trans F6 f7 fun x hx e => by have := F5.size; omega) f8 fun x hx e => by have := F5.size; omega) f9 fun x hx e => e
  have HH := H _ E9
  have O1' := kp ((O1.ext G5).ext f6) (by have := f3.size; omega)
  refine F1332_ok _ ⟨fun e => absurd e (by decide +kernel), fun _ => E1334 ⟨_, rfl, ⟨_, rfl, fun e => absurd e (by decide), fun _ => ⟨fun e => absurd e (by decide), fun _ => ⟨r1, 0, rfl, r1, 0 + 2, rfl, _, O1'.cell _, ?_⟩⟩⟩⟩⟩
  have e5 : IntKind.i64.wrap ((1073741824 : Nat) : Int) = 1073741824 := by decide +kernel
  rw [e5]
  exact HH
end Go.Proofs
