import Derived.Test.YtpnfpefcjeafbaaGreatFmtA39
import Derived.Test.YtpnfpefcjeafbaaGreatFmtA09
import Derived.Test.YtpnfpefcjeafbaaGreatFmtA28
/- Here stand lemmas and contracts, in the order in which they are used. -/
set_option linter.unusedVariables false
set_option linter.unusedVariables false
/-! sums.Dot with ones, sums.Left of ones. -/
namespace Go.Proofs
open Go Go.Eng
variable {B : World} {R : Ending → Heap → Prop} {h : Heap}
/-- sums.look, of two lists as long as each other. -/
theorem K1364t {e n c c' : Nat} {p p' : Option Addr} {w : Int} (O : Own h e #[.slice p n c, .slice p' n c']) (h0 : 0 ≤ w) (h4 : w < 4) (hn : n ≤ 4096) (H : R (.returned (.int .i64 (0 : Int))) h) : Ent Tryz.prog B 28 #[.int .i64 w, .slice (some ⟨e, 0, none⟩) 2 2] R h := by
  have lt : decide (w < (0 : Int)) = false := decide_eq_false (by omega)
  have gt : decide ((3 : Int) < w) = false := decide_eq_false (by omega)
  refine F1364_ok _ _ _ _ ?_
  unfold F1364
  rw [lt, gt]
  refine ⟨fun e => (by cases e), fun _ => ⟨fun e => (by cases e), fun _ => ⟨fun m vs h' => match vs with
    | [.slice p1 n1 c1, .slice p2 n2 c2, .int _ nn, .int _ i] => p1 = some (⟨e, 0, none⟩ : Addr) ∧ n1 = 2 ∧ p2 = some (⟨e, 0, none⟩ : Addr) ∧ n2 = 2 ∧ nn = 2 ∧ h = h' ∧ ((i = 0 ∧ m = 2) ∨ (i = 1 ∧ m = 1) ∨ (i = 2 ∧ m = 0))
    | _ => False, 2, ⟨rfl, rfl, rfl, rfl, rfl, rfl, .inl ⟨rfl, rfl⟩⟩, ?_⟩⟩⟩
  rintro m h' _ _ _ _ _ _ _ _ ⟨rfl, rfl, rfl, rfl, rfl, rfl, hi⟩ _
  have c0 : ∀ x, x = e → cell? h ⟨x, 0, none⟩ = some (.slice p n c) := fun x hx => by subst hx; exact (O.cell _).trans rfl
  have c1 : ∀ x, x = e → cell? h ⟨x, 1, none⟩ = some (.slice p' n c') := fun x hx => by subst hx; exact (O.cell _).trans rfl
  rcases hi with ⟨rfl, rfl⟩ | ⟨rfl, rfl⟩ | ⟨rfl, rfl⟩
  · refine ⟨fun _ => ⟨e, 0, rfl, by decide, by decide, e, _, rfl, p, n, c, c0 _ rfl, e, 0, rfl, by decide, by decide, e, _, rfl, p, n, c, c0 _ rfl, fun e1 => ?_, fun _ => ⟨1, by decide, rfl, rfl, rfl, rfl, rfl, rfl, .inr (.inl ⟨rfl, rfl⟩)⟩⟩, fun e => absurd e (by decide)⟩
    simp at e1
  · refine ⟨fun _ => ⟨e, 0, rfl, by decide, by decide, e, _, rfl, p', n, c', c1 _ rfl, e, 0, rfl, by decide, by decide, e, _, rfl, p, n, c, c0 _ rfl, fun e1 => ?_, fun _ => ⟨0, by decide, rfl, rfl, rfl, rfl, rfl, rfl, .inr (.inr ⟨rfl, rfl⟩)⟩⟩, fun e => absurd e (by decide)⟩
    simp at e1
  · refine ⟨fun e => absurd e (by decide), fun _ => ⟨e, 0, rfl, by decide, by decide, e, _, rfl, p, n, c, c0 _ rfl, fun e1 => absurd (of_decide_eq_true e1) (by omega), fun _ => H⟩⟩
/-- sums.dotted, of finite floats and ones. -/
theorem K1369 {f1 f2 e eo n c c2 : Nat} {l : List Int} {w v : Int} (ht : TabH h) (A : FlsA h e l) (A2 : FlsA h eo (List.replicate n P1)) (hn : l.length = n) (hl : n ≤ 4096) (hf : ∀ x ∈ l, I64 x ∧ isFin x = true)
    (Hto : ∀ {R' : Ending → Heap → Prop} {h' : Heap} {ng : Bool} {p : Option Addr} {n c : Nat} {e : Int}, Ext h h' → NumS 2148 h' ng p n e (sV l * (UW : Int)) → (∀ h'' b, Ext h' h'' → R' (.returned (.tuple #[.int .i64 v, .bool b, .int .i64 (0 : Int)])) h'') →
      EntV Tryz.prog B (.func (.func f1) #[] #[]) #[.agg #[.bool ng, .slice p n c, .int .i64 e], .int .i64 w] R' h')
    (H : ∀ h', Ext h h' → R (.returned (.tuple #[.int .i64 v, .int .i64 (0 : Int)])) h') :
    Ent Tryz.prog B 42 #[.slice (some ⟨e, 0, none⟩) n c, .slice (some ⟨eo, 0, none⟩) n c2, .func (.func f1) #[] #[], .func (.func f2) #[] #[], .int .i64 w] R h := by
  obtain ⟨cs, oc, hs, hc⟩ := A
  obtain ⟨cs2, oc2, hs2, hc2⟩ := A2
  have hcell : ∀ {k : Heap} (j : Nat) (hj : j < l.length), Ext h k → cell? k ⟨e, 0 + (j : Int).toNat * 1, none⟩ = some (.float .f64 (wd l[j])) := fun j hj E => by
    rw [Int.toNat_natCast, Nat.mul_one, Nat.zero_add]
    exact ((oc.ext E).cell _).trans (hc j hj)
  have hcell2 : ∀ {k : Heap} (j : Nat) (hj : j < l.length), Ext h k → cell? k ⟨eo, 0 + (j : Int).toNat * 1, none⟩ = some (.float .f64 (wd P1)) := fun j hj E => by
    rw [Int.toNat_natCast, Nat.mul_one, Nat.zero_add]
    have := hc2 j (by rw [List.length_replicate]; omega)
    rw [List.getElem_replicate] at this
    exact ((oc2.ext E).cell _).trans this
  have i1 : I64 P1 := by unfold I64 P1; omega
  have g1 : isFin P1 = true := by decide
  refine F1369_ok _ _ _ _ _ _ _ _ _ (alK fun a h1 e1 f1 o1 z1 => alK fun b h2 e2 f2 o2 z2 => ⟨fun m vs h' => match vs with
    | [.slice p1 n1 c1, .slice p2 n2 c2, g1, g2, .int _ ww, .pointer pa, .pointer pb, .int _ nn, .int _ i] => p1 = some (⟨e, 0, none⟩ : Addr) ∧ n = n1 ∧ p2 = some (⟨eo, 0, none⟩ : Addr) ∧ n = n2 ∧ g1 = .func (.func _) #[] #[] ∧ g2 = .func (.func _) #[] #[] ∧ ww = w ∧ pa = some (⟨a, 0, none⟩ : Addr) ∧ pb = some (⟨b, 0, none⟩ : Addr) ∧ nn = (n : Int) ∧
        ∃ j q : Nat, i = (j : Int) ∧ j ≤ n ∧ m = n - j ∧ Ext h h' ∧ Own h' a MET ∧ IntAt h' b q (sV (l.take j) * (UW : Int)) ∧ h.size ≤ q ∧ q ≠ a
    | _ => False, n, ⟨rfl, rfl, rfl, rfl, rfl, rfl, rfl, rfl, rfl, rfl, 0, b, rfl, by omega, rfl, Ext.trans f1 f2, o1.ext f2, ?_, by have := f1.size; omega, by have := o1.lt; omega⟩, ?_⟩)
  · have : sV (l.take 0) * (UW : Int) = 0 := by show (0 : Int) * _ = 0; rw [Int.zero_mul]
    rw [this]
    exact ZeroAt.int o2
  have la := o1.lt
  have s1 := f1.size
  rintro m h' _ _ _ _ _ _ _ _ _ _ _ _ _ ⟨rfl, rfl, rfl, rfl, rfl, rfl, rfl, rfl, rfl, rfl, j, q, rfl, hj, rfl, E, Oa, T, hq, hqa⟩ _
  have hT : ∀ x ∈ l.take j, isFin x = true := fun x hx => (hf x (List.mem_of_mem_take hx)).2
  have hbl := sV_bl hT (by rw [List.length_take]; omega)
  refine ⟨fun e2 => ?_, fun e2 => ?_⟩
  · have hjl : j < l.length := by have := of_decide_eq_true e2; omega
    obtain ⟨ij, fj⟩ := hf l[j] (List.getElem_mem _)
    have ljl : j < n := by omega
    have C1 := hcell j hjl E
    have C2 := hcell2 j hjl E
    have hsa : (FloatKind.f64.format.order (wd l[j]) (wd l[j]) != some .eq) = isNaN (sg (wd l[j])) := order_self (wd_lt _)
    have hsb : (FloatKind.f64.format.order (wd P1) (wd P1) != some .eq) = isNaN (sg (wd P1)) := order_self (wd_lt _)
    rw [sg_wd ij, (fin_not fj).1] at hsa
    rw [sg_wd i1, (fin_not g1).1] at hsb
    refine ⟨e, 0, rfl, by omega, by omega, e, _, rfl, wd l[j], C1, K118 (wd_lt _) ⟨_, rfl, ?_⟩⟩
    rw [sg_wd ij, (fin_not fj).2]
    refine ⟨fun e => (by cases e), fun _ => ⟨eo, 0, rfl, by omega, by omega, eo, _, rfl, wd P1, C2, K118 (wd_lt _) ⟨_, rfl, ?_⟩⟩⟩
    rw [sg_wd i1, (fin_not g1).2]
    refine ⟨fun e => (by cases e), fun _ => ⟨e, 0, rfl, by omega, by omega, e, _, rfl, wd l[j], C1, e, 0, rfl, by omega, by omega, e, _, rfl, wd l[j], C1, ?_⟩⟩
    rw [hsa]
    refine ⟨fun e => (by cases e), fun _ => ⟨eo, 0, rfl, by omega, by omega, eo, _, rfl, wd P1, C2, eo, 0, rfl, by omega, by omega, eo, _, rfl, wd P1, C2, ?_⟩⟩
    rw [hsb]
    refine ⟨fun e => (by cases e), fun _ => ⟨e, 0, rfl, by omega, by omega, e, _, rfl, wd l[j], C1, eo, 0, rfl, by omega, by omega, eo, _, rfl, wd P1, C2, ?_⟩⟩
    refine K1371 T ij fj rfl (by omega) fun q' h4 f4 hq' T4 => ⟨rfl, n - (j + 1), by omega, rfl, rfl, rfl, rfl, rfl, rfl, rfl, rfl, rfl, rfl, j + 1, q', ?_, by omega, rfl, ?_, ?_, ?_, ?_, ?_⟩
    · rw [i64_in (x := (j : Int) + 1) (by omega) (by omega)]; omega
    · refine Fr.trans E f4 fun x hx k => ?_
      rcases k with k | k
      · omega
      · have := k.1; omega
    · exact Oa.fr f4 fun k => by rcases k with k | k; omega; exact hqa k.1.symm
    · rw [sV_take hjl, Int.add_mul]; exact T4
    · have := E.size; omega
    · have := E.size
      have := Oa.lt
      omega
  · have hjn : j = n := by have := of_decide_eq_false e2; omega
    rw [hjn, List.take_of_length_le (by omega)] at T
    have hbl2 := sV_bl (fun x hx => (hf x hx).2) (by omega)
    refine K1372 Oa ⟨_, _, rfl, fun e => (by cases e), fun _ => K1373 (ht.fr E id) T (by omega) fun ng p n c e h5 f5 NS => ⟨_, _, _, _, _, rfl, ?_⟩⟩
    exact Hto (Ext.trans E f5) NS fun h6 b f6 => ⟨_, _, _, rfl, H h6 (Ext.trans (Ext.trans E f5) f6)⟩
theorem FlsA.ext {h h' : Heap} {e : Nat} {l : List Int} (A : FlsA h e l) (f : Ext h h') : FlsA h' e l := let ⟨cs, o, a⟩ := A; ⟨cs, o.ext f, a⟩
/-- sums.Dot, of finite floats and ones. -/
theorem K1363 {p p2 : Option Addr} {n c c2 : Nat} {l : List Int} {w : Int} (ht : TabH h) (I : IntsH h p l) (I2 : IntsH h p2 (List.replicate n P1)) (hn : l.length = n) (hl : n ≤ 4096) (hf : ∀ x ∈ l, isFin x = true) (h0 : 0 ≤ w) (h4 : w < 4)
    (H : ∀ h', Ext h h' → R (.returned (.tuple #[.int .i64 (sumV w l), .int .i64 (0 : Int)])) h') : Ent Tryz.prog B 18 #[.slice p n c, .slice p2 n c2, .int .i64 w] R h := by
  refine F1363_ok _ _ _ _ _ _ _ (alK fun e h1 e1 f1 o1 z1 => K1364t o1 h0 h4 hl ⟨_, rfl, fun e => absurd e (by decide), fun _ => ?_⟩)
  refine K1366 (φ := id) (I.ext f1) hn (by omega) (fun x h' _ k => K54 k) fun e2 h2 f2 l2 A => ⟨_, _, _, rfl, ?_⟩
  refine K1366 (φ := id) ((I2.ext f1).ext f2) (by rw [List.length_replicate]) (by omega) (fun x h' _ k => K54 k) fun e3 h3 f3 l3 A3 => ⟨_, _, _, rfl, ?_⟩
  rw [List.map_id] at A A3
  refine K1369 (v := sumV w l) (((ht.fr f1 id).fr f2 id).fr f3 id) (A.ext f3) A3 hn hl (fun x hx => ⟨I.1 x hx, hf x hx⟩) (fun {R' h' ng p n c e} E N k => ?_) fun h4 f4 => ⟨_, _, rfl, H h4 (Ext.trans (Ext.trans (Ext.trans f1 f2) f3) f4)⟩
  exact K1030 N h0 h4 fun h'' f => k h'' _ f
end Go.Proofs
namespace Go.Proofs
open Go Go.Eng
/-- plumb/bits.Float32 -/
def F1326_j3 (B : World) (R : Po) (a0 : Int) (b0 : Heap) : Prop :=
 Ec B 76 #[.int .u32 (IntKind.u32.wrap a0)] (retE (fun c0 d0 => ∃ e0, c0 = .float .f32 e0 ∧
 R (.returned (.float .f32 e0)) d0)
(pk R)) b0
def F1326 (B : World) (R : Po) (f0 : Int) (h : Heap) : Prop :=
 Ec B 43 #[.int .i64 f0] (retE (fun g0 i0 => ∃ j0, g0 = .bool j0 ∧
((!j0) = true →
 F1326_j3 B R (2143289345 : Int) i0) ∧
((!j0) = false →
 F1326_j3 B R f0 i0))
(pk R)) h
def F1326_L : Nat → List (Nat × TypeDesc) := fun _ => []
def F1326_J (B : World) (R : Po) : Nat → Option JT := fun i => match i with
  | 3 => some ⟨[(0, .int .i64)], fun s v h => match s, v with
    | [], [.int _ a0] => F1326_j3 B R a0 h
    | _, _ => False⟩
  | _ => none
theorem F1326_ok {B : World} {R : Ending → Heap → Prop} (f0 : Int) {h : Heap} (H : F1326 B R f0 h) : Ec B 45 #[.int .i64 f0] R h :=
 Ej Tryz.func45 (by kernel_rfl) (by kernel_rfl) (by kernel_rfl) F1326_L (F1326_J B R) [] (by kernel_rfl) (by kernel_rfl) H

/-- plumb/bits.pattern -/
def F1330 (B : World) (R : Po) (a0 : Int) (h : Heap) : Prop :=
 R (.returned (.bool (decide (a0 = (IntKind.i64.wrap (IntKind.u32.wrap a0)))))) h
def F1330_L : Nat → List (Nat × TypeDesc) := fun _ => []
theorem F1330_ok {B : World} {R : Ending → Heap → Prop} (a0 : Int) {h : Heap} (H : F1330 B R a0 h) : Ec B 43 #[.int .i64 a0] R h :=
 Ek Tryz.func43 (by kernel_rfl) (by kernel_rfl) (by kernel_rfl) F1330_L [] (by kernel_rfl) H

/-- plumb/bits.Of32 -/
def F1332 (B : World) (R : Po) (a0 : Nat) (h : Heap) : Prop :=
((FloatKind.f32.format.order a0 a0 != some .eq) = true →
 R (.returned (.int .i64 (2143289345 : Int))) h) ∧
((FloatKind.f32.format.order a0 a0 != some .eq) = false →
 Ec B 116 #[.float .f32 a0] (retE (fun b0 c0 => ∃ d0, b0 = .int .u32 d0 ∧
 R (.returned (.int .i64 (IntKind.i64.wrap d0))) c0)
(pk R)) h)
def F1332_L : Nat → List (Nat × TypeDesc) := fun _ => []
theorem F1332_ok {B : World} {R : Ending → Heap → Prop} (a0 : Nat) {h : Heap} (H : F1332 B R a0 h) : Ec B 77 #[.float .f32 a0] R h :=
 Ek Tryz.func77 (by kernel_rfl) (by kernel_rfl) (by kernel_rfl) F1332_L [] (by kernel_rfl) H
end Go.Proofs
set_option linter.unusedVariables false
/-! binary32: words and patterns; 1 as binary32 and as binary64. -/
namespace Go.Proofs
open Go Go.Eng
variable {B : World} {R : Ending → Heap → Prop} {h : Heap}
theorem E1331 {n : Nat} (H : R (.returned (.float .f32 n)) h) : Ent Tryz.prog B 76 #[.int .u32 (n : Int)] R h :=
  Ent.of_ext (e := Extern.MathFloatBits.float32frombits) Tryz.func76 (by kernel_rfl) (by kernel_rfl) (by kernel_rfl) (by kernel_rfl) rfl H
theorem E1334 {n : Nat} (H : R (.returned (.int .u32 (n : Int))) h) : Ent Tryz.prog B 116 #[.float .f32 n] R h :=
  Ent.of_ext (e := Extern.MathFloatBits.float32bits) Tryz.func116 (by kernel_rfl) (by kernel_rfl) (by kernel_rfl) (by kernel_rfl) rfl H
abbrev S1 : Int := 1065353216
theorem K1326c (H : R (.returned (.float .f32 1065353216)) h) : Ent Tryz.prog B 45 #[.int .i64 S1] R h := by
  refine F1326_ok _ (F1330_ok _ ⟨_, rfl, fun e => absurd e (by decide +kernel), fun _ => ?_⟩)
  have e1 : IntKind.u32.wrap S1 = ((1065353216 : Nat) : Int) := by decide +kernel
  unfold F1326_j3
  rw [e1]
  exact E1331 ⟨_, rfl, H⟩
theorem dec32 : FloatKind.f32.decode 1065353216 = .number false 8388608 (-23) := by decide +kernel
theorem cv32 {K : Nat → Prop} (H : K 4607182418800017408) : cvW .f32 1065353216 .f64 K := by
  refine ⟨fun e => (by cases e), fun _ => ?_⟩
  rw [dec32]
  refine ⟨fun e => absurd e (by decide +kernel), fun _ => ?_⟩
  have : FloatKind.f64.encode (.number false 8388608 (-23)) = 4607182418800017408 := by decide +kernel
  rw [this]; exact H
end Go.Proofs
