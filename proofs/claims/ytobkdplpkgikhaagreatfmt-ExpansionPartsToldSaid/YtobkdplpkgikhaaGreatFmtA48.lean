import Derived.Test.YtobkdplpkgikhaaGreatFmtA37
import Derived.Test.YtobkdplpkgikhaaGreatFmtA47
/- Here stand lemmas and contracts, in the order in which they are used. -/
set_option linter.unusedVariables false
set_option linter.unusedVariables false
namespace Go.Eng
open Go
/-- What the marks need: the lists stand where they stood, and their rooms are there. -/
structure StA (h h' : Heap) (r : Nat) (pL : Option Addr) (cL : Nat) (pW : Option Addr) (cW : Nat) (es : List En) : Prop where
  obj : Own h' r #[.slice pL es.length cL, .slice pW es.length cW]
  vL : Sv h' pL (es.map En.v)
  room : ∀ e ∈ es, Room h' e.p e.c fun b => ¬ KB r pL pW b
  fr : Fr (KT r pL pW es) h h'
/-- The first j cells of list i bear its mark. -/
def Mk (h' : Heap) (e : En) (i j : Nat) : Prop := ∀ j', j' < j → ∀ b o, e.p = some ⟨b, o, none⟩ → cell? h' ⟨b, o + j', none⟩ = some (.int .i64 (-2 - (i : Int)))
/-- A write into list i: behind its cells, or a mark. -/
theorem StA.set {h h' : Heap} {r cL cW : Nat} {pL pW : Option Addr} {es : List En} (S : StA h h' r pL cL pW cW es) {i : Nat} (hi : i < es.length) {b o k : Nat} {cs : Array Value} {v : Value} (hp : es[i].p = some ⟨b, o, none⟩) (hc : es[i].c ≠ 0) (O : Own h' b cs) (hnb : ¬ KB r pL pW b) :
    StA h (setCell h' ⟨b, k, none⟩ v) r pL cL pW cW es := by
  have F : Fr (fun x => x = b) h' (setCell h' ⟨b, k, none⟩ v) := fr_setCell
  refine ⟨S.obj.fr F fun e => hnb (.inl e.symm), S.vL.fr F fun x hx _ e => hnb (.inr (.inl (e ▸ hx))), fun e he => ?_, Fr.trans S.fr F fun x _ e => .inr ⟨es[i], List.getElem_mem hi, hc, o, by rw [hp, e]⟩⟩
  rcases S.room e he with k | ⟨b', o', cs', e1, O', g, n⟩
  · exact .inl k
  · by_cases hb : b' = b
    · subst hb
      have := O.inj O'
      subst this
      exact .inr ⟨b', o', _, e1, own_set O, by simpa using g, n⟩
    · exact .inr ⟨b', o', cs', e1, own_set_ne O' hb, g, n⟩
theorem setCell_other {h : Heap} {b k b' o' : Nat} {cs : Array Value} {v : Value} (O : Own h b cs) (hne : b' ≠ b ∨ o' ≠ k) : cell? (setCell h ⟨b, k, none⟩ v) ⟨b', o', none⟩ = cell? h ⟨b', o', none⟩ := by
  by_cases hb : b' = b
  · subst hb
    rw [(own_set O).cell, O.cell, Array.getElem?_setIfInBounds_ne (by rcases hne with e | e; exact absurd rfl e; exact fun k => e k.symm)]
  · unfold cell?; rw [setCell_ne hb]
/-- Marks stay where another list is written, or behind. -/
theorem Mk.set {h : Heap} {e : En} {i j b k : Nat} {cs : Array Value} {v : Value} (M : Mk h e i j) (O : Own h b cs) (hne : 0 < j → ∀ o, e.p = some ⟨b, o, none⟩ → o + j ≤ k) : Mk (setCell h ⟨b, k, none⟩ v) e i j := by
  intro j' hj' b' o' e1
  rw [setCell_other O (by
    by_cases hb : b' = b
    · subst hb; right; have := hne (by omega) o' e1; omega
    · exact .inl hb)]
  exact M j' hj' b' o' e1
theorem StA.same {h h1 h2 : Heap} {r cL cW : Nat} {pL pW : Option Addr} {es : List En} (S : StA h h1 r pL cL pW cW es) {i : Nat} (hi : i < es.length) {b o : Nat} {cs cs' : Array Value} (hp : es[i].p = some ⟨b, o, none⟩) (hc : es[i].c ≠ 0) (O : Own h1 b cs) (O2 : Own h2 b cs') (hs : cs'.size = cs.size) (F : Fr (fun x => x = b) h1 h2) (hnb : ¬ KB r pL pW b) :
    StA h h2 r pL cL pW cW es := by
  refine ⟨S.obj.fr F fun e => hnb (.inl e.symm), S.vL.fr F fun x hx _ e => hnb (.inr (.inl (e ▸ hx))), fun e he => ?_, Fr.trans S.fr F fun x _ e => .inr ⟨es[i], List.getElem_mem hi, hc, o, by rw [hp, e]⟩⟩
  rcases S.room e he with k | ⟨b', o', cs2, e1, O', g, n⟩
  · exact .inl k
  · by_cases hb : b' = b
    · subst hb
      have := O.inj O'
      subst this
      exact .inr ⟨b', o', _, e1, O2, by rw [hs]; exact g, n⟩
    · exact .inr ⟨b', o', cs2, e1, O'.fr F hb, g, n⟩
theorem StA.ext {h h1 h2 : Heap} {r cL cW : Nat} {pL pW : Option Addr} {es : List En} (S : StA h h1 r pL cL pW cW es) (F : Ext h1 h2) : StA h h2 r pL cL pW cW es := by
  refine ⟨S.obj.ext F, S.vL.fr F fun _ _ _ => id, fun e he => ?_, Fr.trans S.fr F fun x _ e => e.elim⟩
  exact (S.room e he).ext F
theorem Mk.same {h1 h2 : Heap} {e : En} {i j b o : Nat} {cs cs' : Array Value} (M : Mk h1 e i j) (O : Own h1 b cs) (O2 : Own h2 b cs') (F : Fr (fun x => x = b) h1 h2) (hk : ∀ k, k < o → cs'[k]? = cs[k]?) (hne : 0 < j → ∀ o', e.p = some ⟨b, o', none⟩ → o' + j ≤ o) (hr : ∀ b' o', e.p = some ⟨b', o', none⟩ → 0 < j → b' < h1.size) : Mk h2 e i j := by
  intro j' hj' b' o' e1
  rw [← M j' hj' b' o' e1]
  by_cases hb : b' = b
  · subst hb
    have := hne (by omega) o' e1
    rw [O.cell, O2.cell, hk _ (by omega)]
  · exact cell_fr F (hr b' o' e1 (by omega)) hb
theorem svE {h : Heap} {p : Option Addr} {es : List En} (S : Sv h p (es.map En.v)) {j : Nat} (hj : j < es.length) {G : Option Addr → Nat → Nat → Prop} (g : G es[j].p es[j].n es[j].c) :
    ixW p es.length (j : Int) 1 fun b o => isP (some ⟨b, o, none⟩) fun b o => ∃ x xn xc, cell? h ⟨b, o, none⟩ = some (.slice x xn xc) ∧ G x xn xc := by
  rcases S with e | ⟨b, o, cs, e, O, gg⟩
  · have := congrArg List.length e; rw [List.length_map] at this; rw [List.length_nil] at this; omega
  · have hc := gg j (by rw [List.length_map]; exact hj)
    rw [List.getElem_map] at hc
    exact ⟨b, o, e, by omega, by omega, b, _, rfl, _, _, _, by rw [Int.toNat_natCast, Nat.mul_one, O.cell]; exact hc, g⟩
theorem svW {h : Heap} {p : Option Addr} {es : List En} (S : Sv h p (es.map En.w)) {j : Nat} (hj : j < es.length) {G : Option Addr → Nat → Nat → Prop} (g : G es[j].q es[j].n es[j].d) :
    ixW p es.length (j : Int) 1 fun b o => isP (some ⟨b, o, none⟩) fun b o => ∃ x xn xc, cell? h ⟨b, o, none⟩ = some (.slice x xn xc) ∧ G x xn xc := by
  rcases S with e | ⟨b, o, cs, e, O, gg⟩
  · have := congrArg List.length e; rw [List.length_map] at this; rw [List.length_nil] at this; omega
  · have hc := gg j (by rw [List.length_map]; exact hj)
    rw [List.getElem_map] at hc
    exact ⟨b, o, e, by omega, by omega, b, _, rfl, _, _, _, by rw [Int.toNat_natCast, Nat.mul_one, O.cell]; exact hc, g⟩
theorem Room.row {h : Heap} {p : Option Addr} {n c : Nat} {S : Nat → Prop} (H : Room h p c S) (hp : Pt p) (hn : n ≤ c) : ∃ old, rowAt h p (n * 1) old := by
  rcases H with e | ⟨b, o, cs, e, O, g, _⟩
  · have h0 : n = 0 := by omega
    subst h0
    refine ⟨[], ?_⟩
    rcases hp with e | ⟨b, o, e⟩
    · subst e; rfl
    · subst e; exact ⟨rfl, b, o, rfl, fun i hi => absurd hi (by simp)⟩
  · refine ⟨(cs.toList.drop o).take n, ?_⟩
    subst e
    have hl : ((cs.toList.drop o).take n).length = n := by simp; omega
    refine ⟨by rw [hl, Nat.mul_one], b, o, rfl, fun i hi => ?_⟩
    rw [O.cell]
    rw [hl] at hi
    rw [List.getElem_take, List.getElem_drop, Array.getElem_toList, Array.getElem?_eq_getElem (by omega)]
theorem zerosL_len {n : Nat} {v : Value} : (zerosL #[v] n).length = n := by simp [zerosL]
theorem zerosL_one {n : Nat} {k : IntKind} {z : Int} : ∀ x ∈ zerosL #[.int k z] n, oneCell x = true := by
  intro x hx
  unfold zerosL at hx
  obtain ⟨i, _, rfl⟩ := List.mem_map.1 hx
  have : i % (#[Value.int k z] : Array Value).size = 0 := by simp [Nat.mod_one]
  rw [this]; rfl
/-- Noughts appended, and the last one set. -/
theorem azE {h : Heap} {p : Option Addr} {n c m : Nat} {T : Nat → Prop} {K : Heap → Prop} (HR : Room h p c T) (hp : Pt p) (hnc : n ≤ c) (hm1 : 1 ≤ m) (hm2 : m ≤ 1000) (hn : n ≤ 1000000)
    (k1 : ∀ b o cs, p = some ⟨b, o, none⟩ → Own h b cs → T b → c ≠ 0 → ∀ h' cs', Own h' b cs' → cs'.size = cs.size → (∀ i, i < o + n → cs'[i]? = cs[i]?) → Fr (fun x => x = b) h h' → K h')
    (k2 : ∀ h', Ext h h' → K h') :
    azW h p n c (m : Int) 1 8 3 #[.int .i64 0] fun q n2 _ h2 => ixW q n2 (IntKind.i64.wrap (((n2 : Nat) : Int) - (1 : Int))) 1 fun b o => isP (some ⟨b, o, none⟩) fun b o => stC h2 b o (.int .i64 7) K := by
  have w1 : IntKind.i64.wrap (((n + m : Nat) : Int) - (1 : Int)) = ((n + m - 1 : Nat) : Int) := by rw [wrap_i64_in (by omega) (by omega)]; omega
  refine ⟨by omega, by omega, by decide, by decide, by omega, ?_, ?_⟩
  · rw [Int.toNat_natCast]
    intro hle
    rcases HR with e | ⟨b, o, cs, e, O, g, t⟩
    · omega
    subst e
    obtain ⟨cs', O', s', g1, g2, f⟩ := setRow_own (zerosL #[.int .i64 0] m) h (o + n * 1) cs O (by rw [zerosL_len]; omega)
    refine ⟨b, o, rfl, zerosL_one, fun i hi => ?_, ?_⟩
    · rw [zerosL_len] at hi
      exact ⟨⟨_, by rw [O.cell, Array.getElem?_eq_getElem (by omega)]⟩, O.frozen _⟩
    · dsimp only
      rw [w1]
      refine ⟨b, o, rfl, by omega, by omega, b, _, rfl, O'.stC (by rw [Int.toNat_natCast]; omega) rfl fun a f2 => ?_⟩
      refine k1 b o cs rfl O t (by omega) _ _ a (by rw [Array.size_setIfInBounds, s']) (fun i hi => ?_) (Fr.trans f f2 fun _ _ e => e)
      rw [Int.toNat_natCast, Array.getElem?_setIfInBounds_ne (by omega), g2 i (by omega)]
  · rw [Int.toNat_natCast]
    intro hlt
    obtain ⟨old, hold⟩ := HR.row hp hnc
    refine ⟨by omega, by have := nsc_le hlt; omega, old, hold, fun cap h1 h2 => ?_⟩
    dsimp only
    rw [w1]
    have O : Own (h.push (.cells (old ++ zerosL #[.int .i64 0] m ++ zerosL #[.int .i64 0] (cap - (n + m))).toArray 3)) h.size _ := own_new
    have hol : old.length = n := by
      cases hpp : p with
      | none =>
        rw [hpp] at hold HR
        have h0 : old = [] := hold
        rcases HR with e | ⟨_, _, _, e, _⟩
        · subst h0; have : n = 0 := by omega
          subst this; rfl
        · cases e
      | some a =>
        rw [hpp] at hold
        have := hold.1
        omega
    refine ⟨_, 0, rfl, by omega, by omega, _, _, rfl, O.stC (by simp [zerosL_len, hol]; omega) rfl fun a f2 => k2 _ ?_⟩
    exact Fr.trans (S := fun _ => False) (Ext.push) f2 fun x hx e => by omega
end Go.Eng
set_option linter.unusedVariables false
namespace Go.Proofs
open Go Go.Eng
variable {B : World} {R : Ending → Heap → Prop} {h : Heap}
/-- Marked: list i up to j, all ahead of it; behind the first round all. -/
def Md (h' : Heap) (es : List En) (rd i j : Nat) : Prop :=
  (rd = 0 → (∀ i' (k : i' < es.length), i' < i → Mk h' es[i'] i' es[i'].n) ∧ ∀ k : i < es.length, Mk h' es[i] i j) ∧ (rd ≠ 0 → ∀ i' (k : i' < es.length), Mk h' es[i'] i' es[i'].n)
theorem mk_zero {h' : Heap} {e : En} {i : Nat} : Mk h' e i 0 := fun j hj => absurd hj (by omega)
theorem gmark : ∀ g : Fin 18, g.val = 0 ∨ IntKind.i64.wrap ((g.val : Int) + (IntKind.i64.wrap ((IntKind.i64.wrap (Int.tdiv (g.val : Int) (17 : Int))) * (80 : Int)))) = ((g.val + g.val / 17 * 80 : Nat) : Int) := by decide +kernel
abbrev apI (h : Heap) (r : Nat) (es : List En) : Nat → List Value → Heap → Prop := fun m vs h' => match vs with
  | [.pointer a, .int _ i] => a = some (⟨r, 0, none⟩ : Addr) ∧ h = h' ∧ ∃ j : Nat, i = (j : Int) ∧ j ≤ es.length ∧ m = es.length - j
  | _ => False
abbrev apR (h : Heap) (r : Nat) (pL : Option Addr) (cL : Nat) (pW : Option Addr) (cW : Nat) (es : List En) : Nat → List Value → Heap → Prop := fun m vs h' => match vs with
  | [.pointer a, .int _ i] => a = some (⟨r, 0, none⟩ : Addr) ∧ ∃ rd : Nat, i = (rd : Int) ∧ rd ≤ 3 ∧ m = 3 - rd ∧ StA h h' r pL cL pW cW es ∧ Md h' es rd 0 0
  | _ => False
abbrev apS (h : Heap) (r : Nat) (pL : Option Addr) (cL : Nat) (pW : Option Addr) (cW : Nat) (es : List En) (rd : Nat) : Nat → List Value → Heap → Prop := fun m vs h' => match vs with
  | [.pointer a, .int _ d, .int _ i] => a = some (⟨r, 0, none⟩ : Addr) ∧ d = (rd : Int) ∧ ∃ ii : Nat, i = (ii : Int) ∧ ii ≤ es.length ∧ m = es.length - ii ∧ StA h h' r pL cL pW cW es ∧ Md h' es rd ii 0
  | _ => False
abbrev apT (h : Heap) (r : Nat) (pL : Option Addr) (cL : Nat) (pW : Option Addr) (cW : Nat) (es : List En) (rd ii ni : Nat) : Nat → List Value → Heap → Prop := fun m vs h' => match vs with
  | [.pointer a, .int _ d, .int _ i, .int _ q] => a = some (⟨r, 0, none⟩ : Addr) ∧ d = (rd : Int) ∧ i = (ii : Int) ∧ ∃ jj : Nat, q = (jj : Int) ∧ jj ≤ ni ∧ m = ni - jj ∧ StA h h' r pL cL pW cW es ∧ Md h' es rd ii jj
  | _ => False
abbrev apG (h : Heap) (r : Nat) (pL : Option Addr) (cL : Nat) (pW : Option Addr) (cW : Nat) (es : List En) (rd ii : Nat) : Nat → List Value → Heap → Prop := fun m vs h' => match vs with
  | [.pointer a, .int _ d, .int _ i, .int _ q] => a = some (⟨r, 0, none⟩ : Addr) ∧ d = (rd : Int) ∧ i = (ii : Int) ∧ ∃ g : Nat, q = (g : Int) ∧ 1 ≤ g ∧ g ≤ 18 ∧ m = 18 - g ∧ StA h h' r pL cL pW cW es ∧ Md h' es rd (ii + 1) 0
  | _ => False
/-- (*Keep).Apart. -/
theorem K31 {r cL cW : Nat} {pL pW : Option Addr} {es : List En} (K : Kept h r pL cL pW cW es) (hl : es.length ≤ 1000) (H : ∀ h', Fr (KT r pL pW es) h h' → R (.returned (.bool true)) h') : Ent Tryz.prog B 6 #[.pointer (some ⟨r, 0, none⟩)] R h := by
  refine F31_ok _ ⟨apI h r es, es.length, ⟨rfl, rfl, 0, rfl, by omega, by omega⟩, ?_⟩
  rintro m h1 _ _ ⟨rfl, rfl, j, rfl, hj, rfl⟩ _
  refine ⟨r, 0, rfl, r, _, rfl, r, _, rfl, _, _, _, K.obj.cell _, fun e => ?_, fun e => ?_⟩
  · have hjn : j < es.length := by have := of_decide_eq_true e; omega
    obtain ⟨o1, o2⟩ := K.ok _ (List.getElem_mem hjn)
    refine ⟨r, 0, rfl, r, _, rfl, r, _, rfl, _, _, _, K.obj.cell _, svE K.vL hjn ⟨r, 0, rfl, r, _, rfl, r, _, rfl, _, _, _, K.obj.cell _, svW K.vW hjn ?_⟩⟩
    refine K76 o1.rd.ints o2.ints o1.len o1.len (by have := K.lim _ (List.getElem_mem hjn); omega) ⟨_, rfl, ?_⟩
    rw [decide_eq_true rfl]
    refine ⟨fun e => (by cases e), fun _ => ⟨es.length - (j + 1), by omega, rfl, rfl, j + 1, ?_, by omega, rfl⟩⟩
    rw [i64_in (by omega) (by omega)]; rfl
  clear e hj
  -- the rooms do not meet
  have apart : ∀ i (k : i < es.length) i' (k' : i' < es.length), i ≠ i' → es[i].c ≠ 0 → es[i'].c ≠ 0 → ∀ b o o', es[i].p = some ⟨b, o, none⟩ → es[i'].p = some ⟨b, o', none⟩ → False := by
    intro i k i' k' hne c1 c2 b o o' e1 e2
    have hp := List.pairwise_iff_getElem.1 K.apart
    rcases Nat.lt_or_gt_of_ne hne with hlt | hlt
    · exact hp i i' k k' hlt c1 c2 b ⟨o, e1⟩ ⟨o', e2⟩
    · exact hp i' i k' k hlt c2 c1 b ⟨o', e2⟩ ⟨o, e1⟩
  have le : ∀ i (k : i < es.length), es[i].n ≤ es[i].c := fun i k => (K.ok _ (List.getElem_mem k)).1.le
  have lim : ∀ i (k : i < es.length), es[i].n ≤ 1000000 := fun i k => K.lim _ (List.getElem_mem k)
  have ptE : ∀ i (k : i < es.length), Pt es[i].p := fun i k => (K.ok _ (List.getElem_mem k)).1.pt
  have S0 : StA h h r pL cL pW cW es := ⟨K.obj, K.vL, fun e he => (K.ok e he).1.room, Fr.rfl'⟩
  have wi : ∀ {x : Nat}, x ≤ 2000000 → IntKind.i64.wrap (((x : Nat) : Int) + (1 : Int)) = ((x + 1 : Nat) : Int) := fun hx => by rw [i64_in (by omega) (by omega)]; omega
  refine ⟨apR h r pL cL pW cW es, 3, ⟨rfl, 0, rfl, by omega, by omega, S0, fun _ => ⟨fun i' k hlt => absurd hlt (by omega), fun k => mk_zero⟩, fun e => absurd rfl e⟩, ?_⟩
  rintro m2 h2 _ _ ⟨rfl, rd, rfl, hrd, rfl, S2, M2⟩ _
  refine ⟨fun e => ?_, fun e => H h2 S2.fr⟩
  have hrd3 : rd < 3 := by have := of_decide_eq_true e; omega
  clear e
  refine ⟨apS h r pL cL pW cW es rd, es.length, ⟨rfl, rfl, 0, rfl, by omega, by omega, S2, M2⟩, ?_⟩
  rintro m3 h3 _ _ _ ⟨rfl, rfl, ii, rfl, hii, rfl, S3, M3⟩ _
  refine ⟨r, 0, rfl, r, _, rfl, r, _, rfl, _, _, _, S3.obj.cell _, fun e => ?_, fun e => ?_⟩
  rotate_left
  · have hie : ii = es.length := by have := of_decide_eq_false e; omega
    subst hie
    refine ⟨3 - (rd + 1), by omega, rfl, rd + 1, wi (by omega), by omega, rfl, S3, fun e => absurd e (by omega), fun _ i' k => ?_⟩
    by_cases h0 : rd = 0
    · exact (M3.1 h0).1 i' k k
    · exact M3.2 h0 i' k
  have hin : ii < es.length := by have := of_decide_eq_true e; omega
  clear e
  refine ⟨apT h r pL cL pW cW es rd ii es[ii].n, es[ii].n, ⟨rfl, rfl, rfl, 0, rfl, by omega, by omega, S3, M3⟩, ?_⟩
  rintro m4 h4 _ _ _ _ ⟨rfl, rfl, rfl, jj, rfl, hjj, rfl, S4, M4⟩ _
  have hlim := lim ii hin
  have hle := le ii hin
  refine ⟨r, 0, rfl, r, _, rfl, r, _, rfl, _, _, _, S4.obj.cell _, svE S4.vL hin ⟨fun e => ?_, fun e => ?_⟩⟩
  · have hjn : jj < es[ii].n := by have := of_decide_eq_true e; omega
    have hc0 : es[ii].c ≠ 0 := by omega
    have w2 : IntKind.i64.wrap ((-2 : Int) - ((ii : Nat) : Int)) = -2 - (ii : Int) := i64_in (by omega) (by omega)
    -- behind the mark
    have j107 : ∀ h5, StA h h5 r pL cL pW cW es → Md h5 es rd ii (jj + 1) → F31_j107 B R (apI h r es) (es.length - j) (apR h r pL cL pW cW es) (3 - rd) (apS h r pL cL pW cW es rd) (es.length - ii) (apT h r pL cL pW cW es rd ii es[ii].n) (es[ii].n - jj) (some ⟨r, 0, none⟩) (rd : Int) (ii : Int) (jj : Int) h5 := by
      intro h5 S5 M5
      have back : ∀ v, v = false → F31_j130 B R (apI h r es) (es.length - j) (apR h r pL cL pW cW es) (3 - rd) (apS h r pL cL pW cW es rd) (es.length - ii) (apT h r pL cL pW cW es rd ii es[ii].n) (es[ii].n - jj) (some ⟨r, 0, none⟩) (rd : Int) (ii : Int) (jj : Int) v h5 := fun v hv => by
        subst hv
        exact ⟨fun e => (by cases e), fun _ => ⟨es[ii].n - (jj + 1), by omega, rfl, rfl, rfl, jj + 1, wi (by omega), by omega, rfl, S5, M5⟩⟩
      refine ⟨fun e => ?_, fun e => back false rfl⟩
      have hr2 : rd ≠ 0 := by have := of_decide_eq_true e; omega
      refine ⟨r, 0, rfl, r, _, rfl, r, _, rfl, _, _, _, S5.obj.cell _, svE S5.vL hin ?_⟩
      rcases S5.room _ (List.getElem_mem hin) with k | ⟨b, o, cs, e1, O, g, n⟩
      · exact absurd k hc0
      have hm := M5.2 hr2 ii hin jj hjn b o e1
      refine ⟨b, o, e1, by omega, by omega, b, _, rfl, _, by rw [Int.toNat_natCast, Nat.mul_one]; exact hm, back _ ?_⟩
      rw [w2, decide_eq_true rfl]; rfl
    refine ⟨fun e => ?_, fun e => ?_⟩
    · have h0 : rd = 0 := by have := of_decide_eq_true e; omega
      rcases S4.room _ (List.getElem_mem hin) with k | ⟨b, o, cs, e1, O, g, n⟩
      · exact absurd k hc0
      refine ⟨r, 0, rfl, r, _, rfl, r, _, rfl, _, _, _, S4.obj.cell _, svE S4.vL hin ⟨b, o, e1, by omega, by omega, b, _, rfl, ?_⟩⟩
      rw [Int.toNat_natCast, Nat.mul_one, w2]
      refine O.stC (by omega) rfl fun a g2 => j107 _ (S4.set hin e1 hc0 O n) ⟨fun _ => ⟨fun i' k hlt => ?_, fun k => ?_⟩, fun k => absurd h0 k⟩
      · refine ((M4.1 h0).1 i' k hlt).set O fun hz o' e2 => ?_
        exact (apart i' k ii hin (by omega) (by have := le i' k; omega) hc0 b o' o e2 e1).elim
      · intro j' hj' b' o' e2
        rw [e1] at e2
        cases e2
        by_cases hjq : j' = jj
        · subst hjq
          rw [a.cell, Array.getElem?_setIfInBounds_self_of_lt (by omega)]
        · rw [setCell_other O (.inr (by omega))]
          exact (M4.1 h0).2 hin j' (by omega) b o e1
    · have h0 : rd ≠ 0 := by have := of_decide_eq_false e; omega
      exact j107 h4 S4 ⟨fun k => absurd k h0, M4.2⟩
  · have hjn : jj = es[ii].n := by have := of_decide_eq_false e; omega
    clear e
    -- list ii is done
    have MD : Md h4 es rd (ii + 1) 0 := by
      refine ⟨fun h0 => ⟨fun i' k hlt => ?_, fun k => mk_zero⟩, M4.2⟩
      by_cases hi : i' = ii
      · subst hi; rw [hjn] at M4; exact (M4.1 h0).2 hin
      · exact (M4.1 h0).1 i' k (by omega)
    refine ⟨apG h r pL cL pW cW es rd ii, 17, ⟨rfl, rfl, rfl, 1, rfl, by omega, by omega, by omega, S4, MD⟩, ?_⟩
    rintro m5 h5 _ _ _ _ ⟨rfl, rfl, rfl, g, rfl, hg1, hg, rfl, S5, M5⟩ _
    have out : F31_j146 B R (apI h r es) (es.length - j) (apR h r pL cL pW cW es) (3 - rd) (apS h r pL cL pW cW es rd) (es.length - ii) (apT h r pL cL pW cW es rd ii es[ii].n) (es[ii].n - jj) (apG h r pL cL pW cW es rd ii) (18 - g) (some ⟨r, 0, none⟩) (rd : Int) (ii : Int) (g : Int) false h5 := by
      exact ⟨fun e => (by cases e), fun _ => ⟨es.length - (ii + 1), by omega, rfl, rfl, ii + 1, wi (by omega), by omega, rfl, S5, M5⟩⟩
    refine ⟨fun e => ?_, fun e => out⟩
    have hg17 : g ≤ 17 := by have := of_decide_eq_true e; omega
    by_cases h1 : rd = 1
    rotate_left
    · rw [decide_eq_false (by omega)]; exact out
    rw [decide_eq_true (by omega)]
    refine ⟨fun _ => ⟨r, 0, rfl, r, _, rfl, r, _, rfl, _, _, _, S5.obj.cell _, svE S5.vL hin ⟨by decide, ?_⟩⟩, fun e => (by cases e)⟩
    have hw : IntKind.i64.wrap ((g : Int) + (IntKind.i64.wrap ((IntKind.i64.wrap (Int.tdiv (g : Int) (17 : Int))) * (80 : Int)))) = ((g + g / 17 * 80 : Nat) : Int) := by
      rcases gmark ⟨g, by omega⟩ with k | k
      · exact absurd k (by show g ≠ 0; omega)
      · exact k
    rw [hw]
    have next : ∀ h6, StA h h6 r pL cL pW cW es → Md h6 es rd (ii + 1) 0 → ∃ m174, m174 < 18 - g ∧ (some (⟨r, 0, none⟩ : Addr) = some (⟨r, 0, none⟩ : Addr) ∧ (rd : Int) = (rd : Int) ∧ (ii : Int) = (ii : Int) ∧ ∃ g' : Nat, IntKind.i64.wrap ((g : Int) + (1 : Int)) = (g' : Int) ∧ 1 ≤ g' ∧ g' ≤ 18 ∧ m174 = 18 - g' ∧ StA h h6 r pL cL pW cW es ∧ Md h6 es rd (ii + 1) 0) :=
      fun h6 S6 M6 => ⟨18 - (g + 1), by omega, rfl, rfl, rfl, g + 1, wi (by omega), by omega, by omega, rfl, S6, M6⟩
    refine azE (S5.room _ (List.getElem_mem hin)) (ptE ii hin) hle (by omega) (by omega) hlim (fun b o cs e1 O hT hc0 h6 cs' O6 hs6 hk F6 => ?_) (fun h6 F6 => ?_)
    · refine next h6 (S5.same hin e1 hc0 O O6 hs6 F6 hT) ⟨fun k => absurd k (by omega), fun _ i' k => ?_⟩
      refine (M5.2 (by omega) i' k).same O O6 F6 hk (fun hz o' e2 => ?_) (fun b' o' e2 hn => ?_)
      · by_cases hi : i' = ii
        · subst hi
          rw [e1] at e2; cases e2; exact Nat.le_refl _
        · exact (apart i' k ii hin hi (by have := le i' k; omega) hc0 b o' o e2 e1).elim
      · rcases S5.room _ (List.getElem_mem k) with k2 | ⟨b2, o2, cs2, e3, O2, _⟩
        · have := le i' k; omega
        · rw [e3] at e2; cases e2; exact O2.lt
    · refine next h6 (S5.ext F6) ⟨fun k => absurd k (by omega), fun _ i' k => ?_⟩
      intro j' hj' b' o' e2
      rcases S5.room _ (List.getElem_mem k) with k2 | ⟨b2, o2, cs2, e3, O2, _⟩
      · have := le i' k; omega
      · rw [← M5.2 (by omega) i' k j' hj' b' o' e2]
        rw [e3] at e2; cases e2
        exact cell_fr F6 O2.lt id
end Go.Proofs
set_option linter.unusedVariables false
namespace Go.Proofs
open Go Go.Eng
variable {B : World} {R : Ending → Heap → Prop} {h : Heap}
/-- A slice of whole numbers that came in. -/
def SlH (h : Heap) (p : Option Addr) (n c : Nat) : Prop := ∃ xs, IntsH h p xs ∧ xs.length = n ∧ PtB h p ∧ n ≤ c
theorem KT0 {r : Nat} {b : Nat} (h : KT r none none [] b) : b = r := by
  rcases h with (e | e | e) | ⟨e, he, _⟩
  · exact e
  · exact absurd e not_blk_none
  · exact absurd e not_blk_none
  · cases he
theorem KB0 {r : Nat} {b : Nat} (h : KB r none none b) : b = r := KT0 (Or.inl h)
end Go.Proofs
