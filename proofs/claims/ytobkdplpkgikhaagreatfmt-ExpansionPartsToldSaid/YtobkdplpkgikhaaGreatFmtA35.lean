import Derived.Test.YtobkdplpkgikhaaGreatFmtA34
import Derived.Test.YtobkdplpkgikhaaGreatFmtA32
import Derived.Test.YtobkdplpkgikhaaGreatFmtA09
/- Here stand lemmas and contracts, in the order in which they are used. -/
set_option linter.unusedVariables false
namespace Go.Proofs
open Go Go.Eng
variable {B : World} {R : Ending → Heap → Prop} {h : Heap}
theorem _root_.Go.Eng.Lj.ints {h0 : Heap} {p : Option Addr} {n c : Nat} {ws : List Int} (L : Lj h0 h p n c ws) : IntsH h p ws := by
  refine ⟨L.all, ?_⟩
  rcases L.sl with e | ⟨b, o, cs, e, O, g⟩
  · exact .inl e
  · exact .inr ⟨b, o, e, O.lt, fun i hi => by rw [O.cell]; exact g i hi⟩
/-- expansion.finite. -/
theorem K88 {b : Int} (H : R (.returned (.bool (isFin b))) h) : Ent Tryz.prog B 19 #[.int .i64 b] R h := by
  refine F88_ok _ (K17 ⟨_, rfl, ?_⟩)
  rw [cls_fin]; exact H
abbrev INEX : List PanicEntry := [{ v := .iface 59 (.agg #[]), recovered := false }]
/-- expansion.step. -/
theorem K107 {a b : Int} {ok : Bool} (H1 : ok = true → R (.returned (.tuple #[.int .i64 a, .int .i64 b])) h) (H2 : ok = false → R (.panicked INEX) h) : Ent Tryz.prog B 38 #[.int .i64 a, .int .i64 b, .bool ok] R h := by
  refine F107_ok _ _ _ ?_
  cases ok
  · exact ⟨fun _ => H2 rfl, fun e => (by cases e)⟩
  · exact ⟨fun e => (by cases e), fun _ => H1 rfl⟩
def addL (l : List Int) (b : Int) : List Int := if cls b = 0 then l else l ++ [b]
theorem addL_len (l : List Int) (b : Int) : (addL l b).length ≤ l.length + 1 := by unfold addL; split <;> simp
/-- expansion.add. -/
theorem K108 {h0 : Heap} {p : Option Addr} {n c : Nat} {b : Int} {ws : List Int} (L : Lj h0 h p n c ws) (F : Ext h0 h) (hn : n ≤ 1099511627776) (hb : I64 b)
    (H : ∀ q m c' h', Lj h0 h' q m c' (addL ws b) → Ext h0 h' → R (.returned (.slice q m c')) h') : Ent Tryz.prog B 40 #[.slice p n c, .int .i64 b] R h := by
  refine F108_ok _ _ _ _ (K17 ⟨_, rfl, ?_⟩)
  unfold addL at H
  refine ⟨fun e => ?_, fun e => ?_⟩
  · rw [if_pos (of_decide_eq_true e)] at H
    exact H p n c h L F
  · rw [if_neg (of_decide_eq_false e)] at H
    refine alK fun r8 h9 e9 f9 o9 z9 => apJ2 (L.ext f9) (Ext.trans F f9) hn o9 hb fun q c' h' L' F' => H q (n + 1) c' h' L' F'
/-- expansion.told, of what is not too long. -/
theorem K89 {p : Option Addr} {n c : Nat} (H1 : n ≤ 4096 → R (.returned (.tuple #[.slice p n c, .int .i64 (0 : Int)])) h) (H2 : 4096 < n → R (.returned (.tuple #[.slice none 0 0, .int .i64 (2 : Int)])) h) : Ent Tryz.prog B 20 #[.slice p n c] R h := by
  refine F89_ok _ _ _ ⟨fun e => H2 (by have := of_decide_eq_true e; omega), fun e => H1 (by have := of_decide_eq_false e; omega)⟩
/-- What grow makes; none: a step was not exact. -/
def growP (out : List Int) (q : Int) : List Int → Option (List Int)
  | [] => some (addL out q)
  | x :: r => if sumOk (sumH q x) (sumL q x) q x then growP (addL out (sumL q x)) (sumH q x) r else none
theorem mk_room {h0 h : Heap} {r k : Nat} {v : Value} (O : Own h r (mkCells #[v] k)) (hr : h0.size ≤ r) : Lj h0 h (some ⟨r, 0, none⟩) 0 k [] :=
  ⟨Sj.nil, rfl, .inr ⟨r, 0, _, rfl, O, by simp [mkCells], hr⟩, Nat.zero_le _, .inr ⟨r, 0, rfl⟩, fun b o e => by cases e; exact hr, fun _ hx => by cases hx⟩
/-- expansion.grow. -/
theorem K90 {p : Option Addr} {n c : Nat} {b : Int} {xs : List Int} (ht : TabH h) (I : IntsH h p xs) (hn : xs.length = n) (hlim : n ≤ 1000000) (hb : I64 b)
    (H1 : ∀ l, growP [] b xs = some l → ∀ q m c' h', Ext h h' → Lj h h' q m c' l → R (.returned (.slice q m c')) h') (H2 : growP [] b xs = none → ∀ h', Ext h h' → R (.panicked INEX) h') :
    Ent Tryz.prog B 21 #[.slice p n c, .int .i64 b] R h := by
  have w1 : IntKind.i64.wrap (((n : Nat) : Int) + (1 : Int)) = ((n + 1 : Nat) : Int) := by rw [i64_in (by omega) (by omega)]; omega
  refine F90_ok _ _ _ _ ?_
  unfold F90
  rw [w1, Int.toNat_natCast, Nat.mul_one]
  refine ⟨by decide, by omega, by omega, by omega, alK fun r3 h4 e4 f4 o4 z4 => ?_⟩
  refine ⟨fun m vs h' => match vs with
    | [.slice q m1 c1, .int _ z, .slice p1 n1 c2, .int _ y, .int _ i] => p = p1 ∧ n = n1 ∧ c = c2 ∧ y = (n : Int) ∧ ∃ j : Nat, i = (j : Int) ∧ j ≤ n ∧ m = n - j ∧ Ext h h' ∧ I64 z ∧ ∃ out, Lj h h' q m1 c1 out ∧ m1 ≤ j ∧ growP out z (xs.drop j) = growP [] b xs
    | _ => False, n, ⟨rfl, rfl, rfl, rfl, 0, rfl, by omega, by omega, f4, hb, [], mk_room o4 (by omega), by decide, rfl⟩, ?_⟩
  rintro m h1 q m1 c1 z _ _ _ _ _ ⟨rfl, rfl, rfl, rfl, j, rfl, hj, rfl, F, hz, out, L, hm1, hg⟩ _
  refine ⟨fun e => ?_, fun e => ?_⟩
  · have hjn : j < xs.length := by have := of_decide_eq_true e; omega
    have hd : xs.drop j = xs[j] :: xs.drop (j + 1) := List.drop_eq_getElem_cons hjn
    rw [hd] at hg
    have hI : I64 xs[j] := I.1 _ (List.getElem_mem hjn)
    refine (I.ext F).get hn hjn (K18 (ht.ext F) hz hI fun h2 f2 => ⟨_, _, _, rfl, K107 (fun ok => ⟨_, _, rfl, ?_⟩) fun ok => ?_⟩)
    · have hg' : growP (addL out (sumL z xs[j])) (sumH z xs[j]) (xs.drop (j + 1)) = growP [] b xs := by
        rw [← hg]
        show _ = (if sumOk (sumH z xs[j]) (sumL z xs[j]) z xs[j] then growP (addL out (sumL z xs[j])) (sumH z xs[j]) (xs.drop (j + 1)) else none)
        rw [ok]; rfl
      refine K108 (L.ext f2) (Ext.trans F f2) (by omega) (addP_I64 _ _) fun q' m' c' h' L' F' => ⟨_, _, _, rfl, n - (j + 1), by omega, rfl, rfl, rfl, rfl, j + 1, ?_, by omega, rfl, F', addP_I64 _ _, _, L', ?_, hg'⟩
      · rw [i64_in (by omega) (by omega)]; rfl
      · have := addL_len out (sumL z xs[j])
        have := L'.len
        have := L.len
        omega
    · refine H2 ?_ h2 (Ext.trans F f2)
      rw [← hg]
      show (if sumOk (sumH z xs[j]) (sumL z xs[j]) z xs[j] then growP (addL out (sumL z xs[j])) (sumH z xs[j]) (xs.drop (j + 1)) else none) = none
      rw [ok]; rfl
  · have hjn : j = n := by have := of_decide_eq_false e; omega
    rw [List.drop_of_length_le (by omega)] at hg
    exact K108 L F (by omega) hz fun q' m' c' h' L' F' => ⟨_, _, _, rfl, H1 _ (by rw [← hg]; rfl) q' m' c' h' F' L'⟩
end Go.Proofs
namespace Go.Proofs
open Go Go.Eng
variable {B : World} {R : Ending → Heap → Prop} {h : Heap}
/-- expansion.caught behind what returns. -/
theorem K86r {p q : Option Addr} {K : FrameMode → Heap → Prop} (H : K .returning h) : FnD Tryz.prog B 17 #[.pointer p, .pointer q] .returning (dfE K) h := by
  intro n
  refine callsD_of_wpS Tryz.func17 rfl fun c₀ cs hu => ?_
  have hr : recoverD (c₀ :: cs) = none := by simp [recoverD, hu]
  apply wpS_seq
  apply wpS_region
  simp [wpOpsS, go_sem, hr, Exit.thenS, Tryz.f17]
  apply wpS_seq
  apply wpS_seq
  apply wpS_region
  simp [wpOpsS, go_sem, Exit.thenS, nil_nil]
  refine wpS_cond (t := true) (by simp [Act.eval, Array.replicate]) ?_
  simp only [if_true]
  refine wpS_of_wp (wp_ret ?_)
  refine ⟨rfl, .returning, ?_, .tuple #[], ?_, h, ⟨n, rfl⟩, H⟩
  rotate_left
  · simp [results, go_sem]
  cases c₀
  simp_all
theorem ix_nil (w : World) : (binOp .eql 20 (.iface 59 (.agg #[])) Value.nilIface).run Tryz.prog w = .ok (.bool false) w :=
  pureRun_run (P := Tryz.prog) _ (by kernel_rfl) w
theorem ix_as (w : World) : Sem.run Tryz.prog (Instr.typeAssert (Value.iface 59 (Value.agg #[])) 20 59 true) w = .ok (.tuple #[.agg #[], .bool true]) w :=
  pureRun_run (P := Tryz.prog) _ (by kernel_rfl) w
/-- expansion.caught behind a step that was not exact. -/
theorem K86p {r s : Nat} {l0 : Value} {e0 : Value} {K : FrameMode → Heap → Prop} (O : Own h r #[l0]) (O2 : Own h s #[e0]) (hrs : s ≠ r) (H : ∀ h', Fr (fun x => x = r ∨ x = s) h h' → Own h' r #[.slice none 0 0] → Own h' s #[.int .i64 14] → K .returning h') :
    FnD Tryz.prog B 17 #[.pointer (some ⟨r, 0, none⟩), .pointer (some ⟨s, 0, none⟩)] (.panicking [{ v := .iface 59 (.agg #[]), recovered := false }]) (dfE K) h := by
  intro n
  refine callsD_of_wpS Tryz.func17 rfl fun c₀ cs hu => ?_
  have hr : recoverD (c₀ :: cs) = some (.iface 59 (.agg #[]), { c₀ with mode := .panicking [{ v := .iface 59 (.agg #[]), recovered := true }] } :: cs) := by simp [recoverD, hu]
  apply wpS_seq
  apply wpS_region
  simp [wpOpsS, go_sem, hr, Exit.thenS, Tryz.f17]
  generalize hQ : bodyPostS Tryz.prog _ c₀ cs _ = Q
  apply wpS_seq
  apply wpS_seq
  apply wpS_region
  simp [wpOpsS, go_sem, Exit.thenS, ix_nil]
  refine wpS_cond (t := false) (by simp [Act.eval, Array.replicate]) ?_
  simp only [Bool.false_eq_true, if_false]
  refine wpS_of_wp (wp_skip ?_)
  simp only [Exit.thenS]
  apply wpS_seq
  apply wpS_seq
  apply wpS_region
  simp [wpOpsS, go_sem, Exit.thenS, ix_as]
  apply wpS_seq
  apply wpS_region
  simp [wpOpsS, go_sem, Exit.thenS]
  refine wpS_cond (t := false) (by simp [Act.eval, Array.replicate]) ?_
  simp only [Bool.false_eq_true, if_false]
  refine wpS_of_wp (wp_skip ?_)
  simp only [Exit.thenS]
  apply wpS_region
  have O1 := own_push (o := Obj.cells #[] 59) O
  have O3 := own_push (o := Obj.cells #[] 59) O2
  have hc1 : ((mk B h n).alloc (Obj.cells #[] 59)).cell? ⟨r, 0, none⟩ = some l0 := O1.cell 0
  have hf1 : ((mk B h n).alloc (Obj.cells #[] 59)).frozen? ⟨r, 0, none⟩ = false := O1.frozen 0
  have O4 := own_set_ne (b' := r) (o := 0) (v := .slice none 0 0) O3 hrs
  have hc2 : (((mk B h n).alloc (Obj.cells #[] 59)).setCell ⟨r, 0, none⟩ (.slice none 0 0)).cell? ⟨s, 0, none⟩ = some e0 := O4.cell 0
  have hf2 : (((mk B h n).alloc (Obj.cells #[] 59)).setCell ⟨r, 0, none⟩ (.slice none 0 0)).frozen? ⟨s, 0, none⟩ = false := O4.frozen 0
  simp [wpOpsS, go_sem, hc1, hf1, hc2, hf2]
  rw [← hQ]
  refine ⟨rfl, .panicking [{ v := .iface 59 (.agg #[]), recovered := true }], rfl, .tuple #[], ?_, ?_⟩
  · simp [results, go_sem]
  · refine ⟨setCell (setCell (h.push (Obj.cells #[] 59)) ⟨r, 0, none⟩ (.slice none 0 0)) ⟨s, 0, none⟩ (.int .i64 14), ⟨n, rfl⟩, ?_⟩
    refine H _ (Fr.trans (Ext.push (o := Obj.cells #[] 59)).to (Fr.trans (S := fun x => x = r ∨ x = s) (Fr.mono fr_setCell fun x _ e => .inl e) fr_setCell fun x _ e => .inr e) fun x _ e => e) ?_ ?_
    · exact own_set_ne (own_set O1) (fun e => hrs e.symm)
    · exact own_set O4
end Go.Proofs
namespace Go.Proofs
open Go Go.Eng
variable {B : World} {R : Ending → Heap → Prop} {h : Heap}
/-- The cells of a list of slices. -/
def slV (ss : List (Option Addr × Nat × Nat × List Int)) : List Value := ss.map fun s => .slice s.1 s.2.1 s.2.2.1
/-- expansion.valid. -/
theorem K87 {r k c : Nat} {ss : List (Option Addr × Nat × Nat × List Int)} (O : Own h r (slV ss).toArray) (hk : ss.length = k) (hl : k ≤ 1000) (I : ∀ s ∈ ss, IntsH h s.1 s.2.2.2 ∧ s.2.2.2.length = s.2.1)
    (H : R (.returned (.int .i64 (if (ss.all fun s => validP s.2.2.2) then 0 else 1))) h) : Ent Tryz.prog B 18 #[.slice (some ⟨r, 0, none⟩) k c] R h := by
  refine F87_ok _ _ _ ⟨fun m vs h' => match vs with
    | [.slice p1 n1 c1, .int _ y, .int _ i] => p1 = some (⟨r, 0, none⟩ : Addr) ∧ k = n1 ∧ c = c1 ∧ y = (k : Int) ∧ h = h' ∧ ∃ j : Nat, i = (j : Int) ∧ j ≤ k ∧ m = k - j ∧ ((ss.take j).all fun s => validP s.2.2.2) = true
    | _ => False, k, ⟨rfl, rfl, rfl, rfl, rfl, 0, rfl, by omega, by omega, rfl⟩, ?_⟩
  rintro m h1 _ _ _ _ _ ⟨rfl, rfl, rfl, rfl, rfl, j, rfl, hj, rfl, ha⟩ _
  refine ⟨fun e => ?_, fun e => ?_⟩
  · have hjn : j < ss.length := by have := of_decide_eq_true e; omega
    refine ⟨r, 0, rfl, by omega, by omega, r, _, rfl, ss[j].1, ss[j].2.1, ss[j].2.2.1, ?_, ?_⟩
    · show cell? _ _ = _
      rw [Int.toNat_natCast, Nat.zero_add, Nat.mul_one, O.cell]
      unfold slV
      rw [List.getElem?_toArray, List.getElem?_map, List.getElem?_eq_getElem hjn]; rfl
    obtain ⟨i1, i2⟩ := I _ (List.getElem_mem hjn)
    refine K37 i1 i2 ⟨_, rfl, fun e => ?_, fun e => ?_⟩
    · have hv : validP ss[j].2.2.2 = false := by revert e; cases validP ss[j].2.2.2 <;> simp
      have : (ss.all fun s => validP s.2.2.2) = false := by
        rw [List.all_eq_false]
        exact ⟨_, List.getElem_mem hjn, by rw [hv]; decide⟩
      rw [this] at H; exact H
    · have hv : validP ss[j].2.2.2 = true := by revert e; cases validP ss[j].2.2.2 <;> simp
      refine ⟨k - (j + 1), by omega, rfl, rfl, rfl, rfl, rfl, j + 1, ?_, by omega, rfl, ?_⟩
      · rw [i64_in (by omega) (by omega)]; rfl
      · rw [List.take_succ_eq_append_getElem hjn, List.all_append, ha, List.all_cons, List.all_nil, hv]; rfl
  · have hjn : j = k := by have := of_decide_eq_false e; omega
    rw [hjn, List.take_of_length_le (by omega)] at ha
    rw [ha] at H; exact H
theorem Ent86 : Enters Tryz.prog 17 := enters_of Tryz.func17 (by kernel_rfl) (by kernel_rfl)
/-- What a call of expansion ends with, where nothing is given up. -/
theorem expEnd {r3 r5 n c : Nat} {l0 e0 : Value} {p : Option Addr} {e : Int} (O3 : Own h r3 #[l0]) (O5 : Own h r5 #[e0]) (hne : r5 ≠ r3)
    (H : ∀ h', Fr (fun x => x = r3 ∨ x = r5) h h' → R (.returned (.tuple #[.slice p n c, .int .i64 e])) h') :
    isP (some ⟨r3, 0, none⟩) fun b25 o26 => stC h b25 o26 (.slice p n c) fun h27 =>
    isP (some ⟨r5, 0, none⟩) fun b28 o29 => stC h27 b28 o29 (.int .i64 e) fun h30 =>
    Enters Tryz.prog 17 ∧ FnD Tryz.prog B 17 #[.pointer (some ⟨r3, 0, none⟩), .pointer (some ⟨r5, 0, none⟩)] .returning (dfE fun u31 h32 => lvW (fun h33 => isP (some ⟨r3, 0, none⟩) fun b36 o37 => ∃ x38 x38n x38c, cell? h33 ⟨b36, o37, none⟩ = some (.slice x38 x38n x38c) ∧
    isP (some ⟨r5, 0, none⟩) fun b39 o40 => ∃ x41, cell? h33 ⟨b39, o40, none⟩ = some (.int .i64 x41) ∧
    R (.returned (.tuple #[.slice x38 x38n x38c, .int .i64 x41])) h33) (fun ch35 h34 => R (.panicked ch35) h34) u31 h32) h30 := by
  refine ⟨r3, 0, rfl, O3.stC (by simp) rfl fun a1 g1 => ⟨r5, 0, rfl, (O5.fr g1 hne).stC (by simp) rfl fun a2 g2 => ⟨Ent86, K86r ?_⟩⟩⟩
  have A3 := a1.fr g2 (fun e => hne e.symm)
  exact ⟨r3, 0, rfl, _, _, _, A3.cell _, r5, 0, rfl, _, a2.cell _, H _ (Fr.trans (Fr.mono g1 fun x _ e => .inl e) g2 fun x _ e => .inr e)⟩
/-- Where a step was not exact. -/
theorem expDie {r3 r5 : Nat} {l0 e0 : Value} (O3 : Own h r3 #[l0]) (O5 : Own h r5 #[e0]) (hne : r5 ≠ r3)
    (H : ∀ h', Fr (fun x => x = r3 ∨ x = r5) h h' → R (.returned (.tuple #[.slice none 0 0, .int .i64 (14 : Int)])) h') :
    Enters Tryz.prog 17 ∧ FnD Tryz.prog B 17 #[.pointer (some ⟨r3, 0, none⟩), .pointer (some ⟨r5, 0, none⟩)] (.panicking INEX) (dfE fun u97 h98 => lvW (fun h99 => isP (some ⟨r3, 0, none⟩) fun b102 o103 => ∃ x104 x104n x104c, cell? h99 ⟨b102, o103, none⟩ = some (.slice x104 x104n x104c) ∧
    isP (some ⟨r5, 0, none⟩) fun b105 o106 => ∃ x107, cell? h99 ⟨b105, o106, none⟩ = some (.int .i64 x107) ∧
    R (.returned (.tuple #[.slice x104 x104n x104c, .int .i64 x107])) h99) (fun ch101 h100 => R (.panicked ch101) h100) u97 h98) h :=
  ⟨Ent86, K86p O3 O5 hne fun h' f A3 A5 => ⟨r3, 0, rfl, _, _, _, A3.cell _, r5, 0, rfl, _, A5.cell _, H h' f⟩⟩
/-- What Grow answers. -/
def growAns (xs : List Int) (b : Int) : List Int × Int :=
  if validP xs then if isFin b then match growP [] b xs with
    | some l => if l.length ≤ 4096 then (l, 0) else ([], 2)
    | none => ([], 14)
  else ([], 10) else ([], 1)
theorem _root_.Go.Eng.Lj.fr2 {h0 h h' : Heap} {p : Option Addr} {n c r s : Nat} {ws : List Int} (L : Lj h0 h p n c ws) (f : Fr (fun x => x = r ∨ x = s) h h') (hr : r < h0.size) (hs : s < h0.size) : Lj h0 h' p n c ws :=
  ⟨L.sl.fr f fun b o e _ k => by have := L.fresh b o e; omega, L.len, L.room.fr f fun b k1 k2 => by omega, L.le, L.pt, L.fresh, L.all⟩
theorem _root_.Go.Eng.Lj.base {h0 h1 h : Heap} {p : Option Addr} {n c : Nat} {ws : List Int} (L : Lj h1 h p n c ws) (hs : h0.size ≤ h1.size) : Lj h0 h p n c ws :=
  ⟨L.sl, L.len, L.room.mono fun b k => by omega, L.le, L.pt, L.fresh.mono hs, L.all⟩
theorem validP_len {xs : List Int} (h : validP xs = true) : xs.length ≤ 4096 := by
  unfold validP at h
  exact of_decide_eq_true (Bool.and_eq_true_iff.1 h).1
/-- expansion.Grow. -/
theorem K34 {p : Option Addr} {n c : Nat} {b : Int} {xs : List Int} (ht : TabH h) (I : IntsH h p xs) (hn : xs.length = n) (hb : I64 b)
    (H : ∀ q m c' h', Ext h h' → Lj h h' q m c' (growAns xs b).1 → R (.returned (.tuple #[.slice q m c', .int .i64 (growAns xs b).2])) h') : Ent Tryz.prog B 7 #[.slice p n c, .int .i64 b] R h := by
  refine F34_ok _ _ _ _ (alK fun r3 h4 e4 f4 o4 z4 => alK fun r5 h6 e6 f6 o6 z6 => alK fun r7 h8 e8 f8 o8 z8 => ?_)
  have F8 := Ext.trans f4 (Ext.trans f6 f8)
  have O3 := (o4.ext f6).ext f8
  have O5 := o6.ext f8
  have hne : r5 ≠ r3 := by omega
  refine K87 (ss := [(p, n, c, xs)]) o8 rfl (by decide) (fun s hs => ?_) ⟨_, rfl, ?_⟩
  · rw [List.mem_singleton.1 hs]; exact ⟨I.ext F8, hn⟩
  have hall : (([(p, n, c, xs)] : List (Option Addr × Nat × Nat × List Int)).all fun s => validP s.2.2.2) = validP xs := by simp
  rw [hall]
  unfold growAns at H
  cases hv : validP xs
  · rw [hv] at H
    exact ⟨fun _ => expEnd O3 O5 hne fun h' f => H none 0 0 h' (Fr.trans F8 f fun x hx e => by omega) Lj.nil, fun e => absurd e (by decide)⟩
  rw [hv] at H
  refine ⟨fun e => absurd e (by decide), fun _ => K88 ⟨_, rfl, ?_⟩⟩
  cases hf : isFin b
  · rw [hf] at H
    exact ⟨fun _ => expEnd O3 O5 hne fun h' f => H none 0 0 h' (Fr.trans F8 f fun x hx e => by omega) Lj.nil, fun e => (by cases e)⟩
  rw [hf] at H
  refine ⟨fun e => (by cases e), fun _ => K90 (ht.ext F8) (I.ext F8) hn (by have := validP_len hv; omega) hb (fun l hl q m c' h' F' L => ⟨_, _, _, rfl, ?_⟩) fun hl h' F' => ?_⟩
  · rw [hl] at H
    have hm := L.len
    refine K89 (fun hle => ⟨_, _, _, _, rfl, expEnd (O3.ext F') (O5.ext F') hne fun h2 f2 => ?_⟩) fun hgt => ⟨_, _, _, _, rfl, expEnd (O3.ext F') (O5.ext F') hne fun h2 f2 => ?_⟩
    · have hif : (if l.length ≤ 4096 then (l, (0 : Int)) else ([], 2)) = (l, 0) := if_pos (by omega)
      simp only [if_true, hif] at H
      exact H q m c' h2 (Fr.trans (Ext.trans F8 F') f2 fun x hx e => by omega) ((L.fr2 f2 (by omega) (by omega)).base F8.size)
    · have hif : (if l.length ≤ 4096 then (l, (0 : Int)) else ([], 2)) = ([], 2) := if_neg (by omega)
      simp only [if_true, hif] at H
      exact H none 0 0 h2 (Fr.trans (Ext.trans F8 F') f2 fun x hx e => by omega) Lj.nil
  · rw [hl] at H
    exact expDie (O3.ext F') (O5.ext F') hne fun h2 f2 => H none 0 0 h2 (Fr.trans (Ext.trans F8 F') f2 fun x hx e => by omega) Lj.nil
end Go.Proofs
namespace Go.Proofs
open Go Go.Eng
variable {B : World} {R : Ending → Heap → Prop} {h : Heap}
theorem _root_.Go.Eng.IntsH.lt {p : Option Addr} {xs : List Int} (I : IntsH h p xs) (hx : xs ≠ []) : ∀ a o, p = some ⟨a, o, none⟩ → a < h.size := by
  rcases I.2 with e | ⟨r, q, e, hr, g⟩
  · exact absurd e hx
  · intro a o e2; rw [e] at e2; cases e2; exact hr
end Go.Proofs
namespace Go.Proofs
open Go Go.Eng
variable {B : World} {R : Ending → Heap → Prop} {h : Heap}
/-- What scale makes behind its first product; none: a step was not exact. -/
def scaleP (out : List Int) (q b : Int) : List Int → Option (List Int)
  | [] => some (addL out q)
  | x :: r => if prdOk x b then
      if sumOk (sumH q (prdL x b)) (sumL q (prdL x b)) q (prdL x b) then
        if sumOk (sumH (prdH x b) (sumH q (prdL x b))) (fstL (prdH x b) (sumH q (prdL x b))) (prdH x b) (sumH q (prdL x b)) then
          scaleP (addL (addL out (sumL q (prdL x b))) (fstL (prdH x b) (sumH q (prdL x b)))) (sumH (prdH x b) (sumH q (prdL x b))) b r
        else none
      else none
    else none
def scaleTop (xs : List Int) (b : Int) : Option (List Int) :=
  match xs with
  | [] => some []
  | x :: r => if cls b = 0 then some [] else if prdOk x b then scaleP (addL [] (prdL x b)) (prdH x b) b r else none
theorem IntsH.tail {p : Option Addr} {x : Int} {r : List Int} {n c : Nat} (I : IntsH h p (x :: r)) (hn : (x :: r).length = n) (hc : n ≤ c) : IntsH h (slP p 1 c 1) r := by
  refine ⟨fun y hy => I.1 y (List.mem_cons_of_mem _ hy), ?_⟩
  by_cases h0 : r = []
  · exact .inl h0
  rcases I.2 with e | ⟨a, q, e, ha, g⟩
  · cases e
  · subst e
    have hl : 0 < r.length := List.length_pos_iff.2 h0
    rw [List.length_cons] at hn
    refine .inr ⟨a, q + 1, ?_, ha, fun i hi => ?_⟩
    · unfold slP
      rw [if_neg (by omega)]
      rfl
    · have := g (i + 1) (by rw [List.length_cons]; omega)
      rw [show q + 1 + i = q + (i + 1) by omega, this]; rfl
theorem prdH_I64 (a b : Int) : I64 (prdH a b) := mulP_I64 _ _
theorem prdL_I64 (a b : Int) : I64 (prdL a b) := subP_I64 _ _
/-- expansion.scale. -/
theorem K91 {p : Option Addr} {n c : Nat} {b : Int} {xs : List Int} (ht : TabH h) (I : IntsH h p xs) (hn : xs.length = n) (hc : n ≤ c) (hlim : n ≤ 1000000) (hb : I64 b)
    (H1 : ∀ l, scaleTop xs b = some l → ∀ q m c' h', Ext h h' → Lj h h' q m c' l → R (.returned (.slice q m c')) h') (H2 : scaleTop xs b = none → ∀ h', Ext h h' → R (.panicked INEX) h') :
    Ent Tryz.prog B 22 #[.slice p n c, .int .i64 b] R h := by
  refine F91_ok _ _ _ _ ⟨fun e => ⟨fun _ => ?_, fun e => (by cases e)⟩, fun e => K17 ⟨_, rfl, ?_⟩⟩
  · have h0 : xs = [] := List.eq_nil_of_length_eq_zero (by have := of_decide_eq_true e; omega)
    subst h0
    exact H1 [] rfl none 0 0 h Fr.rfl' Lj.nil
  have hn0 : n ≠ 0 := by have := of_decide_eq_false e; omega
  match xs, hn with
  | [], hn => exact absurd hn.symm hn0
  | x :: r, hn =>
  by_cases hz : cls b = 0
  · rw [decide_eq_true hz]
    exact ⟨fun _ => H1 [] (by show (if cls b = 0 then _ else _) = _; rw [if_pos hz]) none 0 0 h Fr.rfl' Lj.nil, fun e => (by cases e)⟩
  rw [decide_eq_false hz]
  have hT : scaleTop (x :: r) b = if prdOk x b then scaleP (addL [] (prdL x b)) (prdH x b) b r else none := by
    show (if cls b = 0 then _ else _) = _; rw [if_neg hz]
  rw [hT] at H1 H2
  have w2 : IntKind.i64.wrap ((2 : Int) * ((n : Nat) : Int)) = ((2 * n : Nat) : Int) := by rw [i64_in (by omega) (by omega)]; omega
  refine ⟨fun e => (by cases e), fun _ => ?_⟩
  rw [w2, Int.toNat_natCast, Nat.mul_one]
  refine ⟨by decide, by omega, by omega, by omega, alK fun r8 h9 e9 f9 o9 z9 => ?_⟩
  have I9 := I.ext f9
  have hx : I64 x := I.1 x (List.mem_cons_self ..)
  refine I9.get (j := 0) hn (by rw [List.length_cons]; omega) (K19 (ht.ext f9) hx hb fun h2 f2 => ⟨_, _, _, rfl, K107 (fun ok => ⟨_, _, rfl, ?_⟩) fun ok => ?_⟩)
  rotate_left
  · have ok' : prdOk x b = false := ok
    exact H2 (by rw [ok']; rfl) h2 (Ext.trans f9 f2)
  have ok' : prdOk x b = true := ok
  rw [ok', if_pos rfl] at H1 H2
  have L0 : Lj h h9 (some ⟨r8, 0, none⟩) 0 (2 * n) [] := mk_room o9 (by omega)
  refine K108 (L0.ext f2) (Ext.trans f9 f2) (by decide) (prdL_I64 _ _) fun q m c' h3 L F3 => ⟨_, _, _, rfl, ?_⟩
  rw [List.length_cons] at hn
  refine ⟨by omega, by omega, ?_⟩
  have L : Lj h h3 q m c' (addL [] (prdL x b)) := L
  have hm := L.len
  have hm1 := addL_len [] (prdL x b)
  rw [List.length_nil] at hm1
  have IT : IntsH h3 (slP p 1 c 1) r := (IntsH.tail I (by rw [List.length_cons]; exact hn) hc).ext F3
  refine ⟨fun k vs h' => match vs with
    | [.int _ b', .slice q m c', .int _ z, .slice p1 n1 c1, .int _ y, .int _ i] => b = b' ∧ p1 = slP p 1 c 1 ∧ n1 = n - 1 ∧ y = ((n - 1 : Nat) : Int) ∧ ∃ j : Nat, i = (j : Int) ∧ j ≤ n - 1 ∧ k = n - 1 - j ∧ Ext h h' ∧ I64 z ∧ ∃ out, Lj h h' q m c' out ∧ m ≤ 1 + 2 * j ∧ scaleP out z b (r.drop j) = scaleP (addL [] (prdL x b)) (prdH x b) b r
    | _ => False, n - 1, ⟨rfl, rfl, rfl, rfl, 0, rfl, by omega, by omega, F3, prdH_I64 _ _, _, L, by omega, rfl⟩, ?_⟩
  rintro k h1 _ q m c' z _ _ _ _ _ ⟨rfl, rfl, rfl, rfl, j, rfl, hj, rfl, F, hz, out, L, hm1, hg⟩ _
  have hrl : r.length = n - 1 := by omega
  have IT1 : IntsH h1 (slP p 1 c 1) r := (IntsH.tail I (by rw [List.length_cons]; exact hn) hc).ext F
  refine ⟨fun e => ?_, fun e => ?_⟩
  · have hjn : j < r.length := by have := of_decide_eq_true e; omega
    have hd : r.drop j = r[j] :: r.drop (j + 1) := List.drop_eq_getElem_cons hjn
    rw [hd] at hg
    have hI : I64 r[j] := IT1.1 _ (List.getElem_mem hjn)
    have hS : scaleP out z b (r[j] :: r.drop (j + 1)) = (if prdOk r[j] b then
      if sumOk (sumH z (prdL r[j] b)) (sumL z (prdL r[j] b)) z (prdL r[j] b) then
        if sumOk (sumH (prdH r[j] b) (sumH z (prdL r[j] b))) (fstL (prdH r[j] b) (sumH z (prdL r[j] b))) (prdH r[j] b) (sumH z (prdL r[j] b)) then
          scaleP (addL (addL out (sumL z (prdL r[j] b))) (fstL (prdH r[j] b) (sumH z (prdL r[j] b)))) (sumH (prdH r[j] b) (sumH z (prdL r[j] b))) b (r.drop (j + 1))
        else none
      else none
    else none) := rfl
    rw [hS] at hg
    refine IT1.get hrl hjn (K19 (ht.ext F) hI hb fun h2 f2 => ⟨_, _, _, rfl, K107 (fun ok1 => ⟨_, _, rfl, ?_⟩) fun ok1 => ?_⟩)
    rotate_left
    · exact H2 (by rw [← hg, ok1]; rfl) h2 (Ext.trans F f2)
    rw [ok1, if_pos rfl] at hg
    have G2 := Ext.trans F f2
    refine K18 (ht.ext G2) hz (prdL_I64 _ _) fun h3 f3 => ⟨_, _, _, rfl, K107 (fun ok2 => ⟨_, _, rfl, ?_⟩) fun ok2 => ?_⟩
    rotate_left
    · exact H2 (by rw [← hg, ok2]; rfl) h3 (Ext.trans G2 f3)
    rw [ok2, if_pos rfl] at hg
    have G3 := Ext.trans G2 f3
    refine K108 ((L.ext f2).ext f3) G3 (by omega) (addP_I64 _ _) fun q1 m1 c1 h4 L1 F4 => ⟨_, _, _, rfl, ?_⟩
    have l1 := L1.len
    have l2 := addL_len out (sumL z (prdL r[j] b))
    have l3 := L.len
    refine K20 (ht.ext F4) (prdH_I64 _ _) (addP_I64 _ _) fun h5 f5 => ⟨_, _, _, rfl, K107 (fun ok3 => ⟨_, _, rfl, ?_⟩) fun ok3 => ?_⟩
    rotate_left
    · exact H2 (by rw [← hg, ok3]; rfl) h5 (Ext.trans F4 f5)
    rw [ok3, if_pos rfl] at hg
    refine K108 (L1.ext f5) (Ext.trans F4 f5) (by omega) (subP_I64 _ _) fun q2 m2 c2 h6 L2 F6 => ⟨_, _, _, rfl, n - 1 - (j + 1), by omega, rfl, rfl, rfl, rfl, j + 1, ?_, by omega, rfl, F6, addP_I64 _ _, _, L2, ?_, hg⟩
    · rw [i64_in (by omega) (by omega)]; rfl
    · have := L2.len
      have := addL_len (addL out (sumL z (prdL r[j] b))) (fstL (prdH r[j] b) (sumH z (prdL r[j] b)))
      omega
  · have hjn : j = n - 1 := by have := of_decide_eq_false e; omega
    rw [List.drop_of_length_le (by omega)] at hg
    exact K108 L F (by omega) hz fun q' m' c'' h' L' F' => ⟨_, _, _, rfl, H1 _ (by rw [← hg]; rfl) q' m' c'' h' F' L'⟩
end Go.Proofs
namespace Go.Proofs
open Go Go.Eng
variable {B : World} {R : Ending → Heap → Prop} {h : Heap}
/-- What is told of what was made. -/
def ansOf : Option (List Int) → List Int × Int
  | some l => if l.length ≤ 4096 then (l, 0) else ([], 2)
  | none => ([], 14)
def scaleRef (xs : List Int) (b : Int) : List Int × Int := ansOf (scaleTop xs b)
/-- What Scale answers. -/
def scaleAns (xs : List Int) (b : Int) : List Int × Int := if validP xs then if isFin b then scaleRef xs b else ([], 10) else ([], 1)
/-- expansion.Scale. -/
theorem K35 {p : Option Addr} {n c : Nat} {b : Int} {xs : List Int} (ht : TabH h) (I : IntsH h p xs) (hn : xs.length = n) (hc : n ≤ c) (hb : I64 b)
    (H : ∀ q m c' h', Ext h h' → Lj h h' q m c' (scaleAns xs b).1 → R (.returned (.tuple #[.slice q m c', .int .i64 (scaleAns xs b).2])) h') : Ent Tryz.prog B 8 #[.slice p n c, .int .i64 b] R h := by
  refine F35_ok _ _ _ _ (alK fun r3 h4 e4 f4 o4 z4 => alK fun r5 h6 e6 f6 o6 z6 => alK fun r7 h8 e8 f8 o8 z8 => ?_)
  have F8 := Ext.trans f4 (Ext.trans f6 f8)
  have O3 := (o4.ext f6).ext f8
  have O5 := o6.ext f8
  have hne : r5 ≠ r3 := by omega
  refine K87 (ss := [(p, n, c, xs)]) o8 rfl (by decide) (fun s hs => ?_) ⟨_, rfl, ?_⟩
  · rw [List.mem_singleton.1 hs]; exact ⟨I.ext F8, hn⟩
  have hall : (([(p, n, c, xs)] : List (Option Addr × Nat × Nat × List Int)).all fun s => validP s.2.2.2) = validP xs := by simp
  rw [hall]
  unfold scaleAns scaleRef at H
  cases hv : validP xs
  · rw [hv] at H
    exact ⟨fun _ => expEnd O3 O5 hne fun h' f => H none 0 0 h' (Fr.trans F8 f fun x hx e => by omega) Lj.nil, fun e => absurd e (by decide)⟩
  rw [hv] at H
  refine ⟨fun e => absurd e (by decide), fun _ => K88 ⟨_, rfl, ?_⟩⟩
  cases hf : isFin b
  · rw [hf] at H
    exact ⟨fun _ => expEnd O3 O5 hne fun h' f => H none 0 0 h' (Fr.trans F8 f fun x hx e => by omega) Lj.nil, fun e => (by cases e)⟩
  rw [hf] at H
  refine ⟨fun e => (by cases e), fun _ => K91 (ht.ext F8) (I.ext F8) hn hc (by have := validP_len hv; omega) hb (fun l hl q m c' h' F' L => ⟨_, _, _, rfl, ?_⟩) fun hl h' F' => ?_⟩
  · rw [hl] at H
    have hm := L.len
    unfold ansOf at H
    refine K89 (fun hle => ⟨_, _, _, _, rfl, expEnd (O3.ext F') (O5.ext F') hne fun h2 f2 => ?_⟩) fun hgt => ⟨_, _, _, _, rfl, expEnd (O3.ext F') (O5.ext F') hne fun h2 f2 => ?_⟩
    · have hif : (if l.length ≤ 4096 then (l, (0 : Int)) else ([], 2)) = (l, 0) := if_pos (by omega)
      simp only [if_true, hif] at H
      exact H q m c' h2 (Fr.trans (Ext.trans F8 F') f2 fun x hx e => by omega) ((L.fr2 f2 (by omega) (by omega)).base F8.size)
    · have hif : (if l.length ≤ 4096 then (l, (0 : Int)) else ([], 2)) = ([], 2) := if_neg (by omega)
      simp only [if_true, hif] at H
      exact H none 0 0 h2 (Fr.trans (Ext.trans F8 F') f2 fun x hx e => by omega) Lj.nil
  · rw [hl] at H
    exact expDie (O3.ext F') (O5.ext F') hne fun h2 f2 => H none 0 0 h2 (Fr.trans (Ext.trans F8 F') f2 fun x hx e => by omega) Lj.nil
end Go.Proofs
