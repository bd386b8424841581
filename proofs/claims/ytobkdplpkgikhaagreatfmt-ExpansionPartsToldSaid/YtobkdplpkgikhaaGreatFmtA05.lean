import Derived.Test.YtobkdplpkgikhaaGreatFmtA04
/- Here stand lemmas and contracts, in the order in which they are used. -/
set_option linter.unusedVariables false
namespace Go.Eng
open Go
section
variable {ch : Bool} {P : Program} {B : World} {N : Nat}

theorem wrap_i64_in {x : Int} (h1 : -9223372036854775808 ≤ x) (h2 : x < 9223372036854775808) : IntKind.i64.wrap x = x := by
  have e : IntKind.i64.wrap x = if (true && decide (x % 18446744073709551616 ≥ 9223372036854775808)) = true then x % 18446744073709551616 - 18446744073709551616 else x % 18446744073709551616 := rfl
  rw [e]
  simp only [Bool.true_and, decide_eq_true_eq]
  split <;> omega
theorem wrap_u64_in {x : Int} (h1 : 0 ≤ x) (h2 : x < 18446744073709551616) : IntKind.u64.wrap x = x := by
  have e : IntKind.u64.wrap x = if (false && decide (x % 18446744073709551616 ≥ 9223372036854775808)) = true then x % 18446744073709551616 - 18446744073709551616 else x % 18446744073709551616 := rfl
  rw [e]
  simp only [Bool.false_and, Bool.false_eq_true, if_false]
  omega
theorem builtin_len_spec {X : Halt → Heap → Prop} {t e : TypeId} {p : Option Addr} {n c : Nat} {h : Heap} {K : Value → Prop} (hu : P.underlying t = some (.slice e))
    (H : K (.int .i64 n)) (ty : TypeId) : wpH ch P (Builtin.len_ #[t] ty #[.slice p n c]) (fun v h' => h' = h ∧ K v) X h := by
  simp only [Builtin.len_, List.getElem?_toArray, List.getElem?_cons_zero, wpH_bind', wpH_underlying hu, wpH_pure]
  exact ⟨trivial, H⟩
theorem builtin_cap_spec {X : Halt → Heap → Prop} {t e : TypeId} {p : Option Addr} {n c : Nat} {h : Heap} {K : Value → Prop} (hu : P.underlying t = some (.slice e))
    (H : K (.int .i64 c)) (ty : TypeId) : wpH ch P (Builtin.cap_ #[t] ty #[.slice p n c]) (fun v h' => h' = h ∧ K v) X h := by
  simp only [Builtin.cap_, List.getElem?_toArray, List.getElem?_cons_zero, wpH_bind', wpH_underlying hu, wpH_pure]
  exact ⟨trivial, H⟩

theorem toArr {α : Type} {a : Array α} {l : List α} (h : a.toList = l) : a = l.toArray := by subst h; simp

theorem makeSlice_spec {X : Halt → Heap → Prop} {t e : TypeId} {k k' : IntKind} {l c : Int} {i : TypeInfo} {z : Value} {h : Heap} (hu : P.underlying t = some (.slice e))
    (hi : P.info? e = some i) (hz : i.zero = some z) (h0 : 0 ≤ l) (h1 : l ≤ c) (h2 : i.bytes * c ≤ 281474976710656) (h3 : c < 9223372036854775808) (h4 : Nat.blt 0 i.size = true)
    {K : Value → Heap → Prop} (H : K (.slice (some ⟨h.size, 0, none⟩) l.toNat c.toNat) (h.push (.cells (mkCells z.cells (c.toNat * i.size)) e))) :
    wpH ch P (Instr.makeSlice t (.int k l) (.int k' c)) K X h := by
  have wl : IntKind.i64.wrap l = l := wrap_i64_in (by omega) (by omega)
  have wc : IntKind.i64.wrap c = c := wrap_i64_in (by omega) (by omega)
  have hn : ¬ c < 0 := by omega
  have hl : ¬ l < 0 := by omega
  have hlc : ¬ l > c := by omega
  have hsz : i.size ≠ 0 := by intro h0; rw [h0] at h4; cases h4
  have hTI : ∀ (K : TypeInfo → Heap → Prop) (h : Heap), wpH ch P (typeInfo e) K X h = K i h := by
    intro K h; simp [typeInfo, wpH_bind', program, wpH, hi, wpH_pure]
  have hSO : ∀ (K : Nat → Heap → Prop) (h : Heap), wpH ch P (sizeOf e) K X h = K i.size h := by
    intro K h; simp [sizeOf, wpH_bind', hTI, wpH_pure]
  have hZV : ∀ (K : Value → Heap → Prop) (h : Heap), wpH ch P (zeroValue e) K X h = K z h := by
    intro K h; simp [zeroValue, wpH_bind', hTI, wpH_pure, hz]
  simp only [Instr.makeSlice, asInt, asIntOf, wpH_bind', wpH_underlying hu, wpH_pure, hTI, wl, wc]
  rw [if_neg (by simp [hn, hl, hlc]; exact h2)]
  have hroom : ∀ (K : Unit → Heap → Prop) (m : Nat) (h : Heap), K () h → wpH ch P (askRoom m) K X h := by
    intro K m h hK
    unfold askRoom
    split <;> exact hK
  simp only [wpH_bind']
  refine hroom _ _ _ ?_
  rw [hSO]
  by_cases hcz : c.toNat * i.size = 0
  · simp only [hcz, if_true, wpH_pure, newRow, newObj, wpH_bind', wpH]
    have hm : (Array.range 0).map (fun x => (#[] : Array Value)[x % (#[] : Array Value).size]!) = mkCells z.cells (c.toNat * i.size) := by
      simp [mkCells, hcz]
    rw [hm]
    exact H
  · simp only [hcz, if_false, hZV, wpH_pure, newRow, newObj, wpH_bind', wpH]
    exact H

theorem minW_spec {X : Halt → Heap → Prop} {op : Bool} {l : List Value} {K : Value → Prop} {h : Heap} (H : minW op l K) (ts : Array TypeId) (t : TypeId) :
    wpH ch P (if op then Builtin.min_ ts t l.toArray else Builtin.max_ ts t l.toArray) (fun v h' => h' = h ∧ K v) X h := by
  unfold minW at H
  split at H
  · rename_i K' k a k' b
    obtain ⟨o, ho, H⟩ := H
    cases op
    · show wpH ch P (Builtin.max2 (.float k a) (.float k' b) >>= fun s => pure s) _ X h
      simp only [Builtin.max2, ho]
      cases o <;> exact ⟨rfl, H⟩
    · show wpH ch P (Builtin.min2 (.float k a) (.float k' b) >>= fun s => pure s) _ X h
      simp only [Builtin.min2, ho]
      cases o <;> exact ⟨rfl, H⟩
  · cases op <;> exact ⟨rfl, H⟩
  · exact H.elim

theorem setCell_cell {h : Heap} {b o o' : Nat} {v u : Value} (hu : cell? h ⟨b, o', none⟩ = some u) : ∃ u', cell? (setCell h ⟨b, o, none⟩ v) ⟨b, o', none⟩ = some u' := by
  unfold cell? setCell at *
  simp only [Array.getElem?_modify] at *
  cases hb : h[b]? with
  | none => rw [hb] at hu; simp at hu
  | some x =>
    rw [hb] at hu
    cases x <;> simp at hu
    rename_i c e f
    simp only [if_true, Option.map_some, Option.isSome_none, Bool.false_eq_true, if_false]
    by_cases hoo : o = o'
    · subst hoo
      have hlt : o < c.size := by
        rcases Nat.lt_or_ge o c.size with h | h
        · exact h
        · rw [Array.getElem?_eq_none h] at hu; cases hu
      exact ⟨v, by simp [hlt]⟩
    · exact ⟨u, by rw [Array.getElem?_setIfInBounds_ne hoo]; exact hu⟩
theorem setCell_frozen {h : Heap} {b o o' : Nat} {v : Value} : frozen? (setCell h ⟨b, o, none⟩ v) ⟨b, o', none⟩ = frozen? h ⟨b, o', none⟩ := by
  unfold frozen? setCell
  simp only [Array.getElem?_modify]
  cases hb : h[b]? with
  | none => simp
  | some x => cases x <;> simp
theorem stL_of {b : Nat} : ∀ {xs : List Value} {o : Nat} {h : Heap} {K : Heap → Prop}, (∀ x ∈ xs, oneCell x = true) →
    (∀ i, i < xs.length → (∃ u, cell? h ⟨b, o + i, none⟩ = some u) ∧ frozen? h ⟨b, o + i, none⟩ = false) → K (setRow h b o xs) → stL b xs o h K
  | [], _, _, _, _, _, hK => hK
  | x :: xs, o, h, K, h1, h2, hK => by
    refine ⟨h1 x (by simp), (h2 0 (by simp)).1, (h2 0 (by simp)).2, ?_⟩
    refine stL_of (fun y hy => h1 y (by simp [hy])) (fun i hi => ?_) hK
    obtain ⟨⟨u, hu⟩, hf⟩ := h2 (i + 1) (by simpa using hi)
    rw [show o + 1 + i = o + (i + 1) by omega, setCell_frozen]
    exact ⟨setCell_cell hu, hf⟩
theorem putRow_spec {X : Halt → Heap → Prop} {h : Heap} {p : Option Addr} {d : Nat} {xs : List Value} {K : Heap → Prop} (H : putRow h p d xs K) :
    wpH ch P (match p with | some a => storeCells (a.add d) xs | none => pure ()) (fun _ h' => K h') X h := by
  cases p with
  | none => exact H
  | some a =>
    obtain ⟨b, o, ha, h1, h2, hK⟩ := H
    obtain rfl := Option.some.inj ha
    show wpH ch P (storeCells ((⟨b, o, none⟩ : Addr).add d) xs) _ X h
    rw [add_addr]
    exact storeCells_spec (ch := ch) (P := P) b xs (o + d) 0 h K (stL_of h1 h2 hK)
theorem loadCellsFrom_row {X : Halt → Heap → Prop} {b o : Nat} {h : Heap} : ∀ (xs : List Value) (i : Nat) (acc : Array Value),
    (∀ k (hk : k < xs.length), cell? h ⟨b, o + i + k, none⟩ = some xs[k]) → wpH ch P (loadCellsFrom ⟨b, o, none⟩ i xs.length acc) (fun r h' => h' = h ∧ r = acc ++ xs.toArray) X h
  | [], i, acc, _ => ⟨rfl, by simp⟩
  | x :: xs, i, acc, H => by
    simp only [List.length_cons, loadCellsFrom, wpH_bind', wpH_load, add_addr]
    refine ⟨x, H 0 (Nat.succ_pos _), ?_⟩
    refine wpH_mono ?_ (fun _ _ hx => hx) _ _ (loadCellsFrom_row (X := X) xs (i + 1) (acc.push x) (fun k hk => by
      rw [show o + (i + 1) + k = o + i + (k + 1) by omega]
      exact H (k + 1) (Nat.succ_lt_succ hk)))
    rintro r h' ⟨rfl, rfl⟩
    exact ⟨rfl, by apply Array.ext'; simp⟩
theorem firstCells_spec {X : Halt → Heap → Prop} {h : Heap} {p : Option Addr} {n c size k : Nat} {xs : List Value} (H : rowAt h p (k * size) xs) :
    wpH ch P (Builtin.firstCells size k (.slice p n c)) (fun r h' => h' = h ∧ r = xs.toArray) X h := by
  cases p with
  | none => obtain rfl := H; exact ⟨rfl, rfl⟩
  | some a =>
    obtain ⟨hl, b, o, ha, H⟩ := H
    obtain rfl := Option.some.inj ha
    simp only [Builtin.firstCells, loadCells]
    rw [← hl]
    refine wpH_mono ?_ (fun _ _ hx => hx) _ _ (loadCellsFrom_row (ch := ch) (P := P) (X := X) xs 0 #[] (fun k hk => by simpa using H k hk))
    rintro r h' ⟨rfl, rfl⟩
    exact ⟨rfl, by simp⟩
theorem zeroCells_eq (zero : Array Value) (n : Nat) : Builtin.zeroCells zero n = (zerosL zero n).toArray := by
  apply Array.ext'
  simp [Builtin.zeroCells, zerosL, Array.toList_range]
theorem copy_spec {X : Halt → Heap → Prop} {h : Heap} {t t2 e : TypeId} {p q : Option Addr} {n c m d : Nat} {K : Nat → Heap → Prop} (hu : P.underlying t = some (.slice e))
    (hi : (P.info? e).isSome = true) (H : cpW h p n q m (P.cellsOf e) K) (ty : TypeId) :
    wpH ch P (Builtin.copy_ #[t, t2] ty #[.slice p n c, .slice q m d]) (fun v h' => ∃ k : Nat, v = .int .i64 k ∧ K k h') X h := by
  obtain ⟨xs, h1, h2⟩ := H
  simp only [Builtin.copy_, List.getElem?_toArray, List.getElem?_cons_zero, List.getElem?_cons_succ, wpH_bind', wpH_underlying hu, wpH_pure, Builtin.lenOf, wpH_sizeOf hi]
  refine wpH_mono ?_ (fun _ _ hx => hx) _ _ (firstCells_spec (ch := ch) (P := P) h1)
  rintro r h' ⟨rfl, rfl⟩
  have hput := putRow_spec (ch := ch) (P := P) (X := X) h2
  cases p with
  | none => exact ⟨_, rfl, hput⟩
  | some a =>
    simp only [wpH_bind'] at hput ⊢
    refine wpH_mono ?_ (fun _ _ hx => hx) _ _ hput
    intro u h'' hk
    exact ⟨_, rfl, hk⟩
theorem clear_spec {X : Halt → Heap → Prop} {h : Heap} {t e : TypeId} {p : Option Addr} {n c : Nat} {z : Value} {K : Heap → Prop} (hu : P.underlying t = some (.slice e))
    (hz : (P.info? e).bind (·.zero) = some z) (H : clW h p n (P.cellsOf e) z.cells K) (ty : TypeId) :
    wpH ch P (Builtin.clear_ #[t] ty #[.slice p n c]) (fun v h' => v = .tuple #[] ∧ K h') X h := by
  have hZV : ∀ (K : Value → Heap → Prop) (h : Heap), wpH ch P (zeroValue e) K X h = K z h := by
    intro K h
    cases hi : P.info? e with
    | none => rw [hi] at hz; cases hz
    | some i =>
      rw [hi] at hz
      have hz' : i.zero = some z := hz
      simp [zeroValue, typeInfo, wpH_bind', program, wpH, hi, wpH_pure, hz']
  have hput := putRow_spec (ch := ch) (P := P) (X := X) H
  simp only [Builtin.clear_, List.getElem?_toArray, List.getElem?_cons_zero, wpH_bind', wpH_underlying hu]
  cases p with
  | none => exact ⟨rfl, hput⟩
  | some a =>
    cases n with
    | zero =>
      have : zerosL z.cells 0 = [] := by simp [zerosL]
      rw [this] at hput
      exact ⟨rfl, hput⟩
    | succ n =>
      simp only [wpH_bind', hZV, zeroCells_eq]
      refine wpH_mono ?_ (fun _ _ hx => hx) _ _ hput
      intro u h' hk
      exact ⟨rfl, hk⟩
theorem append_spec {X : Halt → Heap → Prop} {h : Heap} {t t2 e e2 : TypeId} {p q : Option Addr} {n c m d : Nat} {i : TypeInfo} {z : Value} {K : Option Addr → Nat → Nat → Heap → Prop}
    (hu : P.underlying t = some (.slice e)) (hu2 : P.underlying t2 = some (.slice e2)) (hi : P.info? e = some i) (hz : i.zero = some z)
    (H : apW h p n c q m i.size i.bytes e z.cells K) (ty : TypeId) :
    wpH true P (Builtin.append_ #[t, t2] ty #[.slice p n c, .slice q m d]) (fun v h' => ∃ q n c, v = .slice q n c ∧ K q n c h') X h := by
  have hTI : ∀ (K : TypeInfo → Heap → Prop) (h : Heap), wpH true P (typeInfo e) K X h = K i h := by
    intro K h; simp [typeInfo, wpH_bind', program, wpH, hi, wpH_pure]
  have hSO : ∀ (K : Nat → Heap → Prop) (h : Heap), wpH true P (sizeOf e) K X h = K i.size h := by
    intro K h; simp [sizeOf, wpH_bind', hTI, wpH_pure]
  have hZV : ∀ (K : Value → Heap → Prop) (h : Heap), wpH true P (zeroValue e) K X h = K z h := by
    intro K h; simp [zeroValue, wpH_bind', hTI, wpH_pure, hz]
  have hroom : ∀ (K : Unit → Heap → Prop) (m : Nat) (h : Heap), K () h → wpH true P (askRoom m) K X h := by
    intro K m h hK
    unfold askRoom
    split <;> exact hK
  simp only [Builtin.append_, List.getElem?_toArray, List.getElem?_cons_zero, List.getElem?_cons_succ, wpH_bind', wpH_underlying hu, wpH_underlying hu2, wpH_pure, hSO, Builtin.lenOf, Bool.false_eq_true, if_false, Bool.not_false, if_true]
  by_cases hn : n + m ≤ c
  · obtain ⟨xs, h1, h2⟩ := H.1 hn
    rw [if_pos hn]
    simp only [wpH_bind']
    refine wpH_mono ?_ (fun _ _ hx => hx) _ _ (firstCells_spec (ch := true) (P := P) h1)
    rintro r h' ⟨rfl, rfl⟩
    have hput := putRow_spec (ch := true) (P := P) (X := X) h2
    cases p with
    | none => exact ⟨_, _, _, rfl, hput⟩
    | some a =>
      simp only [wpH_bind'] at hput ⊢
      refine wpH_mono ?_ (fun _ _ hx => hx) _ _ hput
      intro u h'' hk
      exact ⟨_, _, _, rfl, hk⟩
  · obtain ⟨hb, hlim, hcap, old, xs, h1, h2, h3⟩ := H.2 (by omega)
    rw [if_neg hn]
    simp only [wpH_bind', hTI]
    rw [if_neg (by intro h0; rcases h0.2 with h0 | h0 <;> first | cases h0 | omega)]
    simp only [wpH_bind', hTI]
    rw [if_neg (by
      have : (2 : Nat) ^ 48 = 281474976710656 := by decide
      omega)]
    simp only [wpH_bind', hTI]
    refine ⟨rfl, rfl, fun tt => ?_⟩
    refine hroom _ _ _ ?_
    refine wpH_mono ?_ (fun _ _ hx => hx) _ _ (firstCells_spec (ch := true) (P := P) h1)
    rintro r h' ⟨rfl, rfl⟩
    refine wpH_mono ?_ (fun _ _ hx => hx) _ _ (firstCells_spec (ch := true) (P := P) h2)
    rintro r h'' ⟨rfl, rfl⟩
    rw [hZV]
    simp only [newRow, newObj, wpH_bind', wpH, wpH_pure, zeroCells_eq, List.append_toArray]
    refine ⟨_, _, _, rfl, h3 _ ?_ ?_⟩
    · exact Nat.le_add_right _ _
    · show n + m + tt % (2 ^ 63 - (n + m)) < 9223372036854775808 + (n + m)
      have := Nat.mod_lt tt (show 0 < 2 ^ 63 - (n + m) by omega)
      omega
theorem appendZ_spec {X : Halt → Heap → Prop} {h : Heap} {t t2 e : TypeId} {k2 ik : IntKind} {p : Option Addr} {n c : Nat} {m : Int} {i : TypeInfo} {z : Value} {K : Option Addr → Nat → Nat → Heap → Prop}
    (hu : P.underlying t = some (.slice e)) (hu2 : P.underlying t2 = some (.int k2)) (hi : P.info? e = some i) (hz : i.zero = some z)
    (H : azW h p n c m i.size i.bytes e z.cells K) (ty : TypeId) :
    wpH true P (Builtin.append_ #[t, t2] ty #[.slice p n c, .int ik m]) (fun v h' => ∃ q n c, v = .slice q n c ∧ K q n c h') X h := by
  obtain ⟨h0, h63, hs, hb, hm, H1, H2⟩ := H
  have hTI : ∀ (K : TypeInfo → Heap → Prop) (h : Heap), wpH true P (typeInfo e) K X h = K i h := by
    intro K h; simp [typeInfo, wpH_bind', program, wpH, hi, wpH_pure]
  have hSO : ∀ (K : Nat → Heap → Prop) (h : Heap), wpH true P (sizeOf e) K X h = K i.size h := by
    intro K h; simp [sizeOf, wpH_bind', hTI, wpH_pure]
  have hZV : ∀ (K : Value → Heap → Prop) (h : Heap), wpH true P (zeroValue e) K X h = K z h := by
    intro K h; simp [zeroValue, wpH_bind', hTI, wpH_pure, hz]
  have hroom : ∀ (K : Unit → Heap → Prop) (m : Nat) (h : Heap), K () h → wpH true P (askRoom m) K X h := by
    intro K m h hK
    unfold askRoom
    split <;> exact hK
  have hw : IntKind.i64.wrap m = m := wrap_i64_in (by omega) h63
  have hai : ∀ (K : Int → Heap → Prop) (h : Heap), wpH true P (asInt (.int ik m)) K X h = K m h := fun _ _ => rfl
  have hap : ∀ (K : Array Value → Heap → Prop) (h : Heap), K (zerosL z.cells m.toNat).toArray h →
      wpH true P (if m.toNat * i.size = 0 then pure #[] else do pure (Builtin.zeroCells (← zeroValue e).cells m.toNat)) K X h := by
    intro K h hK
    by_cases hm0 : m.toNat = 0
    · rw [hm0] at hK ⊢
      rw [if_pos (Nat.zero_mul _)]
      have : zerosL z.cells 0 = [] := by simp [zerosL]
      rw [this] at hK
      exact hK
    · rw [if_neg (by
        intro k
        rcases Nat.mul_eq_zero.1 k with k | k <;> omega)]
      simp only [wpH_bind', hZV, zeroCells_eq]
      exact hK
  have h48 : (2 : Int) ^ 48 = 281474976710656 := by decide
  simp only [Builtin.append_, List.getElem?_toArray, List.getElem?_cons_zero, List.getElem?_cons_succ, wpH_bind', wpH_underlying hu, wpH_underlying hu2, wpH_pure, hSO, hai, hw, if_true, Bool.not_true, Bool.false_eq_true, if_false]
  rw [if_neg (by omega)]
  simp only [wpH_bind', hTI]
  rw [if_neg (by rw [h48]; omega)]
  simp only [wpH_bind', wpH_pure]
  by_cases hn : n + m.toNat ≤ c
  · rw [if_pos hn]
    simp only [wpH_bind']
    refine hap _ _ ?_
    have hput := putRow_spec (ch := true) (P := P) (X := X) (H1 hn)
    cases p with
    | none => exact ⟨_, _, _, rfl, hput⟩
    | some a =>
      simp only [wpH_bind'] at hput ⊢
      refine wpH_mono ?_ (fun _ _ hx => hx) _ _ hput
      intro u h'' hk
      exact ⟨_, _, _, rfl, hk⟩
  · obtain ⟨hlim, hcap, old, h1, h3⟩ := H2 (by omega)
    rw [if_neg hn]
    simp only [wpH_bind', hTI]
    rw [if_neg (by
      have : IntKind.i64.max = 9223372036854775807 := by decide
      intro h0; have := h0.1; omega)]
    simp only [wpH_bind', hTI]
    rw [if_neg (by
      have : (2 : Nat) ^ 48 = 281474976710656 := by decide
      omega)]
    simp only [wpH_bind', hTI]
    refine ⟨rfl, rfl, fun tt => ?_⟩
    refine hroom _ _ _ ?_
    refine wpH_mono ?_ (fun _ _ hx => hx) _ _ (firstCells_spec (ch := true) (P := P) h1)
    rintro r h' ⟨rfl, rfl⟩
    refine hap _ _ ?_
    rw [hZV]
    simp only [newRow, newObj, wpH_bind', wpH, wpH_pure, zeroCells_eq, List.append_toArray]
    refine ⟨_, _, _, rfl, h3 _ ?_ ?_⟩
    · exact Nat.le_add_right _ _
    · show n + m.toNat + tt % (2 ^ 63 - (n + m.toNat)) < 9223372036854775808 + (n + m.toNat)
      have := Nat.mod_lt tt (show 0 < 2 ^ 63 - (n + m.toNat) by omega)
      omega
theorem oneCell_cells {v : Value} (h : oneCell v = true) : v.cells = #[v] := by cases v <;> first | rfl | cases h
theorem sem_unit {α : Type} (x : Sem α) : x.bind .pure = x := by
  induction x
  case pure => rfl
  all_goals first
    | rfl
    | (rename_i ih; simp only [Sem.bind]; first | rw [ih] | (congr 1; funext b; exact ih b))
theorem sem_assoc {α β γ : Type} (x : Sem α) (f : α → Sem β) (g : β → Sem γ) : (x.bind f).bind g = x.bind fun a => (f a).bind g := by
  induction x
  case pure => rfl
  all_goals first
    | rfl
    | (rename_i ih; simp only [Sem.bind]; first | rw [ih] | (congr 1; funext b; exact ih b))
theorem mapM_one {α β : Type} (f : α → Sem β) (a : α) : (#[a] : Array α).mapM f = (f a).bind fun b => .pure #[b] := by
  have L : LawfulMonad Sem := LawfulMonad.mk' (m := Sem) (fun x => sem_unit x) (fun _ _ => rfl) (fun x f g => sem_assoc x f g)
  rw [Array.mapM_eq_foldlM, ← Array.foldlM_toList]
  show ((f a).bind fun b => Sem.pure (#[].push b)).bind Sem.pure = _
  rw [sem_unit]
  rfl
theorem oneFn_spec {X : Halt → Heap → Prop} {t : TypeId} {v : Value} {h : Heap} {K : Value → Prop} (H : oneFn P t = true) (hv : oneCell v = true) (k : K (.agg #[v])) :
    wpH ch P (Instr.build t #[(0, v)]) (fun r h' => h' = h ∧ K r) X h := by
  unfold oneFn at H
  split at H
  · rename_i fs z hu hz
    split at H
    · rename_i f hf
      split at H
      · rename_i ps rs vv hft
        simp only [Bool.and_eq_true] at H
        have h0 := Nat.eq_of_beq_eq_true H.1.1
        have h1 := Nat.eq_of_beq_eq_true H.1.2
        have h2 := Nat.eq_of_beq_eq_true H.2
        obtain ⟨i, hi, hiz⟩ : ∃ i, P.info? t = some i ∧ i.zero = some z := by
          cases hi : P.info? t with
          | none => rw [hi] at hz; cases hz
          | some i => rw [hi] at hz; exact ⟨i, rfl, hz⟩
        have hZ : ∀ (K : Value → Heap → Prop) (h : Heap), wpH ch P (zeroValue t) K X h = K z h := by
          intro K h; simp [zeroValue, typeInfo, wpH_bind', program, wpH, hi, wpH_pure, hiz]
        have efs : fs = #[f] := by cases fs; simp at hf; simp [hf]
        subst efs
        have hfi := info_of_underlying hft
        have hc := oneCell_cells hv
        have hzs : ∃ u, z.cells = #[u] := by
          generalize z.cells = cs at h2
          obtain ⟨l⟩ := cs
          match l, h2 with
          | [u], _ => exact ⟨u, rfl⟩
        obtain ⟨u, hzu⟩ := hzs
        have hM : ∀ (K : Array (Nat × Nat) → Heap → Prop) (h : Heap), K #[(0, 1)] h → wpH ch P ((#[f] : Array Field).mapM fun f => do pure (f.offset, ← sizeOf f.type)) K X h := by
          intro K h hK
          rw [mapM_one]
          rw [wpH_bind, wpH_bind', wpH_sizeOf hfi, h0, h1]
          exact hK
        simp only [Instr.build, wpH_bind', hZ, wpH_underlying hu]
        refine hM _ _ ?_
        simp [Instr.fill, hc, hzu, wpH_pure]
        exact k
      · cases H
    · cases H
  · cases H
theorem OpW_sound {o : Oper} {ρ : Env} {K : Env → Heap → Prop} {Q : Post} {h : Heap} (H : OpW P B N o ρ K Q h) : OpS P B N o ρ K Q h := by
  obtain ⟨dst, op, ty, pos, after, guard⟩ := o
  unfold OpW at H
  cases op <;> simp only at H
  case move x => exact OpS_of_wpH P B N H
  case assign x => exact OpS_of_wpH P B N H
  case pick c x y =>
    refine of_val (s := do pure (if ← asBool (ρ.get N c) then ρ.get N x else ρ.get N y)) (by
      show (do pure (Next.value (if ← asBool (ρ.get N c) then ρ.get N x else ρ.get N y))) = _
      cases ρ.get N c <;> rfl) ?_
    split at H
    · rename_i cb p q hc hx hy
      rw [hc]; simp only [asBool, wpH_bind', wpH_pure, hx, hy]
      refine ⟨trivial, ?_⟩
      cases cb <;> exact H
    · rename_i hc _
      rw [hc]; exact ⟨rfl, H⟩
    · first
        | (rename_i hc _; rw [hc]; exact ⟨rfl, H⟩)
        | (rename_i hc; rw [hc]; exact ⟨rfl, H⟩)
        | (rename_i hc _ _ _; rw [hc]; exact ⟨rfl, H⟩)
    · exact H.elim
  case load t x =>
    refine of_val rfl ?_
    split at H
    · rename_i p hx
      obtain ⟨b, o, rfl, H⟩ := H
      rw [hx]
      exact loadVar_spec H
    · exact H.elim
  case store t x y =>
    split at H
    · rename_i p hx
      obtain ⟨b, o, rfl, H⟩ := H
      obtain ⟨hc, H⟩ := cond_false_elim H
      simp only [Bool.and_eq_true] at hc
      apply OpS_of_wpH
      show wpH true P (do Instr.storeAt t (ρ.get N x) (ρ.get N y); pure Next.skip) _ _ h
      rw [wpH_bind', hx]
      simp only [Instr.storeAt, Instr.sureAddr, storeVar, wpH_bind', wpH_pure, wpH_sizeOf hc.2]
      rw [if_neg (by simpa using Nat.eq_of_beq_eq_true hc.1)]
      exact wpH_mono (fun _ _ hk => hk) (fun _ _ hx => hx) _ _ (storeCells_spec (ch := true) (P := P) b _ o 0 h _ H)
    · exact H.elim
  case fieldAddr s x f =>
    refine of_val rfl ?_
    split at H
    · rename_i p fs hx hu
      split at H
      · rename_i fd hf
        obtain ⟨hc, H1⟩ := cond_false_elim H
        obtain ⟨b, o, rfl, H2⟩ := H1
        rw [hx]
        exact fieldAt_spec hu hf hc H2
      · exact H.elim
    · exact H.elim
  case indexAddr t x i =>
    refine of_val rfl ?_
    split at H
    · rename_i e p n c k i hu hx hi
      obtain ⟨hc, H⟩ := cond_false_elim H
      rw [hx, hi]
      exact indexAt_slice_spec hu hc H
    · rename_i n e p k i hu hx hi
      obtain ⟨hc, H⟩ := cond_false_elim H
      rw [hx, hi]
      exact indexAt_array_spec hu hc H
    · exact H.elim
  case index t x i =>
    split at H
    · rename_i s k i hu hx hi
      obtain ⟨h0, b, hb, H⟩ := H
      refine of_val rfl ?_
      rw [hx, hi]
      simp only [Instr.index, asIntOf, wpH_bind', wpH_pure, wpH_underlying hu, if_pos h0, hb]
      exact ⟨trivial, H⟩
    · rename_i n e cs k i hu hx hi
      obtain ⟨hc, h0, h1, H⟩ := cond_false_elim H
      obtain ⟨v, hv, H⟩ := exV_spec H
      refine of_val rfl ?_
      rw [hx, hi]
      simp only [Instr.index, asIntOf, wpH_bind', wpH_pure, wpH_underlying hu, h0, h1, and_self, if_true, wpH_sizeOf hc]
      exact partV_spec hc hv ⟨rfl, H⟩
    · exact OpS_of_wpH P B N H
  case convert s d x =>
    split at H
    · rename_i f a f0 f' hx hu hd
      refine of_val rfl ?_
      rw [hx]
      obtain ⟨h1, h2⟩ := H
      simp only [convert, wpH_bind', wpH_underlying hu, wpH_underlying hd, Conv.floatToFloat]
      by_cases hf : f = f'
      · rw [if_pos hf]
        subst hf
        exact ⟨rfl, h1 rfl⟩
      · rw [if_neg hf]
        have H := h2 hf
        split at H
        · rename_i hd'
          rw [hd']
          exact ⟨rfl, rfl, fun t => ⟨rfl, H t⟩⟩
        · rename_i hd'
          rw [hd']
          exact ⟨rfl, H⟩
        · rename_i hd'
          rw [hd']
          simp only []
          split
          · rename_i hi
            exact ⟨rfl, rfl, fun t => ⟨rfl, H.1 hi t⟩⟩
          · rename_i hi
            exact ⟨rfl, H.2 (by simpa using hi)⟩
    · rename_i f a f0 k hx hu hd
      refine of_val rfl ?_
      rw [hx]
      unfold cviW at H
      simp only [convert, wpH_bind', wpH_underlying hu, wpH_underlying hd, Conv.floatToInt]
      split at H
      · rename_i n hn
        rw [hn]
        simp only []
        split
        · rename_i hc
          exact ⟨rfl, H.1 hc⟩
        · rename_i hc
          exact ⟨rfl, rfl, fun t => ⟨rfl, H.2 hc t⟩⟩
      · rename_i hn
        rw [hn]
        exact ⟨rfl, rfl, fun t => ⟨rfl, H t⟩⟩
    · exact OpS_of_wpH P B N H
  case slice t x lo hi mx =>
    refine of_val rfl ?_
    split at H
    · rename_i e p n c hu hx
      obtain ⟨hc, H⟩ := cond_false_elim H
      rw [hx]
      simp only [Instr.sliceAt, Instr.slice, wpH_bind', wpH_underlying hu]
      refine wpH_mono ?_ (fun _ _ hx => hx) _ _ (slW_spec (ch := true) (P := P) H)
      rintro ⟨l, hh, m⟩ h' ⟨rfl, hk⟩
      simp only [wpH_sizeOf hc, wpH_pure]
      exact ⟨trivial, hk⟩
    · exact H.elim
  case nilCheck x =>
    split at H
    · rename_i p hx
      obtain ⟨b, o, rfl, H⟩ := H
      apply OpS_of_wpH
      simp only [execOp, hx, wpH_pure]
      exact H
    · exact OpS_of_wpH P B N H
  case binOp op t x y ty' =>
    refine of_val rfl ?_
    split at H
    · rename_i k a k' b hx hy
      have hg : ∀ (K : Unit → Heap → Prop) X, wpH true P (eqGuard op t x y (.int k a) (.int k' b)) K X h = K () h := by
        intro K X; cases op <;> rfl
      rw [hx, hy, wpH_bind', hg]
      cases op <;> first
        | exact shW_spec (.inl rfl) t H
        | exact shW_spec (.inr rfl) t H
        | (obtain ⟨hk, H1⟩ := cond_false_elim H; clear H; obtain rfl := of_decide_eq_true hk; exact intW_spec (by decide) (by decide) t H1)
    · rename_i f a f' b hx hy
      obtain ⟨hk, H1⟩ := cond_false_elim H
      clear H
      have H := H1
      clear H1
      simp only [Bool.and_eq_true, decide_eq_true_eq] at hk
      obtain ⟨rfl, h1, h2⟩ := hk
      have hg : ∀ (K : Unit → Heap → Prop) X, wpH true P (eqGuard op t x y (.float f a) (.float f b)) K X h = K () h := by
        intro K X; cases op <;> rfl
      rw [hx, hy, wpH_bind', hg]
      exact fltW_spec h1 h2 t H
    · split at H
      · exact eqlW_spec (.inl ⟨rfl, rfl⟩) H x y
      · exact eqlW_spec (.inr ⟨rfl, rfl⟩) H x y
      · exact H.elim
  case makeSlice t l c =>
    split at H
    · rename_i e k l k' c hu hl hc
      split at H
      · rename_i i hi
        split at H
        · rename_i z hz
          obtain ⟨h0, h1, h2, h3, H⟩ := H
          obtain ⟨h4, H⟩ := cond_false_elim H
          apply OpS_of_wpH
          show wpH true P (do let v ← Instr.makeSlice t (ρ.get N _) (ρ.get N _); pure (Next.value v)) _ _ h
          rw [wpH_bind', hl, hc]
          exact makeSlice_spec hu hi hz h0 h1 h2 h3 h4 H
        · exact H.elim
      · exact H.elim
    · exact H.elim
  case build t parts =>
    cases hb : oneFn P t with
    | false => rw [hb] at H; exact OpS_of_wpH P B N H
    | true =>
      rw [hb] at H
      simp only [cond_true] at H
      split at H
      · rename_i x hp
        have : parts = #[(0, x)] := by cases parts; simp at hp; simp [hp]
        subst this
        refine of_val (s := Instr.build t #[(0, ρ.get N x)]) (by
          show (do pure (Next.value (← Instr.build t ((#[(0, x)] : Array (Nat × Operand)).map fun (i, x) => (i, ρ.get N x))))) = _
          simp) ?_
        exact oneFn_spec (K := fun v => K (ρ.put dst v) h) hb H.1 H.2
      · exact OpS_of_wpH P B N H
  case call c =>
    split at H
    · rename_i f hc
      have he : execOp (ρ.get N) ⟨dst, .call c, ty, pos, after, guard⟩ = callFunc f (c.args.map (ρ.get N)) := by
        show (do let d ← resolve (ρ.get N) c ty; invoke d.target d.args) = _
        unfold resolve
        rw [hc]
        show invoke (.fn (.func f) #[]) (#[] ++ c.args.map (ρ.get N)) = _
        unfold invoke
        simp
      rcases H with ⟨f', hrun, hfn⟩ | H
      · intro a n hr
        unfold Oper.wp
        rw [hr.eval, he, hrun]
        refine (hfn n).mono ?_
        rintro e w' ⟨h'', n'', rfl, hE⟩
        cases e with
        | returned v => exact ⟨_, _, _, hr.put _ _, rfl, caV_spec (P := P) (t := ty) (K := fun v => K (ρ.put dst v) h'') hE⟩
        | panicked ch => exact ⟨_, _, _, hr, rfl, hE⟩
        | outgrown => exact hE.elim
      intro a n hr
      obtain ⟨v, h', n', hrun, hE⟩ := H n
      unfold Oper.wp
      rw [hr.eval, he, hrun]
      exact ⟨_, _, _, hr.put _ _, rfl, caV_spec (P := P) (t := ty) (K := fun v => K (ρ.put dst v) h') hE⟩
    · rename_i fv _ hc
      unfold EntV at H
      split at H
      · rename_i f first cap hv
        have he : execOp (ρ.get N) ⟨dst, .call c, ty, pos, after, guard⟩ = callFunc f (first ++ c.args.map (ρ.get N) ++ cap) := by
          show (do let d ← resolve (ρ.get N) c ty; invoke d.target d.args) = _
          unfold resolve
          rw [hc]
          show (do let d ← Deferred.ofValue (ρ.get N fv) (c.args.map (ρ.get N)); invoke d.target d.args) = _
          rw [hv]
          rfl
        rcases H with ⟨f', hrun, hfn⟩ | H
        · intro a n hr
          unfold Oper.wp
          rw [hr.eval, he, hrun]
          refine (hfn n).mono ?_
          rintro e w' ⟨h'', n'', rfl, hE⟩
          cases e with
          | returned v => exact ⟨_, _, _, hr.put _ _, rfl, caV_spec (P := P) (t := ty) (K := fun v => K (ρ.put dst v) h'') hE⟩
          | panicked ch => exact ⟨_, _, _, hr, rfl, hE⟩
          | outgrown => exact hE.elim
        intro a n hr
        obtain ⟨v, h', n', hrun, hE⟩ := H n
        unfold Oper.wp
        rw [hr.eval, he, hrun]
        exact ⟨_, _, _, hr.put _ _, rfl, caV_spec (P := P) (t := ty) (K := fun v => K (ρ.put dst v) h') hE⟩
      · exact H.elim
    · rename_i hc
      split at H
      · rename_i n q t hl ht
        split at H
        · rename_i e hu
          refine of_val (s := Builtin.len_ c.argTypes ty (c.args.map (ρ.get N))) ?_ ?_
          · show (do let d ← resolve (ρ.get N) c ty; invoke d.target d.args) = _
            unfold resolve
            rw [hc]
            rfl
          · rw [toArr hl, toArr ht]
            exact builtin_len_spec hu H ty
        · exact H.elim
      · exact OpS_of_wpH P B N H
    · rename_i hc
      split at H
      · rename_i p n q t hl ht
        split at H
        · rename_i e hu
          refine of_val (s := Builtin.cap_ c.argTypes ty (c.args.map (ρ.get N))) ?_ ?_
          · show (do let d ← resolve (ρ.get N) c ty; invoke d.target d.args) = _
            unfold resolve
            rw [hc]
            rfl
          · rw [toArr hl, toArr ht]
            exact builtin_cap_spec hu H ty
        · exact H.elim
      · exact OpS_of_wpH P B N H
    · rename_i hc
      refine of_val (s := Builtin.min_ c.argTypes ty (c.args.map (ρ.get N))) ?_ ?_
      · show (do let d ← resolve (ρ.get N) c ty; invoke d.target d.args) = _
        unfold resolve
        rw [hc]
        rfl
      · have := minW_spec (ch := true) (P := P) (X := haltK ρ Q) (h := h) H c.argTypes ty
        rw [show (c.args.map (ρ.get N)).toList.toArray = c.args.map (ρ.get N) from (toArr rfl).symm] at this
        exact this
    · rename_i hc
      refine of_val (s := Builtin.max_ c.argTypes ty (c.args.map (ρ.get N))) ?_ ?_
      · show (do let d ← resolve (ρ.get N) c ty; invoke d.target d.args) = _
        unfold resolve
        rw [hc]
        rfl
      · have := minW_spec (ch := true) (P := P) (X := haltK ρ Q) (h := h) H c.argTypes ty
        rw [show (c.args.map (ρ.get N)).toList.toArray = c.args.map (ρ.get N) from (toArr rfl).symm] at this
        exact this
    · rename_i hc
      split at H
      · rename_i p n c1 q m c2 t t2 hl ht
        split at H
        · rename_i e hu
          obtain ⟨hi, H1⟩ := cond_false_elim H
          apply OpS_of_wpH
          have he : execOp (ρ.get N) ⟨dst, .call c, ty, pos, after, guard⟩ = (do pure (Next.value (← Builtin.copy_ c.argTypes ty (c.args.map (ρ.get N))))) := by
            show (do let d ← resolve (ρ.get N) c ty; invoke d.target d.args) = _
            unfold resolve
            rw [hc]
            rfl
          rw [he, wpH_bind', toArr hl, toArr ht]
          refine wpH_mono ?_ (fun _ _ hx => hx) _ _ (copy_spec (ch := true) hu hi H1 ty)
          rintro v h' ⟨k, rfl, hk⟩
          exact hk
        · exact H.elim
      · exact H.elim
    · rename_i hc
      split at H
      · rename_i p n c1 t hl ht
        split at H
        · rename_i e hu
          split at H
          · rename_i z hz
            apply OpS_of_wpH
            have he : execOp (ρ.get N) ⟨dst, .call c, ty, pos, after, guard⟩ = (do pure (Next.value (← Builtin.clear_ c.argTypes ty (c.args.map (ρ.get N))))) := by
              show (do let d ← resolve (ρ.get N) c ty; invoke d.target d.args) = _
              unfold resolve
              rw [hc]
              rfl
            rw [he, wpH_bind', toArr hl, toArr ht]
            refine wpH_mono ?_ (fun _ _ hx => hx) _ _ (clear_spec (ch := true) hu hz H ty)
            rintro v h' ⟨rfl, hk⟩
            exact hk
          · exact H.elim
        · exact H.elim
      · exact H.elim
    · rename_i hc
      split at H
      · rename_i p n c1 q m c2 t t2 hl ht
        split at H
        · rename_i e e2 hu hu2
          split at H
          · rename_i i hi
            split at H
            · rename_i z hz
              apply OpS_of_wpH
              have he : execOp (ρ.get N) ⟨dst, .call c, ty, pos, after, guard⟩ = (do pure (Next.value (← Builtin.append_ c.argTypes ty (c.args.map (ρ.get N))))) := by
                show (do let d ← resolve (ρ.get N) c ty; invoke d.target d.args) = _
                unfold resolve
                rw [hc]
                rfl
              rw [he, wpH_bind', toArr hl, toArr ht]
              refine wpH_mono ?_ (fun _ _ hx => hx) _ _ (append_spec hu hu2 hi hz H ty)
              rintro v h' ⟨q, n, c, rfl, hk⟩
              exact hk
            · exact H.elim
          · exact H.elim
        · exact H.elim
      · rename_i p n c1 ik m t t2 hl ht
        split at H
        · rename_i e k2 hu hu2
          split at H
          · rename_i i hi
            split at H
            · rename_i z hz
              apply OpS_of_wpH
              have he : execOp (ρ.get N) ⟨dst, .call c, ty, pos, after, guard⟩ = (do pure (Next.value (← Builtin.append_ c.argTypes ty (c.args.map (ρ.get N))))) := by
                show (do let d ← resolve (ρ.get N) c ty; invoke d.target d.args) = _
                unfold resolve
                rw [hc]
                rfl
              rw [he, wpH_bind', toArr hl, toArr ht]
              refine wpH_mono ?_ (fun _ _ hx => hx) _ _ (appendZ_spec hu hu2 hi hz H ty)
              rintro v h' ⟨q, n, c, rfl, hk⟩
              exact hk
            · exact H.elim
          · exact H.elim
        · exact H.elim
      · exact H.elim
    · exact H.elim
  case defer c =>
    split at H
    · rename_i f hc
      apply OpS_of_wpH
      have he : execOp (ρ.get N) ⟨dst, .defer c, ty, pos, after, guard⟩ = pure (.defer { target := .fn (.func f) #[], args := c.args.map (ρ.get N) }) := by
        show (do pure (Next.defer (← resolve (ρ.get N) c ty))) = _
        unfold resolve
        rw [hc]
        show pure (Next.defer { target := .fn (.func f) #[], args := #[] ++ c.args.map (ρ.get N) }) = (pure (.defer { target := .fn (.func f) #[], args := c.args.map (ρ.get N) }) : Sem Next)
        simp
      rw [he]
      exact H
    · exact H.elim
  case panic x =>
    split at H
    · rename_i t v hx
      apply OpS_of_wpH
      show wpH true P (do let v ← Instr.panic (ρ.get N x); pure (Next.value v)) _ _ h
      rw [hx]
      exact H
    · exact H.elim
  all_goals exact OpS_of_wpH P B N H
end
end Go.Eng
