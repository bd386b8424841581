import Derived.Test.YtobkdplpkgikhaaGreatFmtA06
import Derived.Tactics
/- Here stand lemmas and contracts, in the order in which they are used. -/
set_option linter.unusedVariables false
namespace Go.Eng
open Go
section
variable {P : Program} {B : World} {N : Nat}

theorem Rel.put_same {a : Act} {ρ : Env} (h : Rel N a ρ) {d : Nat} {v : Value} (hv : d < N → ρ.t d = v) : Rel N a (ρ.put (some d) v) := by
  refine ⟨h.size, fun i hi => ?_, h.defers⟩
  simp only [Env.put]
  by_cases hid : i = d
  · subst hid
    rw [show Nat.beq i i = true from by simp, cond_true, h.at_ i hi, hv hi]
  · rw [show Nat.beq i d = false from by simpa [← Bool.not_eq_true, Nat.beq_eq] using hid, cond_false]
    exact h.at_ i hi

theorem yields_put {a : Act} {ρ : Env} (h : Rel N a ρ) {ops : Array Oper} {j : Nat} {b : Bool} (hy : ρ.yields N ops j = some b) :
    Rel N a (ρ.put ((ops[j]?).bind (·.dst)) (.bool b)) := by
  unfold Env.yields at hy
  cases hd : (ops[j]?).bind (·.dst) with
  | none => exact h
  | some d =>
    rw [hd] at hy
    refine h.put_same fun hlt => ?_
    simp only [show Nat.blt d N = true from by simpa [Nat.blt_eq] using hlt, cond_true] at hy
    cases hx : ρ.t d with
    | bool c => rw [hx] at hy; simp at hy; rw [hy]
    | _ => rw [hx] at hy; cases hy

theorem gd_sound {ops : Array Oper} {o : Oper} {D : List Nat} {ρ : Env} {ex sk : List Nat → Env → Prop} (H : gd N ops o D ρ ex sk) {a : Act} (h : Rel N a ρ) :
    (Region.wanted o (yielded ops a.tmps) = true ∧ ∃ D' ρ', Rel N a ρ' ∧ ex D' ρ') ∨ (Region.wanted o (yielded ops a.tmps) = false ∧ ∃ D' ρ', Rel N a ρ' ∧ sk D' ρ') := by
  unfold gd at H
  unfold Region.wanted
  rw [h.yields]
  cases hg : o.guard with
  | none => rw [hg] at H; exact .inl ⟨rfl, _, _, h, H⟩
  | some g =>
    obtain ⟨j, want⟩ := g
    rw [hg] at H
    simp only at H ⊢
    cases hm : memN D j with
    | true =>
      rw [hm, cond_true] at H
      cases hy : ρ.yields N ops j with
      | none => rw [hy] at H; exact .inr ⟨rfl, _, _, h, H⟩
      | some d =>
        rw [hy] at H
        simp only [eqB_spec] at H
        cases hd : d == want with
        | true => rw [hd] at H; exact .inl ⟨by simpa using hd, _, _, h, H⟩
        | false => rw [hd] at H; exact .inr ⟨by simpa using hd, _, _, h, H⟩
    | false =>
      rw [hm, cond_false] at H
      cases hy : ρ.yields N ops j with
      | none => rw [hy] at H; exact .inr ⟨rfl, _, _, h, H⟩
      | some b =>
        rw [hy] at H
        have hp := yields_put h hy
        cases b with
        | true =>
          have H1 := H.1 rfl
          cases want with
          | true => exact .inl ⟨rfl, _, _, hp, H1⟩
          | false => exact .inr ⟨rfl, _, _, hp, H1⟩
        | false =>
          have H1 := H.2 rfl
          cases want with
          | true => exact .inr ⟨rfl, _, _, hp, H1⟩
          | false => exact .inl ⟨rfl, _, _, hp, H1⟩

theorem seqW_sound {ops : Array Oper} {Q : Post} : ∀ (l : List Oper) (D : List Nat) (ρ : Env) (h : Heap), seqW P B N ops Q l D ρ h →
    ∀ a n, Rel N a ρ → wpList P ops (liftQ B N Q) l a (mk B h n)
  | [], D, ρ, h, H, a, n, hr => ⟨ρ, h, n, hr, rfl, H⟩
  | o :: r, D, ρ, h, H, a, n, hr => by
    unfold wpList
    rcases gd_sound H hr with ⟨hw, D', ρ', hr', H⟩ | ⟨hw, D', ρ', hr', H⟩
    · rw [if_pos hw]
      refine .inl (Oper.wp_mono ?_ (OpW_sound H a n hr'))
      rintro a' w' ⟨ρ'', h', n', hr'', rfl, H⟩
      exact seqW_sound r _ _ _ H _ _ hr''
    · rw [hw, if_neg (by simp)]
      exact seqW_sound r _ _ _ H _ _ (hr'.put _ _)

theorem sameCells_spec {h h' : Heap} {b o : Nat} : ∀ {n : Nat}, sameCells h h' b o n → ∀ k, k < n → cell? h' ⟨b, o + k, none⟩ = cell? h ⟨b, o + k, none⟩
  | 0, _, k, hk => absurd hk (by omega)
  | 1, H, k, hk => by
    have : k = 0 := by omega
    subst this; exact H
  | n + 2, H, k, hk => by
    by_cases hkn : k = n + 1
    · subst hkn; exact H.2
    · exact sameCells_spec H.1 k (by omega)
/-- Some cells are alike in two worlds. -/
def alikeAt (w w' : World) (e : Early) : Prop := ∀ k, k < e.n → w'.cell? ⟨e.b, e.o + k, none⟩ = w.cell? ⟨e.b, e.o + k, none⟩
theorem kept_spec {j : Nat} {h h' : Heap} {K : Prop} : ∀ {es : List Early}, kept j h h' es K →
    (∀ e ∈ es, e.T.getD j false = true → ∀ k, k < e.n → cell? h' ⟨e.b, e.o + k, none⟩ = cell? h ⟨e.b, e.o + k, none⟩) ∧ K
  | [], H => ⟨fun c hc => (by cases hc), H⟩
  | e :: es, H => by
    unfold kept at H
    cases ha : e.T.getD j false with
    | true =>
      rw [ha, cond_true] at H
      obtain ⟨h2, hK⟩ := kept_spec H.2
      refine ⟨fun d hd hda => ?_, hK⟩
      rcases List.mem_cons.1 hd with rfl | hd
      · exact sameCells_spec H.1
      · exact h2 d hd hda
    | false =>
      rw [ha, cond_false] at H
      obtain ⟨h2, hK⟩ := kept_spec H
      refine ⟨fun d hd hda => ?_, hK⟩
      rcases List.mem_cons.1 hd with rfl | hd
      · rw [ha] at hda; cases hda
      · exact h2 d hd hda

theorem ldD_congr {d : TypeDesc} {h h' : Heap} {b o : Nat} {K : Value → Prop} (hc : cell? h' ⟨b, o, none⟩ = cell? h ⟨b, o, none⟩) (H : ldD d h b o K) : ldD d h' b o K := by
  unfold ldD at *
  rw [hc]; exact H
theorem ldD_firm {d : TypeDesc} {h : Heap} {b o : Nat} {K : Value → Prop} (H : ldD d h b o K) : ∃ v, K v ∧ ldD d h b o (fun x => x = v) := by
  unfold ldD at *
  split at H
  case h_5 => obtain ⟨p, n, c, h1, h2⟩ := H; exact ⟨_, h2, p, n, c, h1, rfl⟩
  all_goals obtain ⟨n, h1, h2⟩ := H; exact ⟨_, h2, n, h1, rfl⟩
theorem ldL_congr {h h' : Heap} {b : Nat} : ∀ {l : List TypeDesc} {o : Nat} {acc : Array Value} {K : Value → Prop},
    (∀ k, k < l.length → cell? h' ⟨b, o + k, none⟩ = cell? h ⟨b, o + k, none⟩) → ldL h b l o acc K → ldL h' b l o acc K
  | [], _, _, _, _, H => H
  | d :: ds, o, acc, K, hc, H => by
    obtain ⟨v, hk, hv⟩ := ldD_firm H
    have h1 := ldD_congr (hc 0 (by simp)) hv
    have h2 : ldL h' b ds (o + 1) (acc.push v) K := ldL_congr (fun k hk => by
      have := hc (k + 1) (by simpa using hk)
      rw [show o + 1 + k = o + (k + 1) by omega]; exact this) hk
    unfold ldL
    unfold ldD at h1 ⊢
    split at h1
    case h_5 => obtain ⟨p, n, c, h3, rfl⟩ := h1; exact ⟨p, n, c, h3, h2⟩
    all_goals obtain ⟨n, h3, rfl⟩ := h1; exact ⟨n, h3, h2⟩
theorem ldL_firm {h : Heap} {b : Nat} : ∀ {l : List TypeDesc} {o : Nat} {acc : Array Value} {K : Value → Prop}, ldL h b l o acc K → ∃ v, K v ∧ ldL h b l o acc (fun x => x = v)
  | [], _, _, _, H => ⟨_, H, rfl⟩
  | d :: ds, o, acc, K, H => by
    obtain ⟨v, hk, hv⟩ := ldD_firm H
    obtain ⟨u, hu, h2⟩ := ldL_firm hk
    refine ⟨u, hu, ?_⟩
    unfold ldL
    unfold ldD at hv ⊢
    split at hv
    case h_5 => obtain ⟨p, n, c, h3, rfl⟩ := hv; exact ⟨p, n, c, h3, h2⟩
    all_goals obtain ⟨n, h3, rfl⟩ := hv; exact ⟨n, h3, h2⟩
theorem ldV_firm {t : TypeId} {h : Heap} {b o : Nat} {K : Value → Prop} (H : ldV P t h b o K) :
    ∃ v, K v ∧ ∀ h', (∀ k, k < ldN P t → cell? h' ⟨b, o + k, none⟩ = cell? h ⟨b, o + k, none⟩) → ldV P t h' b o (fun x => x = v) := by
  unfold ldV ldN at *
  cases hu : P.underlying t with
  | none => rw [hu] at H; exact H.elim
  | some d =>
    rw [hu] at H
    simp only at H ⊢
    cases hd : isA d with
    | true =>
      rw [hd, cond_true] at H
      cases hl : (Nat.beq (flat P 8 t).length (P.cellsOf t) && (P.info? t).isSome) with
      | false => rw [hl] at H; exact H.elim
      | true =>
        rw [hl, cond_true] at H
        obtain ⟨v, hk, hv⟩ := ldL_firm H
        have hlen : (flat P 8 t).length = P.cellsOf t := Nat.eq_of_beq_eq_true (by
          revert hl; cases Nat.beq (flat P 8 t).length (P.cellsOf t) <;> simp)
        exact ⟨v, hk, fun h' hc => by simp only [cond_true] at hc ⊢; exact ldL_congr (fun k hk => hc k (by omega)) hv⟩
    | false =>
      rw [hd, cond_false] at H
      obtain ⟨v, hk, hv⟩ := ldD_firm H
      refine ⟨v, hk, fun h' hc => ?_⟩
      simp only [cond_false] at hc ⊢
      exact ldD_congr (hc 0 (by omega)) hv
end
end Go.Eng
namespace Go.Eng
open Go
section
variable {P : Program} {B : World} {N : Nat}

def onlyN (Q : Post) : Post := fun e ρ h => match e with | .normal => Q .normal ρ h | _ => False

theorem allP_spec {F : Nat → Prop} : ∀ {l : List Nat}, allP F l → ∀ i ∈ l, F i
  | [], _, i, hi => by cases hi
  | [j], H, i, hi => by
    rcases List.mem_cons.1 hi with rfl | hi
    · exact H
    · cases hi
  | j :: k :: r, H, i, hi => by
    rcases List.mem_cons.1 hi with rfl | hi
    · exact H.1
    · exact allP_spec H.2 i hi

theorem spread_sub {ops : Array Oper} {i : Nat} {oi : Oper} {listed Lst : Array Bool} (H : spreadOk ops i oi listed Lst = true) :
    Lst.size = ops.size ∧ (∀ j, j ∈ Region.ready .any ops Lst → j = i) ∧
    (∀ j oj, ops[j]? = some oj → j ≠ i → listed.getD j true = false → Lst.getD j false = true → oi.apart ops oj = true) ∧
    (∀ k, listed.getD k false = true → Lst.getD k false = true) := by
  unfold spreadOk at H
  simp only [Bool.and_eq_true, List.all_eq_true, List.mem_range] at H
  obtain ⟨⟨⟨h1, h2⟩, h3⟩, h4⟩ := H
  refine ⟨Nat.eq_of_beq_eq_true h1, fun j hj => Nat.eq_of_beq_eq_true (h2 j hj), fun j oj hoj hne hl hL => ?_, fun k hk => ?_⟩
  · have hjs : j < ops.size := by
      rcases Nat.lt_or_ge j ops.size with h | h
      · exact h
      · rw [Array.getElem?_eq_none h] at hoj; cases hoj
    have := h3 j hjs
    rw [hl, hL, hoj] at this
    have hb : Nat.beq j i = false := by
      cases hx : Nat.beq j i with
      | true => exact absurd (Nat.eq_of_beq_eq_true hx) hne
      | false => rfl
    rw [hb] at this
    simpa using this
  · rcases Nat.lt_or_ge k listed.size with h | h
    · have := h4 k h
      rw [hk] at this
      simpa using this
    · simp [Array.getElem?_eq_none h] at hk

theorem pick_spec {ops : Array Oper} {listed : Array Bool} : ∀ {l : List Nat} {p : Pick}, pick P ops listed l = some p →
    (∃ i Lst o, p = .pure i Lst ∧ i ∈ l ∧ ops[i]? = some o ∧ spreadOk ops i o listed Lst = true) ∨
    (∃ i Lst o, p = .load i Lst ∧ i ∈ l ∧ ops[i]? = some o ∧ spreadOk ops i o listed Lst = true)
  | [], p, H => by cases H
  | i :: r, p, H => by
    unfold pick at H
    cases hp : pickOne P ops listed i with
    | none =>
      rw [hp] at H
      rcases pick_spec H with ⟨j, L, o, h1, h2, h3⟩ | ⟨j, L, o, h1, h2, h3⟩
      · exact .inl ⟨j, L, o, h1, List.mem_cons_of_mem _ h2, h3⟩
      · exact .inr ⟨j, L, o, h1, List.mem_cons_of_mem _ h2, h3⟩
    | some q =>
      rw [hp] at H
      obtain rfl := Option.some.inj H
      unfold pickOne at hp
      cases ho : ops[i]? with
      | none => rw [ho] at hp; cases hp
      | some o =>
        rw [ho] at hp
        simp only at hp
        cases hk : pureK P o with
        | true =>
          rw [hk, cond_true] at hp
          cases hs : spreadOk ops i o listed (spread ops i ops.size listed) with
          | false => rw [hs] at hp; cases hp
          | true =>
            rw [hs, cond_true] at hp
            obtain rfl := Option.some.inj hp
            exact .inl ⟨i, _, o, rfl, by simp, ho, hs⟩
        | false =>
          rw [hk, cond_false] at hp
          split at hp
          · cases hs : spreadOk ops i o listed (spread ops i ops.size listed) with
            | false => rw [hs] at hp; cases hp
            | true =>
              rw [hs, cond_true] at hp
              obtain rfl := Option.some.inj hp
              exact .inr ⟨i, _, o, rfl, by simp, ho, hs⟩
          · cases hp

/-- What every operation keeps of the cells that were read early. -/
def keeps (es : List Early) (j : Nat) (w w' : World) : Prop := ∀ e ∈ es, e.T.getD j false = true → alikeAt w w' e

theorem porW_sound {ops : Array Oper} {Q : Post} (hsel : Region.noSelect ops = true) : ∀ (f : Nat) (listed : Array Bool) (es : List Early) (D : List Nat) (ρ : Env) (h : Heap),
    porW P B N ops Q f listed es D ρ h → ∀ a n, Rel N a ρ → wpAnyG P ops (liftQ B N (onlyN Q)) (keeps es) f listed a (mk B h n) := by
  intro f
  induction f with
  | zero =>
    intro listed es D ρ h H a n hr
    unfold porW at H
    obtain ⟨h1, H⟩ := cond_false_elim H
    exact ⟨by simpa using h1, ρ, h, n, hr, rfl, H⟩
  | succ f ih =>
    intro listed es D ρ h H a n hr
    have hQ : ∀ (dst : Option Nat) (v : Value) (c : List PanicEntry) (a : Act) (w : World), liftQ B N (onlyN Q) (.panic c) (a.put dst v) w → liftQ B N (onlyN Q) (.panic c) a w := by
      rintro dst v c a w ⟨_, _, _, _, _, hq⟩
      exact hq.elim
    unfold porW at H
    split at H
    · rename_i hrd
      exact ⟨fun _ => ⟨ρ, h, n, hr, rfl, H⟩, fun i hi => by rw [hrd] at hi; cases hi⟩
    · rename_i hne
      split at H
      · rename_i i Lst hp
        rcases pick_spec hp with ⟨i', L', o, he, hi, ho, hs⟩ | ⟨i', L', o, he, hi, ho, hs⟩
        · cases he
          rw [ho] at H
          simp only at H
          obtain ⟨hLs, hLi, hap, hsub⟩ := spread_sub hs
          have fin : ∀ v ρ', YieldsC P ops (fun _ => True) o v a → Rel N (a.put o.dst v) ρ' → (∃ D', porW P B N ops Q f (listed.setIfInBounds i true) es D' ρ' h) →
              wpAnyG P ops (liftQ B N (onlyN Q)) (keeps es) (f + 1) listed a (mk B h n) := by
            rintro v ρ' hy hr' ⟨D', H'⟩
            refine wpAnyG_first (C := fun _ => True) (R := fun _ _ => True) (fun _ _ _ _ => trivial) ho (Region.noSelect_spec hsel) (hQ _ _) (fun w e _ _ k _ => rfl) hLi hLs f listed a _ hsub hap hi hy trivial ?_
            have := ih _ _ _ _ _ H' _ n hr'
            have weak : ∀ (f : Nat) (listed : Array Bool) (a : Act) (w : World), wpAnyG P ops (liftQ B N (onlyN Q)) (keeps es) f listed a w →
                wpAnyG P ops (liftQ B N (onlyN Q)) (fun j w w' => keeps es j w w' ∧ (Lst.getD j false = true → True)) f listed a w := by
              intro f
              induction f with
              | zero => exact fun _ _ _ h => h
              | succ f ih => exact fun _ _ _ h => ⟨h.1, fun i hi => wpOp_mono (fun a' w' h' => ⟨⟨h'.1, fun _ => trivial⟩, ih _ _ _ h'.2⟩) (h.2 i hi)⟩
            exact weak _ _ _ _ this
          rcases gd_sound H hr with ⟨hw, D', ρ', hr', H⟩ | ⟨hw, D', ρ', hr', H⟩
          · obtain ⟨v, hk, hv⟩ := PW_firm H
            exact fin v _ (.inl ⟨hw, fun w _ => by rw [hr'.eval]; exact hv w⟩) (hr'.put _ _) ⟨D', hk⟩
          · exact fin undef _ (.inr ⟨hw, rfl⟩) (hr'.put _ _) ⟨D', H⟩
        · cases he
      · rename_i i Lst hp
        rcases pick_spec hp with ⟨i', L', o, he, hi, ho, hs⟩ | ⟨i', L', o, he, hi, ho, hs⟩
        · cases he
        · cases he
          rw [ho] at H
          simp only at H
          obtain ⟨hLs, hLi, hap, hsub⟩ := spread_sub hs
          rcases gd_sound H hr with ⟨hw, D', ρ', hr', H⟩ | ⟨hw, D', ρ', hr', H⟩
          · split at H
            · rename_i t x hop
              split at H
              · rename_i p hx
                obtain ⟨b, o', rfl, H⟩ := H
                obtain ⟨v, hk, hv⟩ := ldV_firm H
                let e : Early := ⟨Lst, b, o', ldN P t⟩
                have hy : YieldsC P ops (fun w => alikeAt (mk B h n) w e) o v a := by
                  refine .inl ⟨hw, fun w hC => ?_⟩
                  rw [hr'.eval]
                  have hld := hv w.heap (fun k hk => hC k hk)
                  have hex : execOp (ρ'.get N) o = (do pure (Next.value (← Instr.loadAt t (ρ'.get N x)))) := by
                    unfold execOp; rw [hop]
                  rw [hex, hx]
                  have := wpH_run (ch := false) (B := w) (K := fun nx h' => h' = w.heap ∧ nx = Next.value v) (X := fun _ _ => False)
                    (do pure (Next.value (← Instr.loadAt t (.pointer (some ⟨b, o', none⟩))))) w.heap (by
                      rw [wpH_bind']
                      refine wpH_mono ?_ (fun _ _ hx => hx) _ _ (loadVar_spec (ch := false) (P := P) (X := fun _ _ => False) hld)
                      rintro u h' ⟨rfl, rfl⟩
                      exact ⟨rfl, rfl⟩) w.drawn
                  rcases this with ⟨nx, h', n', hrun, hn, rfl, rfl⟩ | ⟨_, _, _, _, hx⟩
                  · rw [hn rfl] at hrun; exact hrun
                  · exact hx.elim
                refine wpAnyG_first (C := fun w => alikeAt (mk B h n) w e) (R := fun w w' => alikeAt w w' e)
                  (fun w w' hR hC k hk => (hR k hk).trans (hC k hk)) ho (Region.noSelect_spec hsel) (hQ _ _) (fun w e _ _ k _ => rfl) hLi hLs f listed a _ hsub hap hi hy (fun k _ => rfl) ?_
                have := ih _ _ _ _ _ hk _ n (hr'.put o.dst v)
                have weak : ∀ (f : Nat) (listed : Array Bool) (a : Act) (w : World), wpAnyG P ops (liftQ B N (onlyN Q)) (keeps (e :: es)) f listed a w →
                    wpAnyG P ops (liftQ B N (onlyN Q)) (fun j w w' => keeps es j w w' ∧ (Lst.getD j false = true → alikeAt w w' e)) f listed a w := by
                  intro f
                  induction f with
                  | zero => exact fun _ _ _ h => h
                  | succ f ih => exact fun _ _ _ h => ⟨h.1, fun i hi => wpOp_mono (fun a' w' h' =>
                      ⟨⟨fun d hd => h'.1 d (List.mem_cons_of_mem _ hd), h'.1 e (by simp)⟩, ih _ _ _ h'.2⟩) (h.2 i hi)⟩
                exact weak _ _ _ _ this
              · exact H.elim
            · exact H.elim
          · refine wpAnyG_first (C := fun _ => True) (R := fun _ _ => True) (fun _ _ _ _ => trivial) ho (Region.noSelect_spec hsel) (hQ _ _) (fun w e _ _ k _ => rfl) hLi hLs f listed a _ hsub hap hi
              (.inr ⟨hw, rfl⟩) trivial ?_
            have := ih _ _ _ _ _ H _ n (hr'.put o.dst undef)
            have weak : ∀ (f : Nat) (listed : Array Bool) (a : Act) (w : World), wpAnyG P ops (liftQ B N (onlyN Q)) (keeps es) f listed a w →
                wpAnyG P ops (liftQ B N (onlyN Q)) (fun j w w' => keeps es j w w' ∧ (Lst.getD j false = true → True)) f listed a w := by
              intro f
              induction f with
              | zero => exact fun _ _ _ h => h
              | succ f ih => exact fun _ _ _ h => ⟨h.1, fun i hi => wpOp_mono (fun a' w' h' => ⟨⟨h'.1, fun _ => trivial⟩, ih _ _ _ h'.2⟩) (h.2 i hi)⟩
            exact weak _ _ _ _ this
      · refine ⟨fun h0 => absurd h0 hne, fun i hi => ?_⟩
        have hF := allP_spec H i hi
        unfold wpOp
        cases ho : ops[i]? with
        | none => rw [ho] at hF; exact hF.elim
        | some o =>
          rw [ho] at hF
          simp only at hF ⊢
          rcases gd_sound hF hr with ⟨hw, D', ρ', hr', hF⟩ | ⟨hw, D', ρ', hr', hF⟩
          · rw [if_pos hw]
            have h1 := OpW_sound hF a n hr'
            refine .inl ?_
            have h2 : o.wp P a (mk B h n) (liftK B N fun ρ' h' => kept i h h' es (porW P B N ops Q f (listed.setIfInBounds i true) es D' ρ' h')) (liftQ B N (onlyN Q)) := by
              unfold Oper.wp at h1 ⊢
              generalize (execOp a.eval o).run P (mk B h n) = r at h1 ⊢
              cases r with
              | ok nx w' =>
                cases nx <;> simp only [Oper.upon] at h1 ⊢ <;> exact h1
              | halt x w' =>
                cases x <;> simp only [Oper.upon] at h1 ⊢ <;> exact h1
            refine Oper.wp_mono ?_ h2
            rintro a' w' ⟨ρ'', h', n', hr'', rfl, hk⟩
            obtain ⟨hkeep, H'⟩ := kept_spec hk
            exact ⟨fun e he hT k hkn => hkeep e he hT k hkn, ih _ _ _ _ _ H' _ _ hr''⟩
          · rw [hw, if_neg (by simp)]
            exact ⟨fun e _ _ k _ => rfl, ih _ _ _ _ _ hF _ _ (hr'.put _ _)⟩
end
end Go.Eng
