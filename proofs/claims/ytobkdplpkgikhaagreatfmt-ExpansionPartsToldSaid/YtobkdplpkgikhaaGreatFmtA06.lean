import Derived.Test.YtobkdplpkgikhaaGreatFmtA05
/- Here stand lemmas and contracts, in the order in which they are used. -/
set_option linter.unusedVariables false
namespace Go.Eng
open Go
section
variable {P : Program} {ops : Array Oper} {Q : Exit → Act → World → Prop}

/-- An operation that yields v at every world of the class C, which it leaves as it is. -/
def YieldsC (P : Program) (ops : Array Oper) (C : World → Prop) (o : Oper) (v : Value) (a : Act) : Prop :=
  (Region.wanted o (yielded ops a.tmps) = true ∧ ∀ w, C w → (execOp a.eval o).run P w = .ok (.value v) w) ∨
  (Region.wanted o (yielded ops a.tmps) = false ∧ v = undef)
theorem YieldsC.wpOp {C : World → Prop} {i : Nat} {o : Oper} {v : Value} {a : Act} (hi : ops[i]? = some o) (hy : YieldsC P ops C o v a)
    {K : Act → World → Prop} {w : World} (hC : C w) (h : K (a.put o.dst v) w) : wpOp P ops Q i K a w := by
  unfold Go.wpOp
  simp only [hi]
  rcases hy with ⟨hw, hv⟩ | ⟨hw, rfl⟩
  · simp only [hw, if_true, Oper.wp, hv w hC, Oper.upon]; exact .inl h
  · simp only [hw, Bool.false_eq_true, if_false]; exact h
theorem YieldsC.of_same {C : World → Prop} {o : Oper} {v : Value} {a a' : Act} (hy : YieldsC P ops C o v a) (he : execOp a'.eval o = execOp a.eval o)
    (hw : Region.wanted o (yielded ops a'.tmps) = Region.wanted o (yielded ops a.tmps)) : YieldsC P ops C o v a' := by
  unfold YieldsC at *
  rw [he, hw]
  exact hy

theorem wpOp_putC {C : World → Prop} {j : Nat} {oi oj : Oper} {v : Value} (hj : ops[j]? = some oj) (hap : oi.apart ops oj = true)
    (hsi : ∀ cs b, oi.op ≠ .select cs b) (hsj : ∀ cs b, oj.op ≠ .select cs b)
    (hQ : ∀ c a w, Q (.panic c) (a.put oi.dst v) w → Q (.panic c) a w) {K : Act → World → Prop} {a : Act} {w : World}
    (hy : YieldsC P ops C oi v a) (h : wpOp P ops Q j K (a.put oi.dst v) w) :
    wpOp P ops Q j (fun a' w' => YieldsC P ops C oi v a' ∧ K (a'.put oi.dst v) w') a w := by
  obtain ⟨h1, h2, h3⟩ := Oper.apart_spec hap
  have keep : ∀ (a : Act), YieldsC P ops C oi v a → ∀ u, YieldsC P ops C oi v (a.put oj.dst u) := fun a hy u =>
    hy.of_same (execOp_put oi hsi a oj.dst u h3) (wanted_put oi a oj.dst u h3)
  have keepD : ∀ d, YieldsC P ops C oi v { a with defers := d :: a.defers } := fun d => hy.of_same rfl rfl
  unfold wpOp at *
  simp only [hj] at *
  rw [wanted_put oj a oi.dst v h1] at h
  split
  · rename_i hw
    simp only [hw, if_true] at h
    rcases h with h | ⟨hasks, hlets⟩
    case inr => exact .inr ⟨by unfold Oper.asks at *; rw [execOp_put oj hsj a oi.dst v h1] at hasks; exact hasks, hlets⟩
    refine .inl ?_
    unfold Oper.wp at *
    rw [execOp_put oj hsj a oi.dst v h1] at h
    generalize (execOp a.eval oj).run P w = r at *
    cases r with
    | ok n w' =>
      cases n <;> simp only [Oper.upon] at h ⊢
      case value u => exact ⟨keep a hy u, by rw [← Act.put_comm a v u h2]; exact h⟩
      case skip => exact ⟨keep a hy _, by rw [← Act.put_comm a v undef h2]; exact h⟩
      case defer d =>
        refine ⟨keep _ (keepD d) _, ?_⟩
        rw [← Act.put_comm _ v undef h2, ← Act.put_defers]
        exact h
      case enter f args =>
        refine Calls.mono h fun e w'' he => ?_
        cases e with
        | returned u => exact ⟨keep a hy u, by rw [← Act.put_comm a v u h2]; exact he⟩
        | panicked c => exact hQ _ _ _ he
        | outgrown => exact he
      case row row args => exact Rows.mono h fun u w'' he => ⟨keep a hy u, by rw [← Act.put_comm a v u h2]; exact he⟩
    | halt x w' =>
      cases x <;> simp only [Oper.upon] at h ⊢
      case panic u => exact hQ _ _ _ h
  · rename_i hw
    simp only [hw] at h
    exact ⟨keep a hy _, by rw [← Act.put_comm a v undef h2]; exact h⟩

/-- 'wpAny', each operation's post with a fact on the worlds ahead of it and behind it. -/
def wpAnyG (P : Program) (ops : Array Oper) (Q : Exit → Act → World → Prop) (G : Nat → World → World → Prop) : Nat → Array Bool → Act → World → Prop
  | 0, listed, a, w => Region.ready .any ops listed = [] ∧ Q .normal a w
  | fuel + 1, listed, a, w =>
    (Region.ready .any ops listed = [] → Q .normal a w) ∧
    ∀ i ∈ Region.ready .any ops listed, wpOp P ops Q i (fun a' w' => G i w w' ∧ wpAnyG P ops Q G fuel (listed.setIfInBounds i true) a' w') a w
theorem wpAny_of_G {G : Nat → World → World → Prop} : ∀ (fuel : Nat) (listed : Array Bool) (a : Act) (w : World), wpAnyG P ops Q G fuel listed a w → wpAny P .any ops Q fuel listed a w
  | 0, _, _, _, h => h
  | fuel + 1, _, _, _, h => ⟨h.1, fun i hi => wpOp_mono (fun a' w' h' => wpAny_of_G fuel _ a' w' h'.2) (h.2 i hi)⟩

theorem ready_sup {j : Nat} {listed Lst : Array Bool} (hs : ∀ k, listed.getD k false = true → Lst.getD k false = true)
    (hj : j ∈ Region.ready .any ops listed) (hn : Lst.getD j true = false) : j ∈ Region.ready .any ops Lst := by
  rw [mem_ready] at *
  obtain ⟨_, o, ho, hall⟩ := hj
  exact ⟨hn, o, ho, fun e he hb => hs _ (hall e he hb)⟩

theorem wpAnyG_first {C : World → Prop} {R : World → World → Prop} (hR : ∀ w w', R w w' → C w → C w') {G : Nat → World → World → Prop} {i : Nat} {oi : Oper} {v : Value} (hi : ops[i]? = some oi) (hsel : ∀ (j : Nat) (o : Oper) cs b, ops[j]? = some o → o.op ≠ .select cs b)
    (hQ : ∀ c a w, Q (.panic c) (a.put oi.dst v) w → Q (.panic c) a w) (hGi : ∀ w, G i w w)
    {Lst : Array Bool} (hLi : ∀ j, j ∈ Region.ready .any ops Lst → j = i) (hLs : Lst.size = ops.size) :
    ∀ (fuel : Nat) (listed : Array Bool) (a : Act) (w : World),
      (∀ k, listed.getD k false = true → Lst.getD k false = true) →
      (∀ j oj, ops[j]? = some oj → j ≠ i → listed.getD j true = false → Lst.getD j false = true → oi.apart ops oj = true) →
      i ∈ Region.ready .any ops listed → YieldsC P ops C oi v a → C w →
      wpAnyG P ops Q (fun j w w' => G j w w' ∧ (Lst.getD j false = true → R w w')) fuel (listed.setIfInBounds i true) (a.put oi.dst v) w →
      wpAnyG P ops Q G (fuel + 1) listed a w := by
  have weak : ∀ (fuel : Nat) (listed : Array Bool) (a : Act) (w : World),
      wpAnyG P ops Q (fun j w w' => G j w w' ∧ (Lst.getD j false = true → R w w')) fuel listed a w → wpAnyG P ops Q G fuel listed a w := by
    intro fuel
    induction fuel with
    | zero => exact fun _ _ _ h => h
    | succ fuel ih => exact fun _ _ _ h => ⟨h.1, fun i hi => wpOp_mono (fun a' w' h' => ⟨h'.1.1, ih _ a' w' h'.2⟩) (h.2 i hi)⟩
  intro fuel
  induction fuel with
  | zero =>
    intro listed a w _ _ hr hy hC H
    refine ⟨fun h => (by rw [h] at hr; cases hr), fun j hj => ?_⟩
    by_cases hji : j = i
    · subst hji; exact hy.wpOp hi hC ⟨hGi w, H⟩
    · have := ready_mono hj hji
      rw [H.1] at this
      cases this
  | succ fuel ih =>
    intro listed a w hsub hfree hr hy hC H
    refine ⟨fun h => (by rw [h] at hr; cases hr), fun j hj => ?_⟩
    by_cases hji : j = i
    · subst hji; exact hy.wpOp hi hC ⟨hGi w, weak _ _ _ _ H⟩
    · have h1 := H.2 j (ready_mono hj hji)
      obtain ⟨hjun, oj, hoj, hall⟩ := mem_ready.1 hj
      have hjs : j < ops.size := by
        rcases Nat.lt_or_ge j ops.size with h | h
        · exact h
        · rw [Array.getElem?_eq_none h] at hoj; cases hoj
      have hjT : Lst.getD j false = true := by
        cases hx : Lst.getD j false with
        | true => rfl
        | false =>
          have hx' : Lst.getD j true = false := by
            have hjl : j < Lst.size := by omega
            simp only [Array.getD_eq_getD_getElem?, Array.getElem?_eq_getElem hjl, Option.getD_some] at hx ⊢
            exact hx
          exact absurd (hLi j (ready_sup hsub hj hx')) hji
      have h2 := wpOp_putC hoj (hfree j oj hoj hji hjun hjT) (fun cs b => hsel i oi cs b hi) (fun cs b => hsel j oj cs b hoj) hQ hy h1
      have hfree' : ∀ k ok, ops[k]? = some ok → k ≠ i → (listed.setIfInBounds j true).getD k true = false → Lst.getD k false = true → oi.apart ops ok = true := fun k ok hk hki hun hT => by
        refine hfree k ok hk hki ?_ hT
        by_cases hjk : j = k
        · subst hjk; exact hjun
        · rw [getD_set_ne true hjk] at hun; exact hun
      have hsub' : ∀ k, (listed.setIfInBounds j true).getD k false = true → Lst.getD k false = true := fun k hk => by
        by_cases hjk : j = k
        · subst hjk; exact hjT
        · rw [getD_set_ne false hjk] at hk; exact hsub k hk
      refine wpOp_mono (fun a' w' h3 => ?_) h2
      obtain ⟨h3, ⟨hG, hCT⟩, h4⟩ := h3
      refine ⟨hG, ih (listed.setIfInBounds j true) a' w' hsub' hfree' (ready_mono hr (Ne.symm hji)) h3 (hR _ _ (hCT hjT) hC) ?_⟩
      rw [Array.setIfInBounds_comm _ _ hji]
      exact h4
end
end Go.Eng
namespace Go.Eng
open Go

def memN : List Nat → Nat → Bool
  | [], _ => false
  | x :: xs, y => bif Nat.beq x y then true else memN xs y
def eqB : Bool → Bool → Bool
  | true, b => b
  | false, true => false
  | false, false => true
theorem eqB_spec (a b : Bool) : eqB a b = (a == b) := by cases a <;> cases b <;> rfl

/-- The model's own text, run where it looks at no memory. -/
def pureRun {α : Type} (P : Program) : Sem α → Option α
  | .pure a => some a
  | .program k => pureRun P (k P)
  | .mark _ k => pureRun P k
  | _ => none
theorem pureRun_run {α : Type} {P : Program} : ∀ (s : Sem α) {a : α}, pureRun P s = some a → ∀ w, s.run P w = .ok a w := by
  intro s
  induction s with
  | pure b => intro a h w; obtain rfl := Option.some.inj h; rfl
  | program k ih => intro a h w; exact ih P h w
  | mark m k ih => intro a h w; exact ih h w
  | _ => intro a h; cases h

section
variable (P : Program) (N : Nat)

def isIntT (t : TypeId) : Bool := match P.underlying t with | some (.int _) => true | _ => false
def isFltT (t : TypeId) : Bool := match P.underlying t with | some (.float _) => true | _ => false
def isBoolT (t : TypeId) : Bool := match P.underlying t with | some .bool => true | _ => false
def cmpOp : BinOp → Bool
  | .eql | .neq | .lss | .leq | .gtr | .geq => true
  | _ => false
/-- Operations that look at no memory and do not draw. -/
def pureK (o : Oper) : Bool :=
  match o.op with
  | .move _ | .assign _ | .pick .. | .extract .. | .fieldAddr .. | .indexAddr .. | .slice .. | .nilCheck _ | .makeInterface .. | .build .. | .unOp .. | .field .. | .makeFunc .. => true
  | .binOp op t _ _ _ => isIntT P t || isBoolT P t || (isFltT P t && cmpOp op)
  | .convert s d _ => isIntT P s && (isIntT P d || isFltT P d)
  | .call c => match c.callee with | .builtin .len | .builtin .cap | .builtin .min | .builtin .max => true | _ => false
  | _ => false
def PW (o : Oper) (ρ : Env) (K : Value → Prop) : Prop :=
  let g := ρ.get N
  let gen : Prop := match pureRun P (execOp g o) with | some (.value v) => K v | _ => False
  match o.op with
  | .move x | .assign x => K (g x)
  | .pick c x y =>
    match g c, g x, g y with
    | .bool c, .bool p, .bool q => K (.bool (bif c then p else q))
    | .bool true, p, _ => K p
    | .bool false, _, q => K q
    | _, _, _ => False
  | .fieldAddr s x f =>
    match g x, P.underlying s with
    | .pointer p, some (.struct fs) =>
      (match fs[f]? with
      | some fd => bif Nat.blt 0 (P.cellsOf fd.type) then isP p fun b o' => K (.pointer (some ⟨b, o' + fd.offset, none⟩)) else False
      | none => False)
    | _, _ => False
  | .indexAddr t x i =>
    match P.underlying t, g x, g i with
    | some (.slice e), .slice p n _, .int _ i => bif (P.info? e).isSome then ixW p n i (P.cellsOf e) fun b o' => K (.pointer (some ⟨b, o', none⟩)) else False
    | some (.array n e), .pointer p, .int _ i => bif (P.info? e).isSome then ixW p n i (P.cellsOf e) fun b o' => K (.pointer (some ⟨b, o', none⟩)) else False
    | _, _, _ => False
  | .slice t x lo hi mx =>
    match P.underlying t, g x with
    | some (.slice e), .slice p n c => bif (P.info? e).isSome then
        slW n c (lo.map g) (hi.map g) (mx.map g) fun l h' m => K (.slice (slP p l m (P.cellsOf e)) (h' - l) (m - l)) else False
    | _, _ => False
  | .nilCheck x =>
    match g x with
    | .pointer p => isP p fun b o' => K (.pointer (some ⟨b, o', none⟩))
    | _ => gen
  | .binOp op t x y _ =>
    match g x, g y with
    | .int k a, .int k' b =>
      (match op with
      | .shl => shW .shl k a b K
      | .shr => shW .shr k a b K
      | op => bif decide (k = k') then intW op k a b K else False)
    | .float f a, .float f' b => bif decide (f = f') && cmpOp op then fltW op f a b K else False
    | _, _ => gen
  | .call c =>
    match c.callee with
    | .builtin .len =>
      (match (c.args.map g).toList, c.argTypes.toList with
      | [.slice _ n _], [t] => (match P.underlying t with | some (.slice _) => K (.int .i64 n) | _ => False)
      | _, _ => gen)
    | .builtin .cap =>
      (match (c.args.map g).toList, c.argTypes.toList with
      | [.slice _ _ n], [t] => (match P.underlying t with | some (.slice _) => K (.int .i64 n) | _ => False)
      | _, _ => gen)
    | .builtin .min => minW true (c.args.map g).toList K
    | .builtin .max => minW false (c.args.map g).toList K
    | _ => False
  | _ => gen
end

section
variable {P : Program} {N : Nat}
theorem run_of_wpH {α : Type} {s : Sem α} {v : α} (H : ∀ h, wpH false P s (fun x h' => h' = h ∧ x = v) (fun _ _ => False) h) : ∀ w, s.run P w = .ok v w := by
  intro w
  rcases wpH_run (B := w) s w.heap (H w.heap) w.drawn with ⟨x, h', n', hr, hn, rfl, rfl⟩ | ⟨x, h', n', hr, hx⟩
  · rw [hn rfl] at hr; exact hr
  · exact hx.elim
theorem run_of_val {o : Oper} {ρ : Env} {s : Sem Value} {v : Value} (he : execOp (ρ.get N) o = (do pure (Next.value (← s))))
    (H : ∀ h, wpH false P s (fun x h' => h' = h ∧ x = v) (fun _ _ => False) h) : ∀ w, (execOp (ρ.get N) o).run P w = .ok (.value v) w := by
  refine run_of_wpH fun h => ?_
  rw [he, wpH_bind']
  refine wpH_mono ?_ (fun _ _ hx => hx) _ _ (H h)
  rintro x h' ⟨rfl, rfl⟩
  exact ⟨rfl, rfl⟩

theorem bnd_firm {x : Option Value} {least most : Nat} {K : Nat → Prop} (H : bnd x least most K) : ∃ i, K i ∧ bnd x least most (fun j => j = i) := by
  unfold bnd at *
  split at H
  · exact ⟨_, H.2.2, H.1, H.2.1, rfl⟩
  · exact H.elim
  · exact ⟨_, H, rfl⟩
theorem bnd_mono {x : Option Value} {least most : Nat} {K K' : Nat → Prop} (hk : ∀ i, K i → K' i) (H : bnd x least most K) : bnd x least most K' := by
  unfold bnd at *
  split at H
  · exact ⟨H.1, H.2.1, hk _ H.2.2⟩
  · exact H
  · exact hk _ H
theorem slW_firm {n c : Nat} {lo hi mx : Option Value} {K : Nat → Nat → Nat → Prop} (H : slW n c lo hi mx K) :
    ∃ l h m, K l h m ∧ slW n c lo hi mx (fun l' h' m' => l' = l ∧ h' = h ∧ m' = m) := by
  unfold slW at *
  cases mx with
  | none =>
    obtain ⟨h, H, h1⟩ := bnd_firm H
    obtain ⟨l, H, h2⟩ := bnd_firm H
    exact ⟨l, h, c, H, bnd_mono (fun i e => by subst e; exact bnd_mono (fun j e => ⟨e, rfl, rfl⟩) h2) h1⟩
  | some mv =>
    obtain ⟨m, H, h0⟩ := bnd_firm H
    cases hi with
    | none => exact H.elim
    | some hv =>
      obtain ⟨h, H, h1⟩ := bnd_firm H
      obtain ⟨l, H, h2⟩ := bnd_firm H
      exact ⟨l, h, m, H, bnd_mono (fun k e => by subst e; exact bnd_mono (fun i e => by subst e; exact bnd_mono (fun j e => ⟨e, rfl, rfl⟩) h2) h1) h0⟩
theorem intW_firm {op : BinOp} {k : IntKind} {a b : Int} {K : Value → Prop} (H : intW op k a b K) : ∃ v, K v ∧ intW op k a b (fun x => x = v) := by
  cases op <;> simp only [intW] at * <;> first
    | exact H.elim
    | exact ⟨_, H, rfl⟩
    | exact ⟨_, H.2, H.1, rfl⟩
theorem shW_firm {op : BinOp} {k : IntKind} {a b : Int} {K : Value → Prop} (H : shW op k a b K) : ∃ v, K v ∧ shW op k a b (fun x => x = v) := by
  obtain ⟨h0, H⟩ := H
  cases op <;> simp only at H <;> first
    | exact H.elim
    | exact ⟨_, H, h0, rfl⟩
theorem fltW_firm {op : BinOp} {f : FloatKind} {a b : Nat} {K : Value → Prop} (hc : cmpOp op = true) (H : fltW op f a b K) :
    ∃ v, K v ∧ ∀ (t : TypeId) (X : Halt → Heap → Prop) (h : Heap), wpH false P (binOp op t (.float f a) (.float f b)) (fun x h' => h' = h ∧ x = v) X h := by
  cases op <;> simp only [cmpOp, Bool.false_eq_true] at hc <;> simp only [fltW] at H <;>
    exact ⟨_, H, fun t X h => by simp only [binOp, ne_eq, not_true_eq_false, if_false, Op.floatCmp]; exact ⟨rfl, rfl⟩⟩
theorem minW_firm {op : Bool} {l : List Value} {K : Value → Prop} (H : minW op l K) : ∃ v, K v ∧ minW op l (fun x => x = v) := by
  unfold minW at *
  split at H
  · obtain ⟨o, ho, H⟩ := H
    exact ⟨_, H, o, ho, rfl⟩
  · exact ⟨_, H, rfl⟩
  · exact H.elim
theorem gen_firm {o : Oper} {ρ : Env} {K : Value → Prop} (H : match pureRun P (execOp (ρ.get N) o) with | some (.value v) => K v | _ => False) :
    ∃ v, K v ∧ ∀ w, (execOp (ρ.get N) o).run P w = .ok (.value v) w := by
  split at H
  · rename_i v hv
    exact ⟨v, H, pureRun_run _ hv⟩
  · exact H.elim

theorem PW_firm {o : Oper} {ρ : Env} {K : Value → Prop} (H : PW P N o ρ K) : ∃ v, K v ∧ ∀ w, (execOp (ρ.get N) o).run P w = .ok (.value v) w := by
  obtain ⟨dst, op, ty, pos, after, guard⟩ := o
  unfold PW at H
  cases op <;> simp only at H
  case move x => exact ⟨_, H, fun w => rfl⟩
  case assign x => exact ⟨_, H, fun w => rfl⟩
  case pick c x y =>
    have he : execOp (ρ.get N) ⟨dst, .pick c x y, ty, pos, after, guard⟩ = (do pure (Next.value (if ← asBool (ρ.get N c) then ρ.get N x else ρ.get N y))) := rfl
    split at H
    · rename_i cb p q hc hx hy
      refine ⟨_, H, fun w => ?_⟩
      rw [he, hc, hx, hy]
      cases cb <;> rfl
    · first
        | (rename_i hc _; refine ⟨_, H, fun w => ?_⟩; rw [he, hc]; rfl)
        | (rename_i hc; refine ⟨_, H, fun w => ?_⟩; rw [he, hc]; rfl)
        | (rename_i hc _ _ _; refine ⟨_, H, fun w => ?_⟩; rw [he, hc]; rfl)
    · first
        | (rename_i hc _; refine ⟨_, H, fun w => ?_⟩; rw [he, hc]; rfl)
        | (rename_i hc; refine ⟨_, H, fun w => ?_⟩; rw [he, hc]; rfl)
        | (rename_i hc _ _ _; refine ⟨_, H, fun w => ?_⟩; rw [he, hc]; rfl)
    · exact H.elim
  case fieldAddr s x f =>
    split at H
    · rename_i p fs hx hu
      split at H
      · rename_i fd hf
        obtain ⟨hc, H1⟩ := cond_false_elim H
        obtain ⟨b, o, rfl, H2⟩ := H1
        refine ⟨_, H2, run_of_val rfl fun h => ?_⟩
        rw [hx]
        exact fieldAt_spec hu hf hc rfl
      · exact H.elim
    · exact H.elim
  case indexAddr t x i =>
    split at H
    · rename_i e p n c k i hu hx hi
      obtain ⟨hc, b, o, hp, h0, h1, H⟩ := cond_false_elim H
      refine ⟨_, H, run_of_val rfl fun h => ?_⟩
      rw [hx, hi]
      exact indexAt_slice_spec hu hc ⟨b, o, hp, h0, h1, rfl⟩
    · rename_i n e p k i hu hx hi
      obtain ⟨hc, b, o, hp, h0, h1, H⟩ := cond_false_elim H
      refine ⟨_, H, run_of_val rfl fun h => ?_⟩
      rw [hx, hi]
      exact indexAt_array_spec hu hc ⟨b, o, hp, h0, h1, rfl⟩
    · exact H.elim
  case slice t x lo hi mx =>
    split at H
    · rename_i e p n c hu hx
      obtain ⟨hc, H⟩ := cond_false_elim H
      obtain ⟨l, hh, m, H, hs⟩ := slW_firm H
      refine ⟨_, H, run_of_val rfl fun h => ?_⟩
      rw [hx]
      simp only [Instr.sliceAt, Instr.slice, wpH_bind', wpH_underlying hu]
      refine wpH_mono ?_ (fun _ _ hx => hx) _ _ (slW_spec (ch := false) (P := P) hs)
      rintro ⟨l', hh', m'⟩ h' ⟨rfl, rfl, rfl, rfl⟩
      simp only [wpH_sizeOf hc, wpH_pure]
      exact ⟨trivial, rfl⟩
    · exact H.elim
  case nilCheck x =>
    split at H
    · rename_i p hx
      obtain ⟨b, o, rfl, H⟩ := H
      refine ⟨_, H, fun w => ?_⟩
      simp only [execOp, hx]
      rfl
    · exact gen_firm H
  case binOp op t x y ty' =>
    split at H
    · rename_i k a k' b hx hy
      have hg : ∀ (h : Heap) (K : Unit → Heap → Prop) X, wpH false P (eqGuard op t x y (.int k a) (.int k' b)) K X h = K () h := by
        intro h K X; cases op <;> rfl
      have hcase : ∃ v, K v ∧ ∀ (X : Halt → Heap → Prop) h, wpH false P (binOp op t (.int k a) (.int k' b)) (fun x h' => h' = h ∧ x = v) X h := by
        cases op <;> first
          | (obtain ⟨v, hk, hv⟩ := shW_firm H; exact ⟨v, hk, fun X h => shW_spec (.inl rfl) t hv⟩)
          | (obtain ⟨v, hk, hv⟩ := shW_firm H; exact ⟨v, hk, fun X h => shW_spec (.inr rfl) t hv⟩)
          | (obtain ⟨hkk, H1⟩ := cond_false_elim H; clear H; obtain rfl := of_decide_eq_true hkk; obtain ⟨v, hk, hv⟩ := intW_firm H1; exact ⟨v, hk, fun X h => intW_spec (by decide) (by decide) t hv⟩)
      obtain ⟨v, hk, hv⟩ := hcase
      refine ⟨v, hk, run_of_val rfl fun h => ?_⟩
      rw [hx, hy, wpH_bind', hg]
      exact hv _ h
    · rename_i f a f' b hx hy
      obtain ⟨hkk, H1⟩ := cond_false_elim H
      clear H
      have H := H1
      clear H1
      simp only [Bool.and_eq_true, decide_eq_true_eq] at hkk
      obtain ⟨rfl, h1⟩ := hkk
      have hg : ∀ (h : Heap) (K : Unit → Heap → Prop) X, wpH false P (eqGuard op t x y (.float f a) (.float f b)) K X h = K () h := by
        intro h K X; cases op <;> rfl
      obtain ⟨v, hk, hv⟩ := fltW_firm (P := P) h1 H
      refine ⟨v, hk, run_of_val rfl fun h => ?_⟩
      rw [hx, hy, wpH_bind', hg]
      exact hv t _ h
    · exact gen_firm H
  case call c =>
    split at H
    · rename_i hc
      split at H
      · rename_i n q t hl ht
        split at H
        · rename_i e hu
          refine ⟨_, H, run_of_val (s := Builtin.len_ c.argTypes ty (c.args.map (ρ.get N))) ?_ fun h => ?_⟩
          · show (do let d ← resolve (ρ.get N) c ty; invoke d.target d.args) = _
            unfold resolve
            rw [hc]
            rfl
          · rw [toArr hl, toArr ht]
            exact builtin_len_spec (K := fun x => x = _) hu rfl ty
        · exact H.elim
      · exact gen_firm H
    · rename_i hc
      split at H
      · rename_i p n q t hl ht
        split at H
        · rename_i e hu
          refine ⟨_, H, run_of_val (s := Builtin.cap_ c.argTypes ty (c.args.map (ρ.get N))) ?_ fun h => ?_⟩
          · show (do let d ← resolve (ρ.get N) c ty; invoke d.target d.args) = _
            unfold resolve
            rw [hc]
            rfl
          · rw [toArr hl, toArr ht]
            exact builtin_cap_spec (K := fun x => x = _) hu rfl ty
        · exact H.elim
      · exact gen_firm H
    · rename_i hc
      obtain ⟨v, hk, hv⟩ := minW_firm H
      refine ⟨v, hk, run_of_val (s := Builtin.min_ c.argTypes ty (c.args.map (ρ.get N))) ?_ fun h => ?_⟩
      · show (do let d ← resolve (ρ.get N) c ty; invoke d.target d.args) = _
        unfold resolve
        rw [hc]
        rfl
      · have := minW_spec (ch := false) (P := P) (X := fun _ _ => False) (h := h) hv c.argTypes ty
        rw [show (c.args.map (ρ.get N)).toList.toArray = c.args.map (ρ.get N) from (toArr rfl).symm] at this
        exact this
    · rename_i hc
      obtain ⟨v, hk, hv⟩ := minW_firm H
      refine ⟨v, hk, run_of_val (s := Builtin.max_ c.argTypes ty (c.args.map (ρ.get N))) ?_ fun h => ?_⟩
      · show (do let d ← resolve (ρ.get N) c ty; invoke d.target d.args) = _
        unfold resolve
        rw [hc]
        rfl
      · have := minW_spec (ch := false) (P := P) (X := fun _ _ => False) (h := h) hv c.argTypes ty
        rw [show (c.args.map (ρ.get N)).toList.toArray = c.args.map (ρ.get N) from (toArr rfl).symm] at this
        exact this
    · exact H.elim
  all_goals exact gen_firm H
end
end Go.Eng
namespace Go.Eng
open Go

section
variable (P : Program) (B : World) (N : Nat)

/-- A guarded operation: its guard is decided once. -/
def gd (ops : Array Oper) (o : Oper) (D : List Nat) (ρ : Env) (ex sk : List Nat → Env → Prop) : Prop :=
  match o.guard with
  | none => ex D ρ
  | some (j, want) =>
    bif memN D j then (match ρ.yields N ops j with
      | some d => bif eqB d want then ex D ρ else sk D ρ
      | none => sk D ρ)
    else (match ρ.yields N ops j with
      | some b =>
          (b = true → bif want then ex (j :: D) (ρ.put ((ops[j]?).bind (·.dst)) (.bool true)) else sk (j :: D) (ρ.put ((ops[j]?).bind (·.dst)) (.bool true))) ∧
          (b = false → bif want then sk (j :: D) (ρ.put ((ops[j]?).bind (·.dst)) (.bool false)) else ex (j :: D) (ρ.put ((ops[j]?).bind (·.dst)) (.bool false)))
      | none => sk D ρ)

def seqW (ops : Array Oper) (Q : Post) : List Oper → List Nat → Env → Heap → Prop
  | [], _, ρ, h => Q .normal ρ h
  | o :: r, D, ρ, h => gd N ops o D ρ (fun D ρ => OpW P B N o ρ (fun ρ' h' => seqW ops Q r D ρ' h') Q h) (fun D ρ => seqW ops Q r D (ρ.put o.dst undef) h)

/-- All that can be carried out while operation i waits. -/
def spread (ops : Array Oper) (i : Nat) : Nat → Array Bool → Array Bool
  | 0, listed => listed
  | f + 1, listed =>
    match (Region.ready .any ops listed).find? (fun j => !(Nat.beq j i)) with
    | some j => spread ops i f (listed.setIfInBounds j true)
    | none => listed
def spreadOk (ops : Array Oper) (i : Nat) (oi : Oper) (listed Lst : Array Bool) : Bool :=
  Nat.beq Lst.size ops.size && (Region.ready .any ops Lst).all (fun j => Nat.beq j i) &&
  (List.range ops.size).all (fun j => Nat.beq j i || listed.getD j true || !(Lst.getD j false) || (match ops[j]? with | some oj => oi.apart ops oj | none => true)) &&
  (List.range listed.size).all (fun k => !(listed.getD k false) || Lst.getD k false)
inductive Pick where
  | pure (i : Nat) (Lst : Array Bool)
  | load (i : Nat) (Lst : Array Bool)
def pickOne (ops : Array Oper) (listed : Array Bool) (i : Nat) : Option Pick :=
  match ops[i]? with
  | none => none
  | some o =>
    bif pureK P o then (let Lst := spread ops i ops.size listed; bif spreadOk ops i o listed Lst then some (.pure i Lst) else none)
    else match o.op with
      | .load .. => (let Lst := spread ops i ops.size listed; bif spreadOk ops i o listed Lst then some (.load i Lst) else none)
      | _ => none
def pick (ops : Array Oper) (listed : Array Bool) : List Nat → Option Pick
  | [] => none
  | i :: r => match pickOne P ops listed i with
    | some p => some p
    | none => pick ops listed r

/-- Cells that were read early: who may still be carried out ahead of that read; block, offset, how many. -/
structure Early where
  T : Array Bool
  b : Nat
  o : Nat
  n : Nat
def sameCells (h h' : Heap) (b o : Nat) : Nat → Prop
  | 0 => True
  | 1 => cell? h' ⟨b, o, none⟩ = cell? h ⟨b, o, none⟩
  | n + 1 => sameCells h h' b o n ∧ cell? h' ⟨b, o + n, none⟩ = cell? h ⟨b, o + n, none⟩
def kept (j : Nat) (h h' : Heap) : List Early → Prop → Prop
  | [], K => K
  | e :: es, K => bif e.T.getD j false then sameCells h h' e.b e.o e.n ∧ kept j h h' es K else kept j h h' es K

def allP (F : Nat → Prop) : List Nat → Prop
  | [] => True
  | [i] => F i
  | i :: r => F i ∧ allP F r
/-- How many cells a load of type t reads. -/
def ldN (t : TypeId) : Nat := match P.underlying t with | some d => bif isA d then P.cellsOf t else 1 | none => 0
def noQ : Post := fun _ _ _ => False

def porW (ops : Array Oper) (Q : Post) : Nat → Array Bool → List Early → List Nat → Env → Heap → Prop
  | 0, listed, _, _, ρ, h => bif (Region.ready .any ops listed).isEmpty then Q .normal ρ h else False
  | f + 1, listed, es, D, ρ, h =>
    match Region.ready .any ops listed with
    | [] => Q .normal ρ h
    | rs => match pick P ops listed rs with
      | some (.pure i _) => (match ops[i]? with
        | some o => gd N ops o D ρ (fun D ρ => PW P N o ρ fun v => porW ops Q f (listed.setIfInBounds i true) es D (ρ.put o.dst v) h)
            (fun D ρ => porW ops Q f (listed.setIfInBounds i true) es D (ρ.put o.dst undef) h)
        | none => False)
      | some (.load i Lst) => (match ops[i]? with
        | some o => gd N ops o D ρ (fun D ρ => match o.op with
              | .load t x => (match ρ.get N x with
                | .pointer p => isP p fun b o' => ldV P t h b o' fun v => porW ops Q f (listed.setIfInBounds i true) (⟨Lst, b, o', ldN P t⟩ :: es) D (ρ.put o.dst v) h
                | _ => False)
              | _ => False)
            (fun D ρ => porW ops Q f (listed.setIfInBounds i true) es D (ρ.put o.dst undef) h)
        | none => False)
      | none => allP (fun i => match ops[i]? with
            | some o => gd N ops o D ρ (fun D ρ => OpW P B N o ρ (fun ρ' h' => kept i h h' es (porW ops Q f (listed.setIfInBounds i true) es D ρ' h')) noQ h)
                (fun D ρ => porW ops Q f (listed.setIfInBounds i true) es D (ρ.put o.dst undef) h)
            | none => False) rs
end
end Go.Eng
