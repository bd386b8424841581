import Derived.Calls
import Derived.Orders
import Derived.Still
import Derived.Defers
/- Here stand lemmas: the calculus over heaps and environments that the walks of this claim use. -/
set_option linter.unusedVariables false
namespace Go.Eng
open Go

abbrev Heap := Array Obj
/-- The world with another heap and another number of draws. -/
def mk (B : World) (h : Heap) (n : Nat) : World := { B with heap := h, drawn := n }
def cell? (h : Heap) (a : Addr) : Option Value :=
  match h[a.block]? with
  | some (.cells c _ _) => if a.spot.isSome then none else c[a.off]?
  | _ => none
def shape? (h : Heap) (r : Nat) : Option (TypeId × Nat) :=
  match h[r]? with
  | some (.cells c elem _) => some (elem, c.size)
  | _ => none
def frozen? (h : Heap) (a : Addr) : Bool :=
  match h[a.block]? with
  | some (.cells _ _ (lo, hi)) => lo ≤ a.off && a.off < hi
  | _ => false
def setCell (h : Heap) (a : Addr) (v : Value) : Heap :=
  h.modify a.block fun
      | .cells c elem frozen => .cells (if a.spot.isSome then c else c.setIfInBounds a.off v) elem frozen
      | o => o

/-- May a value stand in one cell? -/
def oneCell : Value → Bool
  | .agg _ | .tuple _ => false
  | _ => true

/-- What a run of the model's own text needs, over heaps. -/
def wpH {α : Type} (ch : Bool) (P : Program) : Sem α → (α → Heap → Prop) → (Halt → Heap → Prop) → Heap → Prop
  | .pure a, K, _, h => K a h
  | .load _ ad k, K, X, h => ∃ v, cell? h ad = some v ∧ wpH ch P (k v) K X h
  | .store _ ad v k, K, X, h => oneCell v = true ∧ (∃ u, cell? h ad = some u) ∧ frozen? h ad = false ∧ wpH ch P k K X (setCell h ad v)
  | .new o k, K, X, h => wpH ch P (k h.size) K X (h.push o)
  | .shape r k, K, X, h => wpH ch P (k (shape? h r)) K X h
  | .freeze .., _, _, _ => False
  | .frozen a k, K, X, h => wpH ch P (k (frozen? h a)) K X h
  | .getObj .., _, _, _ => False
  | .setObj .., _, _, _ => False
  | .choose q k, K, X, h => ch = true ∧ q.forced = false ∧ ∀ t, wpH ch P (k (q.cut t)) K X h
  | .sys .., _, _, _ => False
  | .program k, K, X, h => wpH ch P (k P) K X h
  | .mark _ k, K, X, h => wpH ch P k K X h
  | .halt x, _, X, h => X x h

theorem wpH_run {α : Type} {ch : Bool} {P : Program} {B : World} {K : α → Heap → Prop} {X : Halt → Heap → Prop} (s : Sem α) :
    ∀ (h : Heap), wpH ch P s K X h → ∀ n,
      (∃ v h' n', s.run P (mk B h n) = .ok v (mk B h' n') ∧ (ch = false → n' = n) ∧ K v h') ∨ (∃ x h' n', s.run P (mk B h n) = .halt x (mk B h' n') ∧ X x h') := by
  induction s with
  | pure a => intro h H n; exact .inl ⟨a, h, n, rfl, fun _ => rfl, H⟩
  | load m ad k ih =>
    intro h H n
    obtain ⟨v, hv, H⟩ := H
    have e : (mk B h n).cell? ad = some v := hv
    simp only [Sem.run, e]
    exact ih v h H n
  | store m ad v k ih =>
    intro h H n
    obtain ⟨h1, ⟨u, hu⟩, hf, H⟩ := H
    have e : (mk B h n).cell? ad = some u := hu
    have ef : (mk B h n).frozen? ad = false := hf
    have es : (mk B h n).setCell ad v = mk B (setCell h ad v) n := rfl
    cases v <;> first | (cases h1; done) | (simp only [Sem.run, e, ef, es]; exact ih _ H n)
  | new o k ih =>
    intro h H n
    simp only [Sem.run]
    exact ih h.size (h.push o) H n
  | shape r k ih =>
    intro h H n
    simp only [Sem.run]
    exact ih (shape? h r) h H n
  | freeze a n k ih => intro h H; exact H.elim
  | frozen a k ih =>
    intro h H n
    simp only [Sem.run]
    exact ih (frozen? h a) h H n
  | getObj r k ih => intro h H; exact H.elim
  | setObj r o k ih => intro h H; exact H.elim
  | choose q k ih =>
    intro h H n
    obtain ⟨hc, hq, H⟩ := H
    simp only [Sem.run, hq, Bool.false_eq_true, if_false]
    rcases ih _ h (H (B.tape n q)) (n + 1) with ⟨v, h', n', h1, _, h2⟩ | h
    · exact .inl ⟨v, h', n', h1, (fun h0 => by rw [hc] at h0; cases h0), h2⟩
    · exact .inr h
  | sys c k ih => intro h H; exact H.elim
  | program k ih =>
    intro h H n
    simp only [Sem.run]
    exact ih P h H n
  | mark m k ih =>
    intro h H n
    simp only [Sem.run]
    exact ih h H n
  | halt x => intro h H n; exact .inr ⟨x, h, n, rfl, H⟩

theorem wpH_bind {α β : Type} {ch : Bool} {P : Program} {K : β → Heap → Prop} {X : Halt → Heap → Prop} (s : Sem α) (f : α → Sem β) :
    ∀ h, wpH ch P (s.bind f) K X h = wpH ch P s (fun a h' => wpH ch P (f a) K X h') X h := by
  induction s with
  | load m ad k ih => intro h; simp only [Sem.bind, wpH, ih]
  | choose q k ih => intro h; simp only [Sem.bind, wpH, ih]
  | _ => intro h; first | rfl | (rename_i ih; simp only [Sem.bind, wpH, ih]) 

theorem wpH_mono {α : Type} {ch : Bool} {P : Program} {K K' : α → Heap → Prop} {X X' : Halt → Heap → Prop} (hK : ∀ a h, K a h → K' a h) (hX : ∀ x h, X x h → X' x h) (s : Sem α) :
    ∀ h, wpH ch P s K X h → wpH ch P s K' X' h := by
  induction s with
  | pure a => exact fun h H => hK _ _ H
  | load m ad k ih => exact fun h ⟨v, hv, H⟩ => ⟨v, hv, ih v h H⟩
  | store m ad v k ih => exact fun h ⟨h1, h2, h3, H⟩ => ⟨h1, h2, h3, ih _ H⟩
  | new o k ih => exact fun h H => ih _ _ H
  | shape r k ih => exact fun h H => ih _ _ H
  | frozen a k ih => exact fun h H => ih _ _ H
  | choose q k ih => exact fun h ⟨h0, h1, H⟩ => ⟨h0, h1, fun t => ih _ _ (H t)⟩
  | program k ih => exact fun h H => ih _ _ H
  | mark m k ih => exact fun h H => ih _ H
  | halt x => exact fun h H => hX _ _ H
  | _ => exact fun h H => H.elim
end Go.Eng
namespace Go.Eng
open Go

structure Env where
  t : Nat → Value
  ds : List Deferred

def Env.put (ρ : Env) (dst : Option Nat) (v : Value) : Env :=
  match dst with
  | some d => { t := fun i => bif Nat.beq i d then v else ρ.t i, ds := ρ.ds }
  | none => ρ
def Env.get (N : Nat) (ρ : Env) : Operand → Value
  | .tmp i => bif Nat.blt i N then ρ.t i else undef
  | .const v => v
  | .global g => .pointer (some ⟨g, 0, none⟩)
  | .func f => .func (.func f) #[] #[]
structure Rel (N : Nat) (a : Act) (ρ : Env) : Prop where
  size : a.tmps.size = N
  at_ : ∀ i, i < N → a.tmps.getD i undef = ρ.t i
  defers : a.defers = ρ.ds

theorem Rel.eval {N : Nat} {a : Act} {ρ : Env} (h : Rel N a ρ) : a.eval = ρ.get N := by
  funext x
  cases x with
  | tmp i =>
    simp only [Act.eval, Env.get]
    by_cases hi : i < N
    · rw [h.at_ i hi, show Nat.blt i N = true from by simpa [Nat.blt_eq] using hi]; rfl
    · rw [show Nat.blt i N = false from by simpa [← Bool.not_eq_true, Nat.blt_eq] using hi]
      have : a.tmps.size ≤ i := by rw [h.size]; exact Nat.le_of_not_lt hi
      simp [Array.getElem?_eq_none this]
  | _ => rfl
theorem Rel.put {N : Nat} {a : Act} {ρ : Env} (h : Rel N a ρ) (dst : Option Nat) (v : Value) : Rel N (a.put dst v) (ρ.put dst v) := by
  cases dst with
  | none => exact h
  | some d =>
    refine ⟨by simp [Act.put, h.size], fun i hi => ?_, h.defers⟩
    simp only [Act.put, Env.put]
    by_cases hid : i = d
    · subst hid
      have hs : i < a.tmps.size := by rw [h.size]; exact hi
      simp [hs]
    · have hne : d ≠ i := fun e => hid e.symm
      rw [show Nat.beq i d = false from by simpa [← Bool.not_eq_true, Nat.beq_eq] using hid, cond_false, ← h.at_ i hi]
      simp [Array.getElem?_setIfInBounds_ne hne]
theorem Rel.defer {N : Nat} {a : Act} {ρ : Env} (h : Rel N a ρ) (d : Deferred) : Rel N { a with defers := d :: a.defers } { ρ with ds := d :: ρ.ds } :=
  ⟨h.size, h.at_, by simp [h.defers]⟩

def Env.yields (N : Nat) (ρ : Env) (ops : Array Oper) (j : Nat) : Option Bool :=
  match (ops[j]?).bind (·.dst) with
  | some d => match (bif Nat.blt d N then ρ.t d else undef) with
    | .bool b => some b
    | _ => none
  | none => none
theorem Rel.yields {N : Nat} {a : Act} {ρ : Env} (h : Rel N a ρ) (ops : Array Oper) : yielded ops a.tmps = ρ.yields N ops := by
  funext j
  unfold yielded Env.yields
  cases hd : (ops[j]?).bind (·.dst) with
  | none => simp
  | some d =>
    simp only [Option.bind_some]
    by_cases hi : d < N
    · have hs : d < a.tmps.size := by rw [h.size]; exact hi
      have := h.at_ d hi
      rw [show Nat.blt d N = true from by simpa [Nat.blt_eq] using hi, cond_true, ← this]
      simp only [Array.getElem?_eq_getElem hs, Array.getD_eq_getD_getElem?, Option.getD_some]
      cases a.tmps[d] <;> rfl
    · rw [show Nat.blt d N = false from by simpa [← Bool.not_eq_true, Nat.blt_eq] using hi, cond_false]
      have : a.tmps.size ≤ d := by rw [h.size]; exact Nat.le_of_not_lt hi
      simp [Array.getElem?_eq_none this, undef]

/-- What a call must come to, whatever has been drawn: by the function's number. -/
def Fn (P : Program) (B : World) (f : FuncId) (args : Array Value) (R : Ending → Heap → Prop) (h : Heap) : Prop :=
  ∀ n, Calls P f args (mk B h n) (fun e w' => ∃ h' n', w' = mk B h' n' ∧ R e h')
theorem Fn.mono {P : Program} {B : World} {f : FuncId} {args : Array Value} {R R' : Ending → Heap → Prop} {h : Heap} (H : Fn P B f args R h)
    (hr : ∀ e h', R e h' → R' e h') : Fn P B f args R' h :=
  fun n => (H n).mono fun _ _ ⟨h', n', hw, hR⟩ => ⟨h', n', hw, hr _ _ hR⟩
/-- A call as the text makes it: a function with a body is entered, one without is answered by the model. -/
def Ent (P : Program) (B : World) (f : FuncId) (args : Array Value) (R : Ending → Heap → Prop) (h : Heap) : Prop :=
  (∃ g, (∀ w, (callFunc f args).run P w = .ok (.enter g args) w) ∧ Fn P B g args R h) ∨
  ∀ n, ∃ v h' n', (callFunc f args).run P (mk B h n) = .ok (.value v) (mk B h' n') ∧ R (.returned v) h'
theorem Ent.mono {P : Program} {B : World} {f : FuncId} {args : Array Value} {R R' : Ending → Heap → Prop} {h : Heap} (H : Ent P B f args R h)
    (hr : ∀ e h', R e h' → R' e h') : Ent P B f args R' h := by
  rcases H with ⟨g, h1, h2⟩ | H
  · exact .inl ⟨g, h1, h2.mono hr⟩
  · exact .inr fun n => let ⟨v, h', n', h1, h2⟩ := H n; ⟨v, h', n', h1, hr _ _ h2⟩
theorem Ent.of_run {P : Program} {B : World} {f : FuncId} {args : Array Value} {R : Ending → Heap → Prop} {h : Heap} {v : Value}
    (hrun : ∀ w, (callFunc f args).run P w = .ok (.value v) w) (H : R (.returned v) h) : Ent P B f args R h :=
  .inr fun n => ⟨v, h, n, hrun _, H⟩
theorem Ent.of_fn {P : Program} {B : World} {f : FuncId} {fn : Func} {args : Array Value} {R : Ending → Heap → Prop} {h : Heap} (hf : P.funcs[f]? = some fn)
    (hn : (fn.name == "runtime.NumGoroutine") = false) (hb : fn.body.isNone = false) (H : Fn P B f args R h) : Ent P B f args R h := by
  refine .inl ⟨f, fun w => ?_, H⟩
  show Sem.run P (match P.funcs[f]? with
    | none => stuck "call: no such function"
    | some fn => _) w = _
  rw [hf]
  simp only [hn, hb, Bool.false_eq_true, if_false]
  rfl

def Post := Exit → Env → Heap → Prop
section
variable (P : Program) (B : World) (N : Nat)

/-- The posts of the model's own calculus that stand for those over environments. -/
def liftK (K : Env → Heap → Prop) : Act → World → Prop := fun a w => ∃ ρ h n, Rel N a ρ ∧ w = mk B h n ∧ K ρ h
def liftQ (Q : Post) : Exit → Act → World → Prop := fun e a w => ∃ ρ h n, Rel N a ρ ∧ w = mk B h n ∧ Q e ρ h

/-- What an operation must come to: its meaning. -/
def OpS (o : Oper) (ρ : Env) (K : Env → Heap → Prop) (Q : Post) (h : Heap) : Prop :=
  ∀ a n, Rel N a ρ → o.wp P a (mk B h n) (liftK B N K) (liftQ B N Q)

def nextK (o : Oper) (ρ : Env) (K : Env → Heap → Prop) (Q : Post) : Next → Heap → Prop
  | .value v, h' => K (ρ.put o.dst v) h'
  | .skip, h' => K (ρ.put o.dst undef) h'
  | .defer d, h' => K (Env.put { ρ with ds := d :: ρ.ds } o.dst undef) h'
  | .enter f args, h' => Fn P B f args (fun e h'' => match e with
      | .returned v => K (ρ.put o.dst v) h''
      | .panicked ch => Q (.panic ch) ρ h''
      | .outgrown => False) h'
  | _, _ => False
def haltK (ρ : Env) (Q : Post) : Halt → Heap → Prop
  | .panic v, h' => Q (.panic [{ v, recovered := false }]) ρ h'
  | _, _ => False

theorem OpS_of_wpH {o : Oper} {ρ : Env} {K : Env → Heap → Prop} {Q : Post} {h : Heap}
    (H : wpH true P (execOp (ρ.get N) o) (nextK P B o ρ K Q) (haltK ρ Q) h) : OpS P B N o ρ K Q h := by
  intro a n hr
  unfold Oper.wp
  rw [hr.eval]
  rcases wpH_run (B := B) _ _ H n with ⟨nx, h', n', hrun, _, hk⟩ | ⟨x, h', n', hrun, hk⟩
  · rw [hrun]
    cases nx <;> simp only [nextK] at hk <;> simp only [Oper.upon] <;> first
      | exact hk.elim
      | exact ⟨_, _, _, hr.put _ _, rfl, hk⟩
      | exact ⟨_, _, _, (hr.defer _).put _ _, rfl, hk⟩
      | skip
    refine (hk n').mono ?_
    rintro e w' ⟨h'', n'', rfl, he⟩
    cases e with
    | returned v => exact ⟨_, _, _, hr.put _ _, rfl, he⟩
    | panicked ch => exact ⟨_, _, _, hr, rfl, he⟩
    | outgrown => exact he.elim
  · rw [hrun]
    cases x <;> simp only [haltK] at hk <;> simp only [Oper.upon] <;> first
      | exact hk.elim
      | exact ⟨_, _, _, hr, rfl, hk⟩
end
end Go.Eng
namespace Go.Eng
open Go

/-- One cell, read as its type says. -/
def ldD (d : TypeDesc) (h : Heap) (b o : Nat) (K : Value → Prop) : Prop :=
  match d with
  | .int k => ∃ n, cell? h ⟨b, o, none⟩ = some (.int k n) ∧ K (.int k n)
  | .bool => ∃ x, cell? h ⟨b, o, none⟩ = some (.bool x) ∧ K (.bool x)
  | .float k => ∃ n, cell? h ⟨b, o, none⟩ = some (.float k n) ∧ K (.float k n)
  | .pointer _ => ∃ p, cell? h ⟨b, o, none⟩ = some (.pointer p) ∧ K (.pointer p)
  | .slice _ => ∃ p n c, cell? h ⟨b, o, none⟩ = some (.slice p n c) ∧ K (.slice p n c)
  | .string => ∃ s, cell? h ⟨b, o, none⟩ = some (.string s) ∧ K (.string s)
  | _ => ∃ v, cell? h ⟨b, o, none⟩ = some v ∧ K v
theorem ldD_spec {d : TypeDesc} {h : Heap} {b o : Nat} {K : Value → Prop} (H : ldD d h b o K) : ∃ v, cell? h ⟨b, o, none⟩ = some v ∧ K v := by
  unfold ldD at H
  split at H
  case h_5 => obtain ⟨p, n, c, h1, h2⟩ := H; exact ⟨_, h1, h2⟩
  all_goals obtain ⟨n, h1, h2⟩ := H; exact ⟨_, h1, h2⟩

/-- Some value of a type. -/
def exD (d : TypeDesc) (K : Value → Prop) : Prop :=
  match d with
  | .int k => ∃ n, K (.int k n)
  | .bool => ∃ x, K (.bool x)
  | .float k => ∃ n, K (.float k n)
  | .pointer _ => ∃ p, K (.pointer p)
  | .slice _ => ∃ p n c, K (.slice p n c)
  | .string => ∃ s, K (.string s)
  | _ => ∃ v, K v
theorem exD_spec {d : TypeDesc} {K : Value → Prop} (H : exD d K) : ∃ v, K v := by
  unfold exD at H
  split at H
  case h_5 => obtain ⟨p, n, c, h⟩ := H; exact ⟨_, h⟩
  all_goals obtain ⟨n, h⟩ := H; exact ⟨_, h⟩

/-- The cells' types of a type, flat. -/
def flat (P : Program) : Nat → TypeId → List TypeDesc
  | 0, _ => []
  | f + 1, t => match P.underlying t with
    | some (.struct fs) => fs.toList.flatMap fun x => flat P f x.type
    | some (.array n e) => (List.replicate n (flat P f e)).flatten
    | some d => [d]
    | none => []

def ldL (h : Heap) (b : Nat) : List TypeDesc → Nat → Array Value → (Value → Prop) → Prop
  | [], _, acc, K => K (.agg acc)
  | d :: ds, o, acc, K => ldD d h b o fun v => ldL h b ds (o + 1) (acc.push v) K
def exL : List TypeDesc → Array Value → (Array Value → Prop) → Prop
  | [], acc, K => K acc
  | d :: ds, acc, K => exD d fun v => exL ds (acc.push v) K
theorem exL_spec : ∀ {l : List TypeDesc} {acc : Array Value} {K : Array Value → Prop}, exL l acc K → ∃ a, K a
  | [], _, _, H => ⟨_, H⟩
  | _ :: _, _, _, H => let ⟨_, H⟩ := exD_spec H; exL_spec H

def isA : TypeDesc → Bool
  | .struct _ | .array .. => true
  | _ => false
/-- A load of a variable of type t. -/
def ldV (P : Program) (t : TypeId) (h : Heap) (b o : Nat) (K : Value → Prop) : Prop :=
  match P.underlying t with
  | some d => bif isA d then
      (let l := flat P 8 t; bif Nat.beq l.length (P.cellsOf t) && (P.info? t).isSome then ldL h b l o #[] K else False)
    else ldD d h b o K
  | none => False
/-- Some value of type t. -/
def exV (P : Program) (t : TypeId) (K : Value → Prop) : Prop :=
  match P.underlying t with
  | some d => bif isA d then exL (flat P 8 t) #[] (fun a => K (.agg a)) else exD d K
  | none => ∃ v, K v
theorem exV_spec {P : Program} {t : TypeId} {K : Value → Prop} (H : exV P t K) : ∃ v, K v := by
  unfold exV at H
  split at H
  · rename_i d _
    cases hd : isA d <;> simp only [hd, cond_true, cond_false] at H
    · exact exD_spec H
    · obtain ⟨a, h⟩ := exL_spec H; exact ⟨_, h⟩
  · exact H
def exT (P : Program) : List TypeId → Array Value → (Array Value → Prop) → Prop
  | [], acc, K => K acc
  | t :: ts, acc, K => exV P t fun v => exT P ts (acc.push v) K
theorem exT_spec {P : Program} : ∀ {l : List TypeId} {acc : Array Value} {K : Array Value → Prop}, exT P l acc K → ∃ a, K a
  | [], _, _, H => ⟨_, H⟩
  | _ :: _, _, _, H => let ⟨_, H⟩ := exV_spec H; exT_spec H
/-- A call's answer, taken as its type t says. -/
def caV (P : Program) (t : TypeId) (v : Value) (K : Value → Prop) : Prop :=
  match P.underlying t with
  | some (.tuple ts) => exT P ts.toList #[] fun a => v = .tuple a ∧ K (.tuple a)
  | _ => exV P t fun x => v = x ∧ K x
theorem caV_spec {P : Program} {t : TypeId} {v : Value} {K : Value → Prop} (H : caV P t v K) : K v := by
  unfold caV at H
  split at H
  · obtain ⟨a, rfl, h⟩ := exT_spec H; exact h
  · obtain ⟨a, rfl, h⟩ := exV_spec H; exact h

def stC (h : Heap) (b o : Nat) (v : Value) (K : Heap → Prop) : Prop :=
  oneCell v = true ∧ (∃ u, cell? h ⟨b, o, none⟩ = some u) ∧ frozen? h ⟨b, o, none⟩ = false ∧ K (setCell h ⟨b, o, none⟩ v)
def stL (b : Nat) : List Value → Nat → Heap → (Heap → Prop) → Prop
  | [], _, h, K => K h
  | v :: vs, o, h, K => stC h b o v fun h' => stL b vs (o + 1) h' K

/-- The bounds of a slice expression. -/
def bnd (x : Option Value) (least most : Nat) (K : Nat → Prop) : Prop :=
  match x with
  | some (.int _ i) => 0 ≤ i ∧ i ≤ (most : Int) ∧ K i.toNat
  | some _ => False
  | none => K least

theorem add_addr (b o i : Nat) : (⟨b, o, none⟩ : Addr).add i = ⟨b, o + i, none⟩ := by
  unfold Addr.add
  split
  · rename_i h; subst h; rfl
  · rfl

section
variable {ch : Bool} {P : Program}
theorem wpH_pure {α : Type} {K : α → Heap → Prop} {X : Halt → Heap → Prop} (a : α) (h : Heap) : wpH ch P (pure a) K X h = K a h := rfl
theorem wpH_bind' {α β : Type} {K : β → Heap → Prop} {X : Halt → Heap → Prop} (s : Sem α) (f : α → Sem β) (h : Heap) :
    wpH ch P (s >>= f) K X h = wpH ch P s (fun a h' => wpH ch P (f a) K X h') X h := wpH_bind s f h
theorem wpH_load {K : Value → Heap → Prop} {X : Halt → Heap → Prop} (a : Addr) (m : Mode) (h : Heap) :
    wpH ch P (load a m) K X h = ∃ v, cell? h a = some v ∧ K v h := rfl
theorem wpH_store {K : Unit → Heap → Prop} {X : Halt → Heap → Prop} (a : Addr) (v : Value) (m : Mode) (h : Heap) :
    wpH ch P (store a v m) K X h = (oneCell v = true ∧ (∃ u, cell? h a = some u) ∧ frozen? h a = false ∧ K () (setCell h a v)) := rfl
theorem wpH_underlying {K : TypeDesc → Heap → Prop} {X : Halt → Heap → Prop} {t : TypeId} {d : TypeDesc} (hd : P.underlying t = some d) (h : Heap) :
    wpH ch P (underlying t) K X h = K d h := by
  simp [underlying, wpH_bind', program, wpH, hd, wpH_pure]
theorem wpH_sizeOf {K : Nat → Heap → Prop} {X : Halt → Heap → Prop} {t : TypeId} (hi : (P.info? t).isSome = true) (h : Heap) :
    wpH ch P (sizeOf t) K X h = K (P.cellsOf t) h := by
  obtain ⟨i, hi⟩ := Option.isSome_iff_exists.1 hi
  simp [sizeOf, typeInfo, wpH_bind', program, wpH, hi, wpH_pure, Program.cellsOf]
theorem info_of_underlying {t : TypeId} {d : TypeDesc} (h : P.underlying t = some d) : (P.info? t).isSome = true := by
  unfold Program.underlying at h
  cases hi : P.info? t <;> simp_all

theorem loadCells_spec (b : Nat) {X : Halt → Heap → Prop} (h : Heap) : ∀ (l : List TypeDesc) (o i : Nat) (acc : Array Value) (K : Value → Prop),
    ldL h b l (o + i) acc K → wpH ch P (loadCellsFrom ⟨b, o, none⟩ i l.length acc) (fun cs h' => h' = h ∧ K (.agg cs)) X h
  | [], o, i, acc, K, H => ⟨rfl, H⟩
  | d :: ds, o, i, acc, K, H => by
    obtain ⟨v, hv, H⟩ := ldD_spec H
    simp only [List.length_cons, loadCellsFrom, wpH_bind', wpH_load, add_addr]
    exact ⟨v, hv, loadCells_spec b h ds o (i + 1) (acc.push v) K H⟩

theorem loadVar_spec {X : Halt → Heap → Prop} {t : TypeId} {h : Heap} {b o : Nat} {K : Value → Prop} (H : ldV P t h b o K) :
    wpH ch P (loadVar t ⟨b, o, none⟩) (fun v h' => h' = h ∧ K v) X h := by
  unfold ldV at H
  cases hu : P.underlying t with
  | none => rw [hu] at H; exact H.elim
  | some d =>
    rw [hu] at H
    have hi := info_of_underlying hu
    simp only [loadVar, isAgg, wpH_bind', wpH_underlying hu]
    cases hd : isA d with
    | true =>
      simp only [hd, cond_true] at H
      have hl : (Nat.beq (flat P 8 t).length (P.cellsOf t) && (P.info? t).isSome) = true := by
        cases hx : (Nat.beq (flat P 8 t).length (P.cellsOf t) && (P.info? t).isSome) with
        | true => rfl
        | false => rw [hx] at H; exact H.elim
      rw [hl, cond_true] at H
      have hlen : (flat P 8 t).length = P.cellsOf t := Nat.eq_of_beq_eq_true (by
        revert hl; cases Nat.beq (flat P 8 t).length (P.cellsOf t) <;> simp)
      have := loadCells_spec (ch := ch) (P := P) (X := X) b h (flat P 8 t) o 0 #[] K H
      cases d <;> simp only [isA, Bool.false_eq_true] at hd <;>
        (simp only [wpH_pure, if_true, wpH_bind', wpH_sizeOf hi, loadCells, ← hlen]
         exact wpH_mono (fun _ _ hk => hk) (fun _ _ hx => hx) _ _ this)
    | false =>
      simp only [hd, cond_false] at H
      obtain ⟨v, hv, hK⟩ := ldD_spec H
      cases d <;> simp only [isA, Bool.true_eq_false] at hd <;>
        (simp only [wpH_pure, Bool.false_eq_true, if_false, wpH_load]; exact ⟨v, hv, trivial, hK⟩)

theorem storeCells_spec (b : Nat) {X : Halt → Heap → Prop} : ∀ (l : List Value) (o i : Nat) (h : Heap) (K : Heap → Prop),
    stL b l (o + i) h K → wpH ch P (storeCells ⟨b, o, none⟩ l i) (fun _ h' => K h') X h
  | [], o, i, h, K, H => H
  | v :: vs, o, i, h, K, H => by
    obtain ⟨h1, h2, h3, H⟩ := H
    simp only [storeCells, wpH_bind', wpH_store, add_addr]
    exact ⟨h1, h2, h3, storeCells_spec b vs o (i + 1) _ K H⟩
end
end Go.Eng
namespace Go.Eng
open Go

def bitsI (op : BinOp) (k : IntKind) (x y : Int) : Int :=
  let a := BitVec.ofInt k.bits x
  let b := BitVec.ofInt k.bits y
  k.wrap (match op with
    | .and => a &&& b
    | .or => a ||| b
    | .xor => a ^^^ b
    | _ => a &&& ~~~b).toNat
/-- Whole numbers of kind k. -/
def intW (op : BinOp) (k : IntKind) (a b : Int) (K : Value → Prop) : Prop :=
  match op with
  | .add => K (.int k (k.wrap (a + b)))
  | .sub => K (.int k (k.wrap (a - b)))
  | .mul => K (.int k (k.wrap (a * b)))
  | .quo => b ≠ 0 ∧ K (.int k (k.wrap (a.tdiv b)))
  | .rem => b ≠ 0 ∧ K (.int k (a.tmod b))
  | .eql => K (.bool (decide (a = b)))
  | .neq => K (.bool (!decide (a = b)))
  | .lss => K (.bool (decide (a < b)))
  | .leq => K (.bool (decide (a ≤ b)))
  | .gtr => K (.bool (decide (b < a)))
  | .geq => K (.bool (decide (b ≤ a)))
  | .and => K (.int k (bitsI .and k a b))
  | .or => K (.int k (bitsI .or k a b))
  | .xor => K (.int k (bitsI .xor k a b))
  | .andNot => K (.int k (bitsI .andNot k a b))
  | _ => False
def shW (op : BinOp) (k : IntKind) (a b : Int) (K : Value → Prop) : Prop :=
  0 ≤ b ∧ match op with
  | .shl => K (.int k (k.wrap (a * 2 ^ min b.toNat k.bits)))
  | .shr => K (.int k (a.fdiv (2 ^ min b.toNat k.bits)))
  | _ => False
/-- A float's operation: the model's answer, or any pattern of what is no number. -/
def flW (f : FloatKind) (r : Option Nat) (x y : Nat) (K : Nat → Prop) : Prop :=
  (∀ z, r = some z → K z) ∧ (r = none → ∀ t, K (Question.cut (.nanBits f x y) t))
def fltW (op : BinOp) (f : FloatKind) (x y : Nat) (K : Value → Prop) : Prop :=
  match op with
  | .add => flW f (f.format.add x y) x y fun z => K (.float f z)
  | .sub => flW f (f.format.sub x y) x y fun z => K (.float f z)
  | .mul => flW f (f.format.mul x y) x y fun z => K (.float f z)
  | .quo => flW f (f.format.div x y) x y fun z => K (.float f z)
  | .eql => K (.bool (f.format.order x y == some .eq))
  | .neq => K (.bool (f.format.order x y != some .eq))
  | .lss => K (.bool (f.format.order x y == some .lt))
  | .leq => K (.bool (f.format.order x y == some .lt || f.format.order x y == some .eq))
  | .gtr => K (.bool (f.format.order x y == some .gt))
  | .geq => K (.bool (f.format.order x y == some .gt || f.format.order x y == some .eq))
  | _ => False
section
variable {ch : Bool} {P : Program}
theorem intW_spec {X : Halt → Heap → Prop} {op : BinOp} {k : IntKind} {a b : Int} {K : Value → Prop} {h : Heap} (hs : op ≠ .shl) (hr : op ≠ .shr)
    (t : TypeId) (H : intW op k a b K) : wpH ch P (binOp op t (.int k a) (.int k b)) (fun v h' => h' = h ∧ K v) X h := by
  cases op <;> simp only [intW] at H <;> first
    | exact absurd rfl hs
    | exact absurd rfl hr
    | exact H.elim
    | (simp only [binOp, ne_eq, not_true_eq_false, if_false, Op.intCmp]; exact ⟨rfl, H⟩)
    | (simp only [binOp, ne_eq, not_true_eq_false, if_false]; exact ⟨rfl, H⟩)
    | (simp only [binOp, ne_eq, not_true_eq_false, if_false]; exact ⟨rfl, H⟩)
    | (obtain ⟨h0, H⟩ := H; simp only [binOp, ne_eq, not_true_eq_false, if_false, Op.intDiv, h0]; exact ⟨rfl, H⟩)
theorem shW_spec {X : Halt → Heap → Prop} {op : BinOp} {k k' : IntKind} {a b : Int} {K : Value → Prop} {h : Heap} (hs : op = .shl ∨ op = .shr)
    (t : TypeId) (H : shW op k a b K) : wpH ch P (binOp op t (.int k a) (.int k' b)) (fun v h' => h' = h ∧ K v) X h := by
  obtain ⟨h0, H⟩ := H
  have hn : ¬ b < 0 := by omega
  rcases hs with rfl | rfl <;> (simp only [binOp, Op.shift, hn, if_false]; exact ⟨rfl, H⟩)
theorem fltW_spec {X : Halt → Heap → Prop} {op : BinOp} {f : FloatKind} {a b : Nat} {K : Value → Prop} {h : Heap} (hs : op ≠ .shl) (hr : op ≠ .shr)
    (t : TypeId) (H : fltW op f a b K) : wpH true P (binOp op t (.float f a) (.float f b)) (fun v h' => h' = h ∧ K v) X h := by
  have go : ∀ (r : Option Nat), (flW f r a b fun z => K (.float f z)) →
      wpH true P (match r with | some r => pure (.float f r) | none => do pure (.float f (← choose (.nanBits f a b))) : Sem Value) (fun v h' => h' = h ∧ K v) X h := by
    intro r ⟨h1, h2⟩
    cases r with
    | some z => exact ⟨rfl, h1 z rfl⟩
    | none => exact ⟨rfl, rfl, fun t => ⟨rfl, h2 rfl t⟩⟩
  cases op <;> simp only [fltW] at H <;> first
    | exact absurd rfl hs
    | exact absurd rfl hr
    | exact H.elim
    | (simp only [binOp, ne_eq, not_true_eq_false, if_false, Op.floatCmp]; exact ⟨rfl, H⟩)
    | (simp only [binOp, ne_eq, not_true_eq_false, if_false, Op.floatArith, wpH_bind', wpH_pure]; exact go _ H)
end
end Go.Eng
namespace Go.Eng
open Go

/-- An address that is there. -/
def isP (p : Option Addr) (K : Nat → Nat → Prop) : Prop := ∃ b o, p = some ⟨b, o, none⟩ ∧ K b o
/-- An index into n elements of s cells from p on. -/
def ixW (p : Option Addr) (n : Nat) (i : Int) (s : Nat) (K : Nat → Nat → Prop) : Prop :=
  ∃ b o, p = some ⟨b, o, none⟩ ∧ 0 ≤ i ∧ i < (n : Int) ∧ K b (o + i.toNat * s)
def slW (n c : Nat) (lo hi mx : Option Value) (K : Nat → Nat → Nat → Prop) : Prop :=
  match mx with
  | none => bnd hi n c fun h => bnd lo 0 h fun l => K l h c
  | some _ => bnd mx c c fun m => (match hi with | some _ => bnd hi n m fun h => bnd lo 0 h fun l => K l h m | none => False)
def slP (p : Option Addr) (l m s : Nat) : Option Addr := if m = l then p else p.map (·.add (l * s))
def mkCells (zero : Array Value) (n : Nat) : Array Value := (Array.range n).map fun i => zero[i % zero.size]!

/-- Two pointers held against each other. -/
def pEq (h : Heap) (p q : Option Addr) (K : Bool → Prop) : Prop :=
  (p = none ∧ K q.isNone) ∨ (p.isSome = true ∧ q = none ∧ K false) ∨
  ∃ b o b' o', p = some ⟨b, o, none⟩ ∧ q = some ⟨b', o', none⟩ ∧
    ((b = b' ∧ K (decide (o = o'))) ∨ (b ≠ b' ∧ (∃ c e, h[b]? = some (.cells c e (0, 0))) ∧ (∃ c e, h[b']? = some (.cells c e (0, 0))) ∧ K false))

/-- A float of another width: the model's answer; what is no number, or too great, is some pattern. -/
def cvW (f : FloatKind) (a : Nat) (f' : FloatKind) (K : Nat → Prop) : Prop :=
  (f = f' → K a) ∧ (f ≠ f' → match f.decode a with
    | .nan _ _ => ∀ t, K (Question.cut (.nanConv f' a) t)
    | .infinity s => K (f'.encode (.infinity s))
    | .number s m e => ((f'.decode (f'.encode (.number s m e))).isInfinity = true → ∀ t, K (Question.cut (.floatToFloat a) t)) ∧
      ((f'.decode (f'.encode (.number s m e))).isInfinity = false → K (f'.encode (.number s m e))))

/-- A float as a whole number: the model's answer; what is too great, or no number, is some one. -/
def cviW (f : FloatKind) (a : Nat) (k : IntKind) (K : Int → Prop) : Prop :=
  match (f.decode a).toInt .zero with
  | some n => (k.min ≤ n ∧ n ≤ k.max → K n) ∧ (¬ (k.min ≤ n ∧ n ≤ k.max) → ∀ t, K (k.wrap ((Question.cut (.floatToInt f a k) t : Nat) : Int)))
  | none => ∀ t, K (k.wrap ((Question.cut (.floatToInt f a k) t : Nat) : Int))

section
variable (P : Program) (B : World) (N : Nat)
/-- The operation by the model's own text. -/
def genW (o : Oper) (ρ : Env) (K : Env → Heap → Prop) (Q : Post) (h : Heap) : Prop :=
  wpH true P (execOp (ρ.get N) o) (nextK P B o ρ K Q) (haltK ρ Q) h

def isIntU (t : TypeId) : Bool := match P.underlying t with | some (.int _) => true | _ => false
/-- A field of whole numbers in the cell i. -/
def okF (f : Field) (i : Nat) : Bool := (f.name != "_") && Nat.beq f.offset i && isIntU P f.type
/-- Two structs of two whole numbers held against each other. -/
def eqS (neg : Bool) (t : TypeId) (fs xs ys : List Value × List Field) (K : Value → Prop) : Prop :=
  match fs.2, xs.1, ys.1 with
  | [f0, f1], [.int k0 a0, .int k1 a1], [.int j0 b0, .int j1 b1] =>
    bif okF P f0 0 && okF P f1 1 && decide (k0 = j0) && decide (k1 = j1) && !P.stoodInHeld t && !P.eqGuardType P.depth t then
      K (.bool (bif neg then !(decide (a0 = b0) && decide (a1 = b1)) else (decide (a0 = b0) && decide (a1 = b1)))) else False
  | _, _, _ => False
def eqlW (neg : Bool) (t : TypeId) (x y : Value) (h : Heap) (K : Value → Prop) : Prop :=
  match P.underlying t, x, y with
  | some .bool, .bool a, .bool b => K (.bool (bif neg then !(a == b) else (a == b)))
  | some (.slice _), .slice p _ _, .slice none _ _ => K (.bool (bif neg then !p.isNone else p.isNone))
  | some (.slice _), .slice none _ _, .slice q _ _ => K (.bool (bif neg then !q.isNone else q.isNone))
  | some (.struct fs), .agg xs, .agg ys => eqS P neg t ([], fs.toList) (xs.toList, []) (ys.toList, []) K
  | some (.pointer e), .pointer p, .pointer q => bif Nat.blt 0 (P.cellsOf e) then pEq h p q fun b => K (.bool (bif neg then !b else b)) else False
  | _, _, _ => False

/-- The lesser and the greater of two floats that are ordered. -/
def minF (k : FloatKind) (x y : Nat) : Ordering → Nat
  | .lt => x
  | .gt => y
  | .eq => if (k.decode x).neg then x else y
def maxF (k : FloatKind) (x y : Nat) : Ordering → Nat
  | .lt => y
  | .gt => x
  | .eq => if (k.decode x).neg then y else x
def minW (op : Bool) : List Value → (Value → Prop) → Prop
  | [.float k a, .float _ b], K => ∃ o, k.format.order a b = some o ∧ K (.float k (bif op then minF k a b o else maxF k a b o))
  | [.int k a, .int _ b], K => K (.int k (bif op then (if b < a then b else a) else (if b > a then b else a)))
  | _, _ => False

/-- k cells from p on hold xs. -/
def rowAt (h : Heap) (p : Option Addr) (k : Nat) (xs : List Value) : Prop :=
  match p with
  | none => xs = []
  | some _ => xs.length = k ∧ isP p fun b o => ∀ i (hi : i < xs.length), cell? h ⟨b, o + i, none⟩ = some xs[i]
def setRow (h : Heap) (b : Nat) : Nat → List Value → Heap
  | _, [] => h
  | o, x :: xs => setRow (setCell h ⟨b, o, none⟩ x) b (o + 1) xs
/-- xs is stored from p on, d cells further. -/
def putRow (h : Heap) (p : Option Addr) (d : Nat) (xs : List Value) (K : Heap → Prop) : Prop :=
  match p with
  | none => K h
  | some _ => isP p fun b o => (∀ x ∈ xs, oneCell x = true) ∧ (∀ i, i < xs.length → (∃ u, cell? h ⟨b, o + d + i, none⟩ = some u) ∧ frozen? h ⟨b, o + d + i, none⟩ = false) ∧ K (setRow h b (o + d) xs)
def cpW (h : Heap) (dp : Option Addr) (dn : Nat) (sp : Option Addr) (sn size : Nat) (K : Nat → Heap → Prop) : Prop :=
  ∃ xs, rowAt h sp (Nat.min sn dn * size) xs ∧ putRow h dp 0 xs fun h' => K (Nat.min sn dn) h'
def zerosL (zero : Array Value) (n : Nat) : List Value := (List.range (n * zero.size)).map fun i => zero[i % zero.size]!
def clW (h : Heap) (p : Option Addr) (n _size : Nat) (zero : Array Value) (K : Heap → Prop) : Prop :=
  putRow h p 0 (zerosL zero n) K
def apW (h : Heap) (sp : Option Addr) (sn sc : Nat) (xp : Option Addr) (xn size bytes e : Nat) (zero : Array Value) (K : Option Addr → Nat → Nat → Heap → Prop) : Prop :=
  (sn + xn ≤ sc → ∃ xs, rowAt h xp (xn * size) xs ∧ putRow h sp (sn * size) xs fun h' => K sp (sn + xn) sc h') ∧
  (sc < sn + xn → 0 < bytes ∧ sn + xn ≤ 281474976710656 ∧ Builtin.nextslicecap (sn + xn) sc * bytes ≤ 281474976710656 ∧ ∃ old xs, rowAt h sp (sn * size) old ∧ rowAt h xp (xn * size) xs ∧
    ∀ cap, sn + xn ≤ cap → cap < 9223372036854775808 + (sn + xn) → K (some ⟨h.size, 0, none⟩) (sn + xn) cap (h.push (.cells (old ++ xs ++ zerosL zero (cap - (sn + xn))).toArray e)))
/-- m zeros appended. -/
def azW (h : Heap) (sp : Option Addr) (sn sc : Nat) (m : Int) (size bytes e : Nat) (zero : Array Value) (K : Option Addr → Nat → Nat → Heap → Prop) : Prop :=
  0 ≤ m ∧ m < 9223372036854775808 ∧ 0 < size ∧ 0 < bytes ∧ m * (bytes : Int) ≤ 281474976710656 ∧
  (sn + m.toNat ≤ sc → putRow h sp (sn * size) (zerosL zero m.toNat) fun h' => K sp (sn + m.toNat) sc h') ∧
  (sc < sn + m.toNat → sn + m.toNat ≤ 281474976710656 ∧ Builtin.nextslicecap (sn + m.toNat) sc * bytes ≤ 281474976710656 ∧ ∃ old, rowAt h sp (sn * size) old ∧
    ∀ cap, sn + m.toNat ≤ cap → cap < 9223372036854775808 + (sn + m.toNat) → K (some ⟨h.size, 0, none⟩) (sn + m.toNat) cap (h.push (.cells (old ++ zerosL zero m.toNat ++ zerosL zero (cap - (sn + m.toNat))).toArray e)))
/-- A part of an array's or a struct's value. -/
def partV (P : Program) (t : TypeId) (cs : Array Value) (off : Nat) : Option Value :=
  match P.underlying t with
  | some d => bif isA d then some (.agg (cs.extract off (off + P.cellsOf t))) else cs[off]?
  | none => none
/-- A call of a function value: the function and what it captured. -/
def EntV (P : Program) (B : World) (v : Value) (args : Array Value) (R : Ending → Heap → Prop) (h : Heap) : Prop :=
  match v with
  | .func (.func f) first cap => Ent P B f (first ++ args ++ cap) R h
  | _ => False
/-- A new block. -/
def alW (h : Heap) (o : Obj) (K : Nat → Heap → Prop) : Prop := K h.size (h.push o)
/-- Is t a struct of one function value, and its zero of one cell? -/
def oneFn (P : Program) (t : TypeId) : Bool :=
  match P.underlying t, (P.info? t).bind (·.zero) with
  | some (.struct fs), some z => (match fs.toList with
    | [f] => (match P.underlying f.type with | some (.func ..) => Nat.beq f.offset 0 && Nat.beq (P.cellsOf f.type) 1 && Nat.beq z.cells.toList.length 1 | _ => false)
    | _ => false)
  | _, _ => false
def retE (K : Value → Heap → Prop) (X : List PanicEntry → Heap → Prop) : Ending → Heap → Prop := fun e h' =>
  match e with
  | .returned v => K v h'
  | .panicked ch => X ch h'
  | .outgrown => False
def OpW (o : Oper) (ρ : Env) (K : Env → Heap → Prop) (Q : Post) (h : Heap) : Prop :=
  let g := ρ.get N
  let K1 := fun v => K (ρ.put o.dst v) h
  match o.op with
  | .move x | .assign x => K1 (g x)
  | .pick c x y =>
    match g c, g x, g y with
    | .bool c, .bool p, .bool q => K1 (.bool (bif c then p else q))
    | .bool true, p, _ => K1 p
    | .bool false, _, q => K1 q
    | _, _, _ => False
  | .load t x =>
    match g x with
    | .pointer p => isP p fun b o => ldV P t h b o K1
    | _ => False
  | .store t x y =>
    match g x with
    | .pointer p => isP p fun b o' => let v := g y; bif Nat.beq v.cells.size (P.cellsOf t) && (P.info? t).isSome then
        stL b v.cells.toList o' h (fun h' => K (ρ.put o.dst undef) h') else False
    | _ => False
  | .fieldAddr s x f =>
    match g x, P.underlying s with
    | .pointer p, some (.struct fs) =>
      (match fs[f]? with
      | some fd => bif Nat.blt 0 (P.cellsOf fd.type) then isP p fun b o' => K1 (.pointer (some ⟨b, o' + fd.offset, none⟩)) else False
      | none => False)
    | _, _ => False
  | .indexAddr t x i =>
    match P.underlying t, g x, g i with
    | some (.slice e), .slice p n _, .int _ i => bif (P.info? e).isSome then ixW p n i (P.cellsOf e) fun b o' => K1 (.pointer (some ⟨b, o', none⟩)) else False
    | some (.array n e), .pointer p, .int _ i => bif (P.info? e).isSome then ixW p n i (P.cellsOf e) fun b o' => K1 (.pointer (some ⟨b, o', none⟩)) else False
    | _, _, _ => False
  | .index t x i =>
    match P.underlying t, g x, g i with
    | some .string, .string s, .int _ i => 0 ≤ i ∧ ∃ b : UInt8, s[i.toNat]? = some b ∧ K1 (.int .u8 (b.toNat : Int))
    | some (.array n e), .agg cs, .int _ i => bif (P.info? e).isSome then 0 ≤ i ∧ i < (n : Int) ∧ exV P e (fun v => partV P e cs (i.toNat * P.cellsOf e) = some v ∧ K1 v) else False
    | _, _, _ => genW P B N o ρ K Q h
  | .slice t x lo hi mx =>
    match P.underlying t, g x with
    | some (.slice e), .slice p n c => bif (P.info? e).isSome then
        slW n c (lo.map g) (hi.map g) (mx.map g) fun l h' m => K1 (.slice (slP p l m (P.cellsOf e)) (h' - l) (m - l)) else False
    | _, _ => False
  | .nilCheck x =>
    match g x with
    | .pointer p => isP p fun b o' => K1 (.pointer (some ⟨b, o', none⟩))
    | _ => genW P B N o ρ K Q h
  | .binOp op t x y _ =>
    match g x, g y with
    | .int k a, .int k' b =>
      (match op with
      | .shl => shW .shl k a b K1
      | .shr => shW .shr k a b K1
      | op => bif decide (k = k') then intW op k a b K1 else False)
    | .float f a, .float f' b => bif decide (f = f') && decide (op ≠ .shl ∧ op ≠ .shr) then fltW op f a b K1 else False
    | x, y => (match op with
      | .eql => eqlW P false t x y h K1
      | .neq => eqlW P true t x y h K1
      | _ => False)
  | .convert s d x =>
    match g x, P.underlying s, P.underlying d with
    | .float f a, some (.float _), some (.float f') => cvW f a f' fun z => K1 (.float f' z)
    | .float f a, some (.float _), some (.int k) => cviW f a k fun z => K1 (.int k z)
    | _, _, _ => genW P B N o ρ K Q h
  | .makeSlice t l c =>
    match P.underlying t, g l, g c with
    | some (.slice e), .int _ l, .int _ c => (match P.info? e with
        | some i => (match i.zero with
          | some z => 0 ≤ l ∧ l ≤ c ∧ i.bytes * c ≤ 281474976710656 ∧ c < 9223372036854775808 ∧
              bif Nat.blt 0 i.size then K (ρ.put o.dst (.slice (some ⟨h.size, 0, none⟩) l.toNat c.toNat)) (h.push (.cells (mkCells z.cells (c.toNat * i.size)) e)) else False
          | none => False)
        | none => False)
    | _, _, _ => False
  | .build t parts =>
    bif oneFn P t then (match parts.toList with
      | [(0, x)] => oneCell (g x) = true ∧ K1 (.agg #[g x])
      | _ => genW P B N o ρ K Q h) else genW P B N o ρ K Q h
  | .call c =>
    match c.callee with
    | .value (.func f) => Ent P B f (c.args.map g) (retE (fun v h' => caV P o.type v fun v => K (ρ.put o.dst v) h') (fun ch h' => Q (.panic ch) ρ h')) h
    | .value f => EntV P B (g f) (c.args.map g) (retE (fun v h' => caV P o.type v fun v => K (ρ.put o.dst v) h') (fun ch h' => Q (.panic ch) ρ h')) h
    | .builtin .len =>
      (match (c.args.map g).toList, c.argTypes.toList with
      | [.slice _ n _], [t] => (match P.underlying t with | some (.slice _) => K1 (.int .i64 n) | _ => False)
      | _, _ => genW P B N o ρ K Q h)
    | .builtin .cap =>
      (match (c.args.map g).toList, c.argTypes.toList with
      | [.slice _ _ n], [t] => (match P.underlying t with | some (.slice _) => K1 (.int .i64 n) | _ => False)
      | _, _ => genW P B N o ρ K Q h)
    | .builtin .min => minW true (c.args.map g).toList K1
    | .builtin .max => minW false (c.args.map g).toList K1
    | .builtin .copy =>
      (match (c.args.map g).toList, c.argTypes.toList with
      | [.slice p n _, .slice q m _], [t, _] => (match P.underlying t with
        | some (.slice e) => bif (P.info? e).isSome then cpW h p n q m (P.cellsOf e) fun k h' => K (ρ.put o.dst (.int .i64 k)) h' else False
        | _ => False)
      | _, _ => False)
    | .builtin .clear =>
      (match (c.args.map g).toList, c.argTypes.toList with
      | [.slice p n _], [t] => (match P.underlying t with
        | some (.slice e) => (match (P.info? e).bind (·.zero) with
          | some z => clW h p n (P.cellsOf e) z.cells fun h' => K (ρ.put o.dst (.tuple #[])) h'
          | none => False)
        | _ => False)
      | _, _ => False)
    | .builtin .append =>
      (match (c.args.map g).toList, c.argTypes.toList with
      | [.slice p n k, .slice q m _], [t, t2] => (match P.underlying t, P.underlying t2 with
        | some (.slice e), some (.slice _) => (match P.info? e with
          | some i => (match i.zero with
            | some z => apW h p n k q m i.size i.bytes e z.cells fun q n c h' => K (ρ.put o.dst (.slice q n c)) h'
            | none => False)
          | none => False)
        | _, _ => False)
      | [.slice p n k, .int _ m], [t, t2] => (match P.underlying t, P.underlying t2 with
        | some (.slice e), some (.int _) => (match P.info? e with
          | some i => (match i.zero with
            | some z => azW h p n k m i.size i.bytes e z.cells fun q n c h' => K (ρ.put o.dst (.slice q n c)) h'
            | none => False)
          | none => False)
        | _, _ => False)
      | _, _ => False)
    | _ => False
  | .defer c =>
    match c.callee with
    | .value (.func f) => K (Env.put { ρ with ds := { target := .fn (.func f) #[], args := c.args.map g } :: ρ.ds } o.dst undef) h
    | _ => False
  | .panic x =>
    match g x with
    | .iface t v => Q (.panic [{ v := .iface t v, recovered := false }]) ρ h
    | _ => False
  | _ => genW P B N o ρ K Q h
end
end Go.Eng
namespace Go.Eng
open Go
section
variable {ch : Bool} {P : Program} {B : World} {N : Nat}

theorem bnd_spec {X : Halt → Heap → Prop} {x : Value} {c : BoundsCode} {least most : Nat} {K : Nat → Prop} {h : Heap} (H : bnd (some x) least most K) :
    wpH ch P (Instr.sliceBound x most c) (fun i h' => h' = h ∧ K i) X h := by
  unfold bnd at H
  split at H
  · rename_i k i he
    obtain rfl := Option.some.inj he
    obtain ⟨h0, h1, H⟩ := H
    simp only [Instr.sliceBound, asIntOf, wpH_bind', wpH_pure, h0, h1, and_self, if_true]
    exact ⟨trivial, H⟩
  · exact H.elim
  · rename_i he; cases he

theorem lo_some {X : Halt → Heap → Prop} {K : Nat → Nat → Nat → Prop} {h : Heap} (v : Value) (cd : BoundsCode) (hh m : Nat) (H : bnd (some v) 0 hh fun l => K l hh m) :
    wpH ch P (do let l ← Instr.sliceBound v hh cd; pure (l, hh, m) : Sem (Nat × Nat × Nat)) (fun r h' => h' = h ∧ K r.1 r.2.1 r.2.2) X h := by
  simp only [wpH_bind']
  refine wpH_mono ?_ (fun _ _ hx => hx) _ _ (bnd_spec (ch := ch) (P := P) (X := X) (h := h) (c := cd) H)
  rintro l h' ⟨rfl, hk⟩
  exact ⟨rfl, hk⟩
theorem slW_spec {X : Halt → Heap → Prop} {n c : Nat} {lo hi mx : Option Value} {K : Nat → Nat → Nat → Prop} {h : Heap} (H : slW n c lo hi mx K) :
    wpH ch P (Instr.sliceBounds true n c lo hi mx) (fun r h' => h' = h ∧ K r.1 r.2.1 r.2.2) X h := by
  cases mx with
  | none =>
    simp only [slW] at H
    cases hi with
    | none =>
      cases lo with
      | none => exact ⟨rfl, H⟩
      | some v => exact lo_some v _ n c H
    | some v =>
      simp only [Instr.sliceBounds, wpH_bind', wpH_pure]
      refine wpH_mono ?_ (fun _ _ hx => hx) _ _ (bnd_spec (ch := ch) (P := P) (X := X) (h := h) H)
      rintro l h' ⟨rfl, hk⟩
      cases lo with
      | none => exact ⟨rfl, hk⟩
      | some v => exact lo_some v _ l c hk
  | some m =>
    simp only [slW] at H
    simp only [Instr.sliceBounds, wpH_bind']
    refine wpH_mono ?_ (fun _ _ hx => hx) _ _ (bnd_spec (ch := ch) (P := P) (X := X) (h := h) H)
    rintro m' h' ⟨rfl, hk⟩
    cases hi with
    | none => exact hk.elim
    | some v =>
      simp only [wpH_bind'] at hk ⊢
      refine wpH_mono ?_ (fun _ _ hx => hx) _ _ (bnd_spec (ch := ch) (P := P) (X := X) (h := h') hk)
      rintro l h'' ⟨rfl, hk⟩
      cases lo with
      | none => exact ⟨rfl, hk⟩
      | some v => exact lo_some v _ l m' hk

theorem shape_frozen {h : Heap} {b : Nat} (hb : ∃ c e, h[b]? = some (.cells c e (0, 0))) : (∃ s, shape? h b = some s) ∧ ∀ o, frozen? h ⟨b, o, none⟩ = false := by
  obtain ⟨c, e, hb⟩ := hb
  exact ⟨⟨(e, c.size), by simp [shape?, hb]⟩, fun o => by simp [frozen?, hb]⟩

theorem sameAddr_spec {X : Halt → Heap → Prop} {h : Heap} {b o b' o' : Nat} {K : Bool → Prop}
    (H : (b = b' ∧ K (decide (o = o'))) ∨ (b ≠ b' ∧ (∃ c e, h[b]? = some (.cells c e (0, 0))) ∧ (∃ c e, h[b']? = some (.cells c e (0, 0))) ∧ K false)) :
    wpH ch P (sameAddr ⟨b, o, none⟩ ⟨b', o', none⟩) (fun r h' => h' = h ∧ K r) X h := by
  rcases H with ⟨rfl, H⟩ | ⟨hne, h1, h2, H⟩
  · have e : ((⟨b, o, none⟩ : Addr) == ⟨b, o', none⟩) = decide (o = o') := by
      rw [Bool.eq_iff_iff]; simp
    simp only [sameAddr, beq_self_eq_true, if_true]
    refine ⟨rfl, ?_⟩
    rw [e]; exact H
  · have e : ((⟨b, o, none⟩ : Addr).block == (⟨b', o', none⟩ : Addr).block) = false := by simpa using hne
    obtain ⟨⟨s1, hs1⟩, f1⟩ := shape_frozen h1
    obtain ⟨⟨s2, hs2⟩, f2⟩ := shape_frozen h2
    simp [sameAddr, e, wpH_bind', wpH_pure, frozen, wpH, f1, noView, viewAt, shape, hs1, hs2, mayBeOne, stringish, f2, H]

theorem pEq_spec {X : Halt → Heap → Prop} {h : Heap} {p q : Option Addr} {K : Bool → Prop} {t e : TypeId} (hu : P.underlying t = some (.pointer e))
    (hz : Nat.blt 0 (P.cellsOf e) = true) (H : pEq h p q K) : wpH ch P (Op.equal t (.pointer p) (.pointer q)) (fun r h' => h' = h ∧ K r) X h := by
  have hz' : P.cellsOf e ≠ 0 := by
    intro h0; rw [h0] at hz; cases hz
  have hi : (P.info? e).isSome = true := by
    unfold Program.cellsOf at hz'
    cases h0 : P.info? e with
    | none => simp [h0] at hz'
    | some i => rfl
  have key : ∀ d, wpH ch P (Op.equalIn (d + 1) t (.pointer p) (.pointer q)) (fun r h' => h' = h ∧ K r) X h := by
    intro d
    rcases H with ⟨rfl, H⟩ | ⟨hp, rfl, H⟩ | ⟨b, o, b', o', rfl, rfl, H⟩
    · simp only [Op.equalIn, wpH_bind', wpH_underlying hu]
      exact ⟨rfl, H⟩
    · obtain ⟨a, rfl⟩ := Option.isSome_iff_exists.1 hp
      simp only [Op.equalIn, wpH_bind', wpH_underlying hu]
      exact ⟨rfl, H⟩
    · simp only [Op.equalIn, wpH_bind', wpH_underlying hu, wpH_sizeOf hi, ne_eq, hz', not_false_eq_true, if_true]
      exact sameAddr_spec H
  exact key 9999
end
end Go.Eng
namespace Go.Eng
open Go
section
variable {ch : Bool} {P : Program} {B : World} {N : Nat}

theorem cond_false_elim {c : Bool} {A : Prop} (h : bif c then A else False) : c = true ∧ A := by
  cases c
  · exact h.elim
  · exact ⟨rfl, h⟩

theorem of_val {o : Oper} {ρ : Env} {K : Env → Heap → Prop} {Q : Post} {h : Heap} {s : Sem Value}
    (he : execOp (ρ.get N) o = (do pure (Next.value (← s))))
    (H : wpH true P s (fun v h' => h' = h ∧ K (ρ.put o.dst v) h) (haltK ρ Q) h) : OpS P B N o ρ K Q h := by
  apply OpS_of_wpH
  rw [he, wpH_bind']
  refine wpH_mono ?_ (fun _ _ hx => hx) _ _ H
  rintro v h' ⟨rfl, hk⟩
  exact hk

theorem cond_false_elim' {c : Bool} {A : Prop} (h : bif c then A else False) : c = true ∧ A := by
  cases c
  · exact h.elim
  · exact ⟨rfl, h⟩
theorem eqS_spec {X : Halt → Heap → Prop} {neg : Bool} {t : TypeId} {fs : Array Field} {xs ys : Array Value} {h : Heap} {K : Value → Prop} (hu : P.underlying t = some (.struct fs))
    (H : eqS P neg t ([], fs.toList) (xs.toList, []) (ys.toList, []) K) :
    wpH ch P (Op.equal t (.agg xs) (.agg ys)) (fun b h' => h' = h ∧ K (.bool (bif neg then !b else b))) X h ∧ P.eqGuardType P.depth t = false := by
  unfold eqS at H
  simp only at H
  split at H
  · rename_i f0 f1 k0 a0 k1 a1 j0 b0 j1 b1 hf hx hy
    obtain ⟨hc, H1⟩ := cond_false_elim H
    clear H
    simp only [Bool.and_eq_true, Bool.not_eq_true', decide_eq_true_eq] at hc
    obtain ⟨⟨⟨⟨⟨h0, h1⟩, rfl⟩, rfl⟩, hs⟩, hg⟩ := hc
    have efs : fs = #[f0, f1] := by cases fs; simp at hf; simp [hf]
    have exs : xs = #[.int k0 a0, .int k1 a1] := by cases xs; simp at hx; simp [hx]
    have eys : ys = #[.int k0 b0, .int k1 b1] := by cases ys; simp at hy; simp [hy]
    subst efs exs eys
    refine ⟨?_, hg⟩
    have fld : ∀ {f : Field} {i : Nat}, okF P f i = true → f.name ≠ "_" ∧ f.offset = i ∧ ∃ k, P.underlying f.type = some (.int k) := by
      intro f i hf
      unfold okF at hf
      simp only [Bool.and_eq_true, bne_iff_ne, ne_eq] at hf
      refine ⟨hf.1.1, Nat.eq_of_beq_eq_true hf.1.2, ?_⟩
      have := hf.2
      unfold isIntU at this
      split at this
      · rename_i k hk; exact ⟨k, hk⟩
      · cases this
    obtain ⟨n0, o0, q0, u0⟩ := fld h0
    obtain ⟨n1, o1, q1, u1⟩ := fld h1
    have part0 : ∀ (t : TypeId) (k : IntKind) (cs : Array Value) (i : Nat) (v : Value) (K : Value → Heap → Prop) (h : Heap), P.underlying t = some (.int k) → cs[i]? = some v → K v h → wpH ch P (part t cs i) K X h := by
      intro t k cs i v K h hu hv hK
      simp only [part, isAgg, wpH_bind', wpH_underlying hu, wpH_pure, Bool.false_eq_true, if_false, hv]
      exact hK
    have eq0 : ∀ (d : Nat) (t : TypeId) (k kk : IntKind) (a b : Int) (K : Bool → Heap → Prop) (h : Heap), P.underlying t = some (.int k) → K (decide (a = b)) h → wpH ch P (Op.equalIn (d + 1) t (.int kk a) (.int kk b)) K X h := by
      intro d t k kk a b K h hu hK
      simp only [Op.equalIn, wpH_bind', wpH_underlying hu, if_true, wpH_pure]
      exact hK
    have hS : ∀ (K : Program → Heap → Prop) (h : Heap), wpH ch P program K X h = K P h := fun _ _ => rfl
    show wpH ch P (Op.equalIn 10000 t _ _) _ X h
    rw [Op.equalIn]
    simp only [wpH_bind', wpH_underlying hu, hS, hs, Bool.false_eq_true, if_false, ← Array.forIn_toList, List.forIn_cons, List.forIn_nil, n0, n1, ne_eq, not_false_eq_true, if_true]
    rw [o0, o1]
    refine part0 _ q0 _ 0 _ _ _ u0 rfl (part0 _ q0 _ 0 _ _ _ u0 rfl (eq0 9998 _ q0 _ _ _ _ _ u0 ?_))
    by_cases e0 : a0 = b0
    · simp only [e0, decide_true, Bool.not_true, Bool.false_eq_true, if_false, wpH_bind', wpH_pure]
      refine part0 _ q1 _ 1 _ _ _ u1 rfl (part0 _ q1 _ 1 _ _ _ u1 rfl (eq0 9998 _ q1 _ _ _ _ _ u1 ?_))
      by_cases e1 : a1 = b1
      · simp only [e1, decide_true, Bool.not_true, Bool.false_eq_true, if_false, wpH_pure]
        exact ⟨trivial, by simpa [e0, e1] using H1⟩
      · simp only [e1, decide_false, Bool.not_false, if_true, wpH_pure]
        exact ⟨trivial, by simpa [e0, e1] using H1⟩
    · simp only [e0, decide_false, Bool.not_false, if_true, wpH_pure]
      exact ⟨trivial, by simpa [e0] using H1⟩
  · exact H.elim
theorem eqlW_key {X : Halt → Heap → Prop} {neg : Bool} {t : TypeId} {x y : Value} {h : Heap} {K : Value → Prop} (H : eqlW P neg t x y h K) :
    wpH ch P (Op.equal t x y) (fun b h' => h' = h ∧ K (.bool (bif neg then !b else b))) X h ∧
    ((∃ a b, x = .bool a ∧ y = .bool b) ∨ (∃ p n c q m d, x = .slice p n c ∧ y = .slice q m d) ∨ (∃ p q, x = .pointer p ∧ y = .pointer q) ∨ ∃ xs ys, x = .agg xs ∧ y = .agg ys ∧ P.eqGuardType P.depth t = false) := by
  have key : ∀ e, P.underlying t = none ∨ True → (∀ p q, ¬ (x = .pointer p ∧ y = .pointer q)) → (∀ p q, ¬ (x = .agg p ∧ y = .agg q)) → wpH ch P (Op.equalIn (e + 1) t x y) (fun b h' => h' = h ∧ K (.bool (bif neg then !b else b))) X h := by
    intro e _ hnp hna
    unfold eqlW at H
    split at H
    · rename_i a b hu
      simp only [Op.equalIn, wpH_bind', wpH_underlying hu]
      exact ⟨rfl, H⟩
    · rename_i p _ _ _ _ hu
      simp only [Op.equalIn, wpH_bind', wpH_underlying hu]
      cases p <;> exact ⟨rfl, H⟩
    · rename_i q _ _ _ hu
      simp only [Op.equalIn, wpH_bind', wpH_underlying hu]
      exact ⟨rfl, H⟩
    · exact absurd ⟨rfl, rfl⟩ (hna _ _)
    · exact absurd ⟨rfl, rfl⟩ (hnp _ _)
    · exact H.elim
  unfold eqlW at H
  split at H
  · exact ⟨key 9999 (.inr trivial) (by rintro p q ⟨h, _⟩; cases h) (by rintro p q ⟨h, _⟩; cases h), .inl ⟨_, _, rfl, rfl⟩⟩
  · exact ⟨key 9999 (.inr trivial) (by rintro p q ⟨h, _⟩; cases h) (by rintro p q ⟨h, _⟩; cases h), .inr (.inl ⟨_, _, _, _, _, _, rfl, rfl⟩)⟩
  · exact ⟨key 9999 (.inr trivial) (by rintro p q ⟨h, _⟩; cases h) (by rintro p q ⟨h, _⟩; cases h), .inr (.inl ⟨_, _, _, _, _, _, rfl, rfl⟩)⟩
  · rename_i fs xs ys hu
    obtain ⟨h1, h2⟩ := eqS_spec (X := X) (ch := ch) (h := h) hu H
    exact ⟨h1, .inr (.inr (.inr ⟨_, _, rfl, rfl, h2⟩))⟩
  · rename_i e p q hu
    obtain ⟨h1, h2⟩ := cond_false_elim' H
    exact ⟨pEq_spec hu h1 h2, .inr (.inr (.inl ⟨_, _, rfl, rfl⟩))⟩
  · exact H.elim

theorem eqlW_spec {X : Halt → Heap → Prop} {op : BinOp} {neg : Bool} (hop : (op = .eql ∧ neg = false) ∨ (op = .neq ∧ neg = true)) {t : TypeId} {x y : Value} {h : Heap} {K : Value → Prop} (H : eqlW P neg t x y h K)
    (c d : Operand) : wpH ch P (do eqGuard op t c d x y; binOp op t x y : Sem Value) (fun v h' => h' = h ∧ K v) X h := by
  obtain ⟨hk, hs⟩ := eqlW_key (X := X) (ch := ch) H
  have hS : ∀ (K : Program → Heap → Prop) (h : Heap), wpH ch P program K X h = K P h := fun _ _ => rfl
  rcases hop with ⟨rfl, rfl⟩ | ⟨rfl, rfl⟩ <;> rcases hs with ⟨a, b, rfl, rfl⟩ | ⟨p, n, cc, q, m, dd, rfl, rfl⟩ | ⟨p, q, rfl, rfl⟩ | ⟨xs, ys, rfl, rfl, hg⟩
  case inl.inr.inr.inr | inr.inr.inr.inr =>
    simp only [eqGuard, wpH_bind', binOp, Bool.not_true, Bool.false_eq_true, if_false, wpH_pure, hS, hg, Bool.not_false, if_true]
    refine wpH_mono ?_ (fun _ _ hx => hx) _ _ hk
    rintro b h' ⟨rfl, hb⟩
    exact ⟨rfl, hb⟩
  all_goals
    simp only [eqGuard, wpH_bind', binOp, Bool.not_true, Bool.false_eq_true, if_false, wpH_pure]
    refine wpH_mono ?_ (fun _ _ hx => hx) _ _ hk
    rintro b h' ⟨rfl, hb⟩
    exact ⟨rfl, hb⟩

theorem fieldAt_spec {X : Halt → Heap → Prop} {s : TypeId} {f b o : Nat} {fs : Array Field} {fd : Field} {h : Heap} (hu : P.underlying s = some (.struct fs))
    (hf : fs[f]? = some fd) (hz : Nat.blt 0 (P.cellsOf fd.type) = true) {K : Value → Prop} (H : K (.pointer (some ⟨b, o + fd.offset, none⟩))) :
    wpH ch P (Instr.fieldAt s (.pointer (some ⟨b, o, none⟩)) f) (fun v h' => h' = h ∧ K v) X h := by
  have hz' : P.cellsOf fd.type ≠ 0 := by
    intro h0; rw [h0] at hz; cases hz
  have hi : (P.info? fd.type).isSome = true := by
    unfold Program.cellsOf at hz'
    cases h0 : P.info? fd.type with
    | none => simp [h0] at hz'
    | some i => rfl
  simp only [Instr.fieldAt, Instr.sureAddr, fieldPlace, wpH_bind', wpH_underlying hu, hf, wpH_pure, wpH_sizeOf hi, hz', if_false, add_addr]
  exact ⟨trivial, H⟩

theorem partV_spec {X : Halt → Heap → Prop} {t : TypeId} {cs : Array Value} {off : Nat} {v : Value} {K : Value → Heap → Prop} {h : Heap} (hi : (P.info? t).isSome = true) (H : partV P t cs off = some v) (k : K v h) :
    wpH ch P (part t cs off) K X h := by
  unfold partV at H
  cases hu : P.underlying t with
  | none => rw [hu] at H; cases H
  | some d =>
    rw [hu] at H
    simp only at H
    simp only [part, isAgg, wpH_bind', wpH_underlying hu]
    cases hd : isA d with
    | true =>
      rw [hd, cond_true] at H
      obtain rfl := Option.some.inj H
      cases d <;> simp only [isA, Bool.false_eq_true] at hd <;> (simp only [wpH_pure, if_true, wpH_bind', wpH_sizeOf hi]; exact k)
    | false =>
      rw [hd, cond_false] at H
      cases d <;> simp only [isA, Bool.true_eq_false] at hd <;> (simp only [wpH_pure, Bool.false_eq_true, if_false, H]; exact k)
theorem indexAt_slice_spec {X : Halt → Heap → Prop} {t e : TypeId} {p : Option Addr} {n c : Nat} {k : IntKind} {i : Int} {h : Heap} (hu : P.underlying t = some (.slice e))
    (hi : (P.info? e).isSome = true) {K : Value → Prop} (H : ixW p n i (P.cellsOf e) fun b o' => K (.pointer (some ⟨b, o', none⟩))) :
    wpH ch P (Instr.indexAt t (.slice p n c) (.int k i)) (fun v h' => h' = h ∧ K v) X h := by
  obtain ⟨b, o, rfl, h0, h1, H⟩ := H
  simp only [Instr.indexAt, asIntOf, wpH_bind', wpH_underlying hu, wpH_pure, wpH_sizeOf hi, h0, h1, and_self, if_true, add_addr]
  exact ⟨trivial, H⟩
theorem indexAt_array_spec {X : Halt → Heap → Prop} {t e : TypeId} {p : Option Addr} {n : Nat} {k : IntKind} {i : Int} {h : Heap} (hu : P.underlying t = some (.array n e))
    (hi : (P.info? e).isSome = true) {K : Value → Prop} (H : ixW p n i (P.cellsOf e) fun b o' => K (.pointer (some ⟨b, o', none⟩))) :
    wpH ch P (Instr.indexAt t (.pointer p) (.int k i)) (fun v h' => h' = h ∧ K v) X h := by
  obtain ⟨b, o, rfl, h0, h1, H⟩ := H
  simp only [Instr.indexAt, Instr.sureAddr, asIntOf, wpH_bind', wpH_underlying hu, wpH_pure, wpH_sizeOf hi, h0, h1, and_self, if_true, add_addr]
  exact ⟨trivial, H⟩
end
end Go.Eng
namespace Go.Eng
open Go
section
variable {ch : Bool} {P : Program} {B : World} {N : Nat}

theorem wrap_i64_in {x : Int} (h1 : -9223372036854775808 ≤ x) (h2 : x < 9223372036854775808) : IntKind.i64.wrap x = x := by
  have e : IntKind.i64.wrap x = if (true && decide (x % 18446744073709551616 ≥ 9223372036854775808)) = true then x % 18446744073709551616 - 18446744073709551616 else x % 18446744073709551616 := rfl
  rw [e]
  simp only [Bool.true_and, decide_eq_true_eq]
  split <;> omega
theorem wrap_u64_in {x : Int} (h1 : 0 ≤ x) (h2 : x < 18446744073709551616) : IntKind.u64.wrap x = x := by
  have e : IntKind.u64.wrap x = if (false && decide (x % 18446744073709551616 ≥ 9223372036854775808)) = true then x % 18446744073709551616 - 18446744073709551616 else x % 18446744073709551616 := rfl
  rw [e]
  simp only [Bool.false_and, Bool.false_eq_true, if_false]
  omega
theorem builtin_len_spec {X : Halt → Heap → Prop} {t e : TypeId} {p : Option Addr} {n c : Nat} {h : Heap} {K : Value → Prop} (hu : P.underlying t = some (.slice e))
    (H : K (.int .i64 n)) (ty : TypeId) : wpH ch P (Builtin.len_ #[t] ty #[.slice p n c]) (fun v h' => h' = h ∧ K v) X h := by
  simp only [Builtin.len_, List.getElem?_toArray, List.getElem?_cons_zero, wpH_bind', wpH_underlying hu, wpH_pure]
  exact ⟨trivial, H⟩
theorem builtin_cap_spec {X : Halt → Heap → Prop} {t e : TypeId} {p : Option Addr} {n c : Nat} {h : Heap} {K : Value → Prop} (hu : P.underlying t = some (.slice e))
    (H : K (.int .i64 c)) (ty : TypeId) : wpH ch P (Builtin.cap_ #[t] ty #[.slice p n c]) (fun v h' => h' = h ∧ K v) X h := by
  simp only [Builtin.cap_, List.getElem?_toArray, List.getElem?_cons_zero, wpH_bind', wpH_underlying hu, wpH_pure]
  exact ⟨trivial, H⟩

theorem toArr {α : Type} {a : Array α} {l : List α} (h : a.toList = l) : a = l.toArray := by subst h; simp

theorem makeSlice_spec {X : Halt → Heap → Prop} {t e : TypeId} {k k' : IntKind} {l c : Int} {i : TypeInfo} {z : Value} {h : Heap} (hu : P.underlying t = some (.slice e))
    (hi : P.info? e = some i) (hz : i.zero = some z) (h0 : 0 ≤ l) (h1 : l ≤ c) (h2 : i.bytes * c ≤ 281474976710656) (h3 : c < 9223372036854775808) (h4 : Nat.blt 0 i.size = true)
    {K : Value → Heap → Prop} (H : K (.slice (some ⟨h.size, 0, none⟩) l.toNat c.toNat) (h.push (.cells (mkCells z.cells (c.toNat * i.size)) e))) :
    wpH ch P (Instr.makeSlice t (.int k l) (.int k' c)) K X h := by
  have wl : IntKind.i64.wrap l = l := wrap_i64_in (by omega) (by omega)
  have wc : IntKind.i64.wrap c = c := wrap_i64_in (by omega) (by omega)
  have hn : ¬ c < 0 := by omega
  have hl : ¬ l < 0 := by omega
  have hlc : ¬ l > c := by omega
  have hsz : i.size ≠ 0 := by intro h0; rw [h0] at h4; cases h4
  have hTI : ∀ (K : TypeInfo → Heap → Prop) (h : Heap), wpH ch P (typeInfo e) K X h = K i h := by
    intro K h; simp [typeInfo, wpH_bind', program, wpH, hi, wpH_pure]
  have hSO : ∀ (K : Nat → Heap → Prop) (h : Heap), wpH ch P (sizeOf e) K X h = K i.size h := by
    intro K h; simp [sizeOf, wpH_bind', hTI, wpH_pure]
  have hZV : ∀ (K : Value → Heap → Prop) (h : Heap), wpH ch P (zeroValue e) K X h = K z h := by
    intro K h; simp [zeroValue, wpH_bind', hTI, wpH_pure, hz]
  simp only [Instr.makeSlice, asInt, asIntOf, wpH_bind', wpH_underlying hu, wpH_pure, hTI, wl, wc]
  rw [if_neg (by simp [hn, hl, hlc]; exact h2)]
  have hroom : ∀ (K : Unit → Heap → Prop) (m : Nat) (h : Heap), K () h → wpH ch P (askRoom m) K X h := by
    intro K m h hK
    unfold askRoom
    split <;> exact hK
  simp only [wpH_bind']
  refine hroom _ _ _ ?_
  rw [hSO]
  by_cases hcz : c.toNat * i.size = 0
  · simp only [hcz, if_true, wpH_pure, newRow, newObj, wpH_bind', wpH]
    have hm : (Array.range 0).map (fun x => (#[] : Array Value)[x % (#[] : Array Value).size]!) = mkCells z.cells (c.toNat * i.size) := by
      simp [mkCells, hcz]
    rw [hm]
    exact H
  · simp only [hcz, if_false, hZV, wpH_pure, newRow, newObj, wpH_bind', wpH]
    exact H

theorem minW_spec {X : Halt → Heap → Prop} {op : Bool} {l : List Value} {K : Value → Prop} {h : Heap} (H : minW op l K) (ts : Array TypeId) (t : TypeId) :
    wpH ch P (if op then Builtin.min_ ts t l.toArray else Builtin.max_ ts t l.toArray) (fun v h' => h' = h ∧ K v) X h := by
  unfold minW at H
  split at H
  · rename_i K' k a k' b
    obtain ⟨o, ho, H⟩ := H
    cases op
    · show wpH ch P (Builtin.max2 (.float k a) (.float k' b) >>= fun s => pure s) _ X h
      simp only [Builtin.max2, ho]
      cases o <;> exact ⟨rfl, H⟩
    · show wpH ch P (Builtin.min2 (.float k a) (.float k' b) >>= fun s => pure s) _ X h
      simp only [Builtin.min2, ho]
      cases o <;> exact ⟨rfl, H⟩
  · cases op <;> exact ⟨rfl, H⟩
  · exact H.elim

theorem setCell_cell {h : Heap} {b o o' : Nat} {v u : Value} (hu : cell? h ⟨b, o', none⟩ = some u) : ∃ u', cell? (setCell h ⟨b, o, none⟩ v) ⟨b, o', none⟩ = some u' := by
  unfold cell? setCell at *
  simp only [Array.getElem?_modify] at *
  cases hb : h[b]? with
  | none => rw [hb] at hu; simp at hu
  | some x =>
    rw [hb] at hu
    cases x <;> simp at hu
    rename_i c e f
    simp only [if_true, Option.map_some, Option.isSome_none, Bool.false_eq_true, if_false]
    by_cases hoo : o = o'
    · subst hoo
      have hlt : o < c.size := by
        rcases Nat.lt_or_ge o c.size with h | h
        · exact h
        · rw [Array.getElem?_eq_none h] at hu; cases hu
      exact ⟨v, by simp [hlt]⟩
    · exact ⟨u, by rw [Array.getElem?_setIfInBounds_ne hoo]; exact hu⟩
theorem setCell_frozen {h : Heap} {b o o' : Nat} {v : Value} : frozen? (setCell h ⟨b, o, none⟩ v) ⟨b, o', none⟩ = frozen? h ⟨b, o', none⟩ := by
  unfold frozen? setCell
  simp only [Array.getElem?_modify]
  cases hb : h[b]? with
  | none => simp
  | some x => cases x <;> simp
theorem stL_of {b : Nat} : ∀ {xs : List Value} {o : Nat} {h : Heap} {K : Heap → Prop}, (∀ x ∈ xs, oneCell x = true) →
    (∀ i, i < xs.length → (∃ u, cell? h ⟨b, o + i, none⟩ = some u) ∧ frozen? h ⟨b, o + i, none⟩ = false) → K (setRow h b o xs) → stL b xs o h K
  | [], _, _, _, _, _, hK => hK
  | x :: xs, o, h, K, h1, h2, hK => by
    refine ⟨h1 x (by simp), (h2 0 (by simp)).1, (h2 0 (by simp)).2, ?_⟩
    refine stL_of (fun y hy => h1 y (by simp [hy])) (fun i hi => ?_) hK
    obtain ⟨⟨u, hu⟩, hf⟩ := h2 (i + 1) (by simpa using hi)
    rw [show o + 1 + i = o + (i + 1) by omega, setCell_frozen]
    exact ⟨setCell_cell hu, hf⟩
theorem putRow_spec {X : Halt → Heap → Prop} {h : Heap} {p : Option Addr} {d : Nat} {xs : List Value} {K : Heap → Prop} (H : putRow h p d xs K) :
    wpH ch P (match p with | some a => storeCells (a.add d) xs | none => pure ()) (fun _ h' => K h') X h := by
  cases p with
  | none => exact H
  | some a =>
    obtain ⟨b, o, ha, h1, h2, hK⟩ := H
    obtain rfl := Option.some.inj ha
    show wpH ch P (storeCells ((⟨b, o, none⟩ : Addr).add d) xs) _ X h
    rw [add_addr]
    exact storeCells_spec (ch := ch) (P := P) b xs (o + d) 0 h K (stL_of h1 h2 hK)
theorem loadCellsFrom_row {X : Halt → Heap → Prop} {b o : Nat} {h : Heap} : ∀ (xs : List Value) (i : Nat) (acc : Array Value),
    (∀ k (hk : k < xs.length), cell? h ⟨b, o + i + k, none⟩ = some xs[k]) → wpH ch P (loadCellsFrom ⟨b, o, none⟩ i xs.length acc) (fun r h' => h' = h ∧ r = acc ++ xs.toArray) X h
  | [], i, acc, _ => ⟨rfl, by simp⟩
  | x :: xs, i, acc, H => by
    simp only [List.length_cons, loadCellsFrom, wpH_bind', wpH_load, add_addr]
    refine ⟨x, H 0 (Nat.succ_pos _), ?_⟩
    refine wpH_mono ?_ (fun _ _ hx => hx) _ _ (loadCellsFrom_row (X := X) xs (i + 1) (acc.push x) (fun k hk => by
      rw [show o + (i + 1) + k = o + i + (k + 1) by omega]
      exact H (k + 1) (Nat.succ_lt_succ hk)))
    rintro r h' ⟨rfl, rfl⟩
    exact ⟨rfl, by apply Array.ext'; simp⟩
theorem firstCells_spec {X : Halt → Heap → Prop} {h : Heap} {p : Option Addr} {n c size k : Nat} {xs : List Value} (H : rowAt h p (k * size) xs) :
    wpH ch P (Builtin.firstCells size k (.slice p n c)) (fun r h' => h' = h ∧ r = xs.toArray) X h := by
  cases p with
  | none => obtain rfl := H; exact ⟨rfl, rfl⟩
  | some a =>
    obtain ⟨hl, b, o, ha, H⟩ := H
    obtain rfl := Option.some.inj ha
    simp only [Builtin.firstCells, loadCells]
    rw [← hl]
    refine wpH_mono ?_ (fun _ _ hx => hx) _ _ (loadCellsFrom_row (ch := ch) (P := P) (X := X) xs 0 #[] (fun k hk => by simpa using H k hk))
    rintro r h' ⟨rfl, rfl⟩
    exact ⟨rfl, by simp⟩
theorem zeroCells_eq (zero : Array Value) (n : Nat) : Builtin.zeroCells zero n = (zerosL zero n).toArray := by
  apply Array.ext'
  simp [Builtin.zeroCells, zerosL, Array.toList_range]
theorem copy_spec {X : Halt → Heap → Prop} {h : Heap} {t t2 e : TypeId} {p q : Option Addr} {n c m d : Nat} {K : Nat → Heap → Prop} (hu : P.underlying t = some (.slice e))
    (hi : (P.info? e).isSome = true) (H : cpW h p n q m (P.cellsOf e) K) (ty : TypeId) :
    wpH ch P (Builtin.copy_ #[t, t2] ty #[.slice p n c, .slice q m d]) (fun v h' => ∃ k : Nat, v = .int .i64 k ∧ K k h') X h := by
  obtain ⟨xs, h1, h2⟩ := H
  simp only [Builtin.copy_, List.getElem?_toArray, List.getElem?_cons_zero, List.getElem?_cons_succ, wpH_bind', wpH_underlying hu, wpH_pure, Builtin.lenOf, wpH_sizeOf hi]
  refine wpH_mono ?_ (fun _ _ hx => hx) _ _ (firstCells_spec (ch := ch) (P := P) h1)
  rintro r h' ⟨rfl, rfl⟩
  have hput := putRow_spec (ch := ch) (P := P) (X := X) h2
  cases p with
  | none => exact ⟨_, rfl, hput⟩
  | some a =>
    simp only [wpH_bind'] at hput ⊢
    refine wpH_mono ?_ (fun _ _ hx => hx) _ _ hput
    intro u h'' hk
    exact ⟨_, rfl, hk⟩
theorem clear_spec {X : Halt → Heap → Prop} {h : Heap} {t e : TypeId} {p : Option Addr} {n c : Nat} {z : Value} {K : Heap → Prop} (hu : P.underlying t = some (.slice e))
    (hz : (P.info? e).bind (·.zero) = some z) (H : clW h p n (P.cellsOf e) z.cells K) (ty : TypeId) :
    wpH ch P (Builtin.clear_ #[t] ty #[.slice p n c]) (fun v h' => v = .tuple #[] ∧ K h') X h := by
  have hZV : ∀ (K : Value → Heap → Prop) (h : Heap), wpH ch P (zeroValue e) K X h = K z h := by
    intro K h
    cases hi : P.info? e with
    | none => rw [hi] at hz; cases hz
    | some i =>
      rw [hi] at hz
      have hz' : i.zero = some z := hz
      simp [zeroValue, typeInfo, wpH_bind', program, wpH, hi, wpH_pure, hz']
  have hput := putRow_spec (ch := ch) (P := P) (X := X) H
  simp only [Builtin.clear_, List.getElem?_toArray, List.getElem?_cons_zero, wpH_bind', wpH_underlying hu]
  cases p with
  | none => exact ⟨rfl, hput⟩
  | some a =>
    cases n with
    | zero =>
      have : zerosL z.cells 0 = [] := by simp [zerosL]
      rw [this] at hput
      exact ⟨rfl, hput⟩
    | succ n =>
      simp only [wpH_bind', hZV, zeroCells_eq]
      refine wpH_mono ?_ (fun _ _ hx => hx) _ _ hput
      intro u h' hk
      exact ⟨rfl, hk⟩
theorem append_spec {X : Halt → Heap → Prop} {h : Heap} {t t2 e e2 : TypeId} {p q : Option Addr} {n c m d : Nat} {i : TypeInfo} {z : Value} {K : Option Addr → Nat → Nat → Heap → Prop}
    (hu : P.underlying t = some (.slice e)) (hu2 : P.underlying t2 = some (.slice e2)) (hi : P.info? e = some i) (hz : i.zero = some z)
    (H : apW h p n c q m i.size i.bytes e z.cells K) (ty : TypeId) :
    wpH true P (Builtin.append_ #[t, t2] ty #[.slice p n c, .slice q m d]) (fun v h' => ∃ q n c, v = .slice q n c ∧ K q n c h') X h := by
  have hTI : ∀ (K : TypeInfo → Heap → Prop) (h : Heap), wpH true P (typeInfo e) K X h = K i h := by
    intro K h; simp [typeInfo, wpH_bind', program, wpH, hi, wpH_pure]
  have hSO : ∀ (K : Nat → Heap → Prop) (h : Heap), wpH true P (sizeOf e) K X h = K i.size h := by
    intro K h; simp [sizeOf, wpH_bind', hTI, wpH_pure]
  have hZV : ∀ (K : Value → Heap → Prop) (h : Heap), wpH true P (zeroValue e) K X h = K z h := by
    intro K h; simp [zeroValue, wpH_bind', hTI, wpH_pure, hz]
  have hroom : ∀ (K : Unit → Heap → Prop) (m : Nat) (h : Heap), K () h → wpH true P (askRoom m) K X h := by
    intro K m h hK
    unfold askRoom
    split <;> exact hK
  simp only [Builtin.append_, List.getElem?_toArray, List.getElem?_cons_zero, List.getElem?_cons_succ, wpH_bind', wpH_underlying hu, wpH_underlying hu2, wpH_pure, hSO, Builtin.lenOf, Bool.false_eq_true, if_false, Bool.not_false, if_true]
  by_cases hn : n + m ≤ c
  · obtain ⟨xs, h1, h2⟩ := H.1 hn
    rw [if_pos hn]
    simp only [wpH_bind']
    refine wpH_mono ?_ (fun _ _ hx => hx) _ _ (firstCells_spec (ch := true) (P := P) h1)
    rintro r h' ⟨rfl, rfl⟩
    have hput := putRow_spec (ch := true) (P := P) (X := X) h2
    cases p with
    | none => exact ⟨_, _, _, rfl, hput⟩
    | some a =>
      simp only [wpH_bind'] at hput ⊢
      refine wpH_mono ?_ (fun _ _ hx => hx) _ _ hput
      intro u h'' hk
      exact ⟨_, _, _, rfl, hk⟩
  · obtain ⟨hb, hlim, hcap, old, xs, h1, h2, h3⟩ := H.2 (by omega)
    rw [if_neg hn]
    simp only [wpH_bind', hTI]
    rw [if_neg (by intro h0; rcases h0.2 with h0 | h0 <;> first | cases h0 | omega)]
    simp only [wpH_bind', hTI]
    rw [if_neg (by
      have : (2 : Nat) ^ 48 = 281474976710656 := by decide
      omega)]
    simp only [wpH_bind', hTI]
    refine ⟨rfl, rfl, fun tt => ?_⟩
    refine hroom _ _ _ ?_
    refine wpH_mono ?_ (fun _ _ hx => hx) _ _ (firstCells_spec (ch := true) (P := P) h1)
    rintro r h' ⟨rfl, rfl⟩
    refine wpH_mono ?_ (fun _ _ hx => hx) _ _ (firstCells_spec (ch := true) (P := P) h2)
    rintro r h'' ⟨rfl, rfl⟩
    rw [hZV]
    simp only [newRow, newObj, wpH_bind', wpH, wpH_pure, zeroCells_eq, List.append_toArray]
    refine ⟨_, _, _, rfl, h3 _ ?_ ?_⟩
    · exact Nat.le_add_right _ _
    · show n + m + tt % (2 ^ 63 - (n + m)) < 9223372036854775808 + (n + m)
      have := Nat.mod_lt tt (show 0 < 2 ^ 63 - (n + m) by omega)
      omega
theorem appendZ_spec {X : Halt → Heap → Prop} {h : Heap} {t t2 e : TypeId} {k2 ik : IntKind} {p : Option Addr} {n c : Nat} {m : Int} {i : TypeInfo} {z : Value} {K : Option Addr → Nat → Nat → Heap → Prop}
    (hu : P.underlying t = some (.slice e)) (hu2 : P.underlying t2 = some (.int k2)) (hi : P.info? e = some i) (hz : i.zero = some z)
    (H : azW h p n c m i.size i.bytes e z.cells K) (ty : TypeId) :
    wpH true P (Builtin.append_ #[t, t2] ty #[.slice p n c, .int ik m]) (fun v h' => ∃ q n c, v = .slice q n c ∧ K q n c h') X h := by
  obtain ⟨h0, h63, hs, hb, hm, H1, H2⟩ := H
  have hTI : ∀ (K : TypeInfo → Heap → Prop) (h : Heap), wpH true P (typeInfo e) K X h = K i h := by
    intro K h; simp [typeInfo, wpH_bind', program, wpH, hi, wpH_pure]
  have hSO : ∀ (K : Nat → Heap → Prop) (h : Heap), wpH true P (sizeOf e) K X h = K i.size h := by
    intro K h; simp [sizeOf, wpH_bind', hTI, wpH_pure]
  have hZV : ∀ (K : Value → Heap → Prop) (h : Heap), wpH true P (zeroValue e) K X h = K z h := by
    intro K h; simp [zeroValue, wpH_bind', hTI, wpH_pure, hz]
  have hroom : ∀ (K : Unit → Heap → Prop) (m : Nat) (h : Heap), K () h → wpH true P (askRoom m) K X h := by
    intro K m h hK
    unfold askRoom
    split <;> exact hK
  have hw : IntKind.i64.wrap m = m := wrap_i64_in (by omega) h63
  have hai : ∀ (K : Int → Heap → Prop) (h : Heap), wpH true P (asInt (.int ik m)) K X h = K m h := fun _ _ => rfl
  have hap : ∀ (K : Array Value → Heap → Prop) (h : Heap), K (zerosL z.cells m.toNat).toArray h →
      wpH true P (if m.toNat * i.size = 0 then pure #[] else do pure (Builtin.zeroCells (← zeroValue e).cells m.toNat)) K X h := by
    intro K h hK
    by_cases hm0 : m.toNat = 0
    · rw [hm0] at hK ⊢
      rw [if_pos (Nat.zero_mul _)]
      have : zerosL z.cells 0 = [] := by simp [zerosL]
      rw [this] at hK
      exact hK
    · rw [if_neg (by
        intro k
        rcases Nat.mul_eq_zero.1 k with k | k <;> omega)]
      simp only [wpH_bind', hZV, zeroCells_eq]
      exact hK
  have h48 : (2 : Int) ^ 48 = 281474976710656 := by decide
  simp only [Builtin.append_, List.getElem?_toArray, List.getElem?_cons_zero, List.getElem?_cons_succ, wpH_bind', wpH_underlying hu, wpH_underlying hu2, wpH_pure, hSO, hai, hw, if_true, Bool.not_true, Bool.false_eq_true, if_false]
  rw [if_neg (by omega)]
  simp only [wpH_bind', hTI]
  rw [if_neg (by rw [h48]; omega)]
  simp only [wpH_bind', wpH_pure]
  by_cases hn : n + m.toNat ≤ c
  · rw [if_pos hn]
    simp only [wpH_bind']
    refine hap _ _ ?_
    have hput := putRow_spec (ch := true) (P := P) (X := X) (H1 hn)
    cases p with
    | none => exact ⟨_, _, _, rfl, hput⟩
    | some a =>
      simp only [wpH_bind'] at hput ⊢
      refine wpH_mono ?_ (fun _ _ hx => hx) _ _ hput
      intro u h'' hk
      exact ⟨_, _, _, rfl, hk⟩
  · obtain ⟨hlim, hcap, old, h1, h3⟩ := H2 (by omega)
    rw [if_neg hn]
    simp only [wpH_bind', hTI]
    rw [if_neg (by
      have : IntKind.i64.max = 9223372036854775807 := by decide
      intro h0; have := h0.1; omega)]
    simp only [wpH_bind', hTI]
    rw [if_neg (by
      have : (2 : Nat) ^ 48 = 281474976710656 := by decide
      omega)]
    simp only [wpH_bind', hTI]
    refine ⟨rfl, rfl, fun tt => ?_⟩
    refine hroom _ _ _ ?_
    refine wpH_mono ?_ (fun _ _ hx => hx) _ _ (firstCells_spec (ch := true) (P := P) h1)
    rintro r h' ⟨rfl, rfl⟩
    refine hap _ _ ?_
    rw [hZV]
    simp only [newRow, newObj, wpH_bind', wpH, wpH_pure, zeroCells_eq, List.append_toArray]
    refine ⟨_, _, _, rfl, h3 _ ?_ ?_⟩
    · exact Nat.le_add_right _ _
    · show n + m.toNat + tt % (2 ^ 63 - (n + m.toNat)) < 9223372036854775808 + (n + m.toNat)
      have := Nat.mod_lt tt (show 0 < 2 ^ 63 - (n + m.toNat) by omega)
      omega
theorem oneCell_cells {v : Value} (h : oneCell v = true) : v.cells = #[v] := by cases v <;> first | rfl | cases h
theorem sem_unit {α : Type} (x : Sem α) : x.bind .pure = x := by
  induction x
  case pure => rfl
  all_goals first
    | rfl
    | (rename_i ih; simp only [Sem.bind]; first | rw [ih] | (congr 1; funext b; exact ih b))
theorem sem_assoc {α β γ : Type} (x : Sem α) (f : α → Sem β) (g : β → Sem γ) : (x.bind f).bind g = x.bind fun a => (f a).bind g := by
  induction x
  case pure => rfl
  all_goals first
    | rfl
    | (rename_i ih; simp only [Sem.bind]; first | rw [ih] | (congr 1; funext b; exact ih b))
theorem mapM_one {α β : Type} (f : α → Sem β) (a : α) : (#[a] : Array α).mapM f = (f a).bind fun b => .pure #[b] := by
  have L : LawfulMonad Sem := LawfulMonad.mk' (m := Sem) (fun x => sem_unit x) (fun _ _ => rfl) (fun x f g => sem_assoc x f g)
  rw [Array.mapM_eq_foldlM, ← Array.foldlM_toList]
  show ((f a).bind fun b => Sem.pure (#[].push b)).bind Sem.pure = _
  rw [sem_unit]
  rfl
theorem oneFn_spec {X : Halt → Heap → Prop} {t : TypeId} {v : Value} {h : Heap} {K : Value → Prop} (H : oneFn P t = true) (hv : oneCell v = true) (k : K (.agg #[v])) :
    wpH ch P (Instr.build t #[(0, v)]) (fun r h' => h' = h ∧ K r) X h := by
  unfold oneFn at H
  split at H
  · rename_i fs z hu hz
    split at H
    · rename_i f hf
      split at H
      · rename_i ps rs vv hft
        simp only [Bool.and_eq_true] at H
        have h0 := Nat.eq_of_beq_eq_true H.1.1
        have h1 := Nat.eq_of_beq_eq_true H.1.2
        have h2 := Nat.eq_of_beq_eq_true H.2
        obtain ⟨i, hi, hiz⟩ : ∃ i, P.info? t = some i ∧ i.zero = some z := by
          cases hi : P.info? t with
          | none => rw [hi] at hz; cases hz
          | some i => rw [hi] at hz; exact ⟨i, rfl, hz⟩
        have hZ : ∀ (K : Value → Heap → Prop) (h : Heap), wpH ch P (zeroValue t) K X h = K z h := by
          intro K h; simp [zeroValue, typeInfo, wpH_bind', program, wpH, hi, wpH_pure, hiz]
        have efs : fs = #[f] := by cases fs; simp at hf; simp [hf]
        subst efs
        have hfi := info_of_underlying hft
        have hc := oneCell_cells hv
        have hzs : ∃ u, z.cells = #[u] := by
          generalize z.cells = cs at h2
          obtain ⟨l⟩ := cs
          match l, h2 with
          | [u], _ => exact ⟨u, rfl⟩
        obtain ⟨u, hzu⟩ := hzs
        have hM : ∀ (K : Array (Nat × Nat) → Heap → Prop) (h : Heap), K #[(0, 1)] h → wpH ch P ((#[f] : Array Field).mapM fun f => do pure (f.offset, ← sizeOf f.type)) K X h := by
          intro K h hK
          rw [mapM_one]
          rw [wpH_bind, wpH_bind', wpH_sizeOf hfi, h0, h1]
          exact hK
        simp only [Instr.build, wpH_bind', hZ, wpH_underlying hu]
        refine hM _ _ ?_
        simp [Instr.fill, hc, hzu, wpH_pure]
        exact k
      · cases H
    · cases H
  · cases H
theorem OpW_sound {o : Oper} {ρ : Env} {K : Env → Heap → Prop} {Q : Post} {h : Heap} (H : OpW P B N o ρ K Q h) : OpS P B N o ρ K Q h := by
  obtain ⟨dst, op, ty, pos, after, guard⟩ := o
  unfold OpW at H
  cases op <;> simp only at H
  case move x => exact OpS_of_wpH P B N H
  case assign x => exact OpS_of_wpH P B N H
  case pick c x y =>
    refine of_val (s := do pure (if ← asBool (ρ.get N c) then ρ.get N x else ρ.get N y)) (by
      show (do pure (Next.value (if ← asBool (ρ.get N c) then ρ.get N x else ρ.get N y))) = _
      cases ρ.get N c <;> rfl) ?_
    split at H
    · rename_i cb p q hc hx hy
      rw [hc]; simp only [asBool, wpH_bind', wpH_pure, hx, hy]
      refine ⟨trivial, ?_⟩
      cases cb <;> exact H
    · rename_i hc _
      rw [hc]; exact ⟨rfl, H⟩
    · first
        | (rename_i hc _; rw [hc]; exact ⟨rfl, H⟩)
        | (rename_i hc; rw [hc]; exact ⟨rfl, H⟩)
        | (rename_i hc _ _ _; rw [hc]; exact ⟨rfl, H⟩)
    · exact H.elim
  case load t x =>
    refine of_val rfl ?_
    split at H
    · rename_i p hx
      obtain ⟨b, o, rfl, H⟩ := H
      rw [hx]
      exact loadVar_spec H
    · exact H.elim
  case store t x y =>
    split at H
    · rename_i p hx
      obtain ⟨b, o, rfl, H⟩ := H
      obtain ⟨hc, H⟩ := cond_false_elim H
      simp only [Bool.and_eq_true] at hc
      apply OpS_of_wpH
      show wpH true P (do Instr.storeAt t (ρ.get N x) (ρ.get N y); pure Next.skip) _ _ h
      rw [wpH_bind', hx]
      simp only [Instr.storeAt, Instr.sureAddr, storeVar, wpH_bind', wpH_pure, wpH_sizeOf hc.2]
      rw [if_neg (by simpa using Nat.eq_of_beq_eq_true hc.1)]
      exact wpH_mono (fun _ _ hk => hk) (fun _ _ hx => hx) _ _ (storeCells_spec (ch := true) (P := P) b _ o 0 h _ H)
    · exact H.elim
  case fieldAddr s x f =>
    refine of_val rfl ?_
    split at H
    · rename_i p fs hx hu
      split at H
      · rename_i fd hf
        obtain ⟨hc, H1⟩ := cond_false_elim H
        obtain ⟨b, o, rfl, H2⟩ := H1
        rw [hx]
        exact fieldAt_spec hu hf hc H2
      · exact H.elim
    · exact H.elim
  case indexAddr t x i =>
    refine of_val rfl ?_
    split at H
    · rename_i e p n c k i hu hx hi
      obtain ⟨hc, H⟩ := cond_false_elim H
      rw [hx, hi]
      exact indexAt_slice_spec hu hc H
    · rename_i n e p k i hu hx hi
      obtain ⟨hc, H⟩ := cond_false_elim H
      rw [hx, hi]
      exact indexAt_array_spec hu hc H
    · exact H.elim
  case index t x i =>
    split at H
    · rename_i s k i hu hx hi
      obtain ⟨h0, b, hb, H⟩ := H
      refine of_val rfl ?_
      rw [hx, hi]
      simp only [Instr.index, asIntOf, wpH_bind', wpH_pure, wpH_underlying hu, if_pos h0, hb]
      exact ⟨trivial, H⟩
    · rename_i n e cs k i hu hx hi
      obtain ⟨hc, h0, h1, H⟩ := cond_false_elim H
      obtain ⟨v, hv, H⟩ := exV_spec H
      refine of_val rfl ?_
      rw [hx, hi]
      simp only [Instr.index, asIntOf, wpH_bind', wpH_pure, wpH_underlying hu, h0, h1, and_self, if_true, wpH_sizeOf hc]
      exact partV_spec hc hv ⟨rfl, H⟩
    · exact OpS_of_wpH P B N H
  case convert s d x =>
    split at H
    · rename_i f a f0 f' hx hu hd
      refine of_val rfl ?_
      rw [hx]
      obtain ⟨h1, h2⟩ := H
      simp only [convert, wpH_bind', wpH_underlying hu, wpH_underlying hd, Conv.floatToFloat]
      by_cases hf : f = f'
      · rw [if_pos hf]
        subst hf
        exact ⟨rfl, h1 rfl⟩
      · rw [if_neg hf]
        have H := h2 hf
        split at H
        · rename_i hd'
          rw [hd']
          exact ⟨rfl, rfl, fun t => ⟨rfl, H t⟩⟩
        · rename_i hd'
          rw [hd']
          exact ⟨rfl, H⟩
        · rename_i hd'
          rw [hd']
          simp only []
          split
          · rename_i hi
            exact ⟨rfl, rfl, fun t => ⟨rfl, H.1 hi t⟩⟩
          · rename_i hi
            exact ⟨rfl, H.2 (by simpa using hi)⟩
    · rename_i f a f0 k hx hu hd
      refine of_val rfl ?_
      rw [hx]
      unfold cviW at H
      simp only [convert, wpH_bind', wpH_underlying hu, wpH_underlying hd, Conv.floatToInt]
      split at H
      · rename_i n hn
        rw [hn]
        simp only []
        split
        · rename_i hc
          exact ⟨rfl, H.1 hc⟩
        · rename_i hc
          exact ⟨rfl, rfl, fun t => ⟨rfl, H.2 hc t⟩⟩
      · rename_i hn
        rw [hn]
        exact ⟨rfl, rfl, fun t => ⟨rfl, H t⟩⟩
    · exact OpS_of_wpH P B N H
  case slice t x lo hi mx =>
    refine of_val rfl ?_
    split at H
    · rename_i e p n c hu hx
      obtain ⟨hc, H⟩ := cond_false_elim H
      rw [hx]
      simp only [Instr.sliceAt, Instr.slice, wpH_bind', wpH_underlying hu]
      refine wpH_mono ?_ (fun _ _ hx => hx) _ _ (slW_spec (ch := true) (P := P) H)
      rintro ⟨l, hh, m⟩ h' ⟨rfl, hk⟩
      simp only [wpH_sizeOf hc, wpH_pure]
      exact ⟨trivial, hk⟩
    · exact H.elim
  case nilCheck x =>
    split at H
    · rename_i p hx
      obtain ⟨b, o, rfl, H⟩ := H
      apply OpS_of_wpH
      simp only [execOp, hx, wpH_pure]
      exact H
    · exact OpS_of_wpH P B N H
  case binOp op t x y ty' =>
    refine of_val rfl ?_
    split at H
    · rename_i k a k' b hx hy
      have hg : ∀ (K : Unit → Heap → Prop) X, wpH true P (eqGuard op t x y (.int k a) (.int k' b)) K X h = K () h := by
        intro K X; cases op <;> rfl
      rw [hx, hy, wpH_bind', hg]
      cases op <;> first
        | exact shW_spec (.inl rfl) t H
        | exact shW_spec (.inr rfl) t H
        | (obtain ⟨hk, H1⟩ := cond_false_elim H; clear H; obtain rfl := of_decide_eq_true hk; exact intW_spec (by decide) (by decide) t H1)
    · rename_i f a f' b hx hy
      obtain ⟨hk, H1⟩ := cond_false_elim H
      clear H
      have H := H1
      clear H1
      simp only [Bool.and_eq_true, decide_eq_true_eq] at hk
      obtain ⟨rfl, h1, h2⟩ := hk
      have hg : ∀ (K : Unit → Heap → Prop) X, wpH true P (eqGuard op t x y (.float f a) (.float f b)) K X h = K () h := by
        intro K X; cases op <;> rfl
      rw [hx, hy, wpH_bind', hg]
      exact fltW_spec h1 h2 t H
    · split at H
      · exact eqlW_spec (.inl ⟨rfl, rfl⟩) H x y
      · exact eqlW_spec (.inr ⟨rfl, rfl⟩) H x y
      · exact H.elim
  case makeSlice t l c =>
    split at H
    · rename_i e k l k' c hu hl hc
      split at H
      · rename_i i hi
        split at H
        · rename_i z hz
          obtain ⟨h0, h1, h2, h3, H⟩ := H
          obtain ⟨h4, H⟩ := cond_false_elim H
          apply OpS_of_wpH
          show wpH true P (do let v ← Instr.makeSlice t (ρ.get N _) (ρ.get N _); pure (Next.value v)) _ _ h
          rw [wpH_bind', hl, hc]
          exact makeSlice_spec hu hi hz h0 h1 h2 h3 h4 H
        · exact H.elim
      · exact H.elim
    · exact H.elim
  case build t parts =>
    cases hb : oneFn P t with
    | false => rw [hb] at H; exact OpS_of_wpH P B N H
    | true =>
      rw [hb] at H
      simp only [cond_true] at H
      split at H
      · rename_i x hp
        have : parts = #[(0, x)] := by cases parts; simp at hp; simp [hp]
        subst this
        refine of_val (s := Instr.build t #[(0, ρ.get N x)]) (by
          show (do pure (Next.value (← Instr.build t ((#[(0, x)] : Array (Nat × Operand)).map fun (i, x) => (i, ρ.get N x))))) = _
          simp) ?_
        exact oneFn_spec (K := fun v => K (ρ.put dst v) h) hb H.1 H.2
      · exact OpS_of_wpH P B N H
  case call c =>
    split at H
    · rename_i f hc
      have he : execOp (ρ.get N) ⟨dst, .call c, ty, pos, after, guard⟩ = callFunc f (c.args.map (ρ.get N)) := by
        show (do let d ← resolve (ρ.get N) c ty; invoke d.target d.args) = _
        unfold resolve
        rw [hc]
        show invoke (.fn (.func f) #[]) (#[] ++ c.args.map (ρ.get N)) = _
        unfold invoke
        simp
      rcases H with ⟨f', hrun, hfn⟩ | H
      · intro a n hr
        unfold Oper.wp
        rw [hr.eval, he, hrun]
        refine (hfn n).mono ?_
        rintro e w' ⟨h'', n'', rfl, hE⟩
        cases e with
        | returned v => exact ⟨_, _, _, hr.put _ _, rfl, caV_spec (P := P) (t := ty) (K := fun v => K (ρ.put dst v) h'') hE⟩
        | panicked ch => exact ⟨_, _, _, hr, rfl, hE⟩
        | outgrown => exact hE.elim
      intro a n hr
      obtain ⟨v, h', n', hrun, hE⟩ := H n
      unfold Oper.wp
      rw [hr.eval, he, hrun]
      exact ⟨_, _, _, hr.put _ _, rfl, caV_spec (P := P) (t := ty) (K := fun v => K (ρ.put dst v) h') hE⟩
    · rename_i fv _ hc
      unfold EntV at H
      split at H
      · rename_i f first cap hv
        have he : execOp (ρ.get N) ⟨dst, .call c, ty, pos, after, guard⟩ = callFunc f (first ++ c.args.map (ρ.get N) ++ cap) := by
          show (do let d ← resolve (ρ.get N) c ty; invoke d.target d.args) = _
          unfold resolve
          rw [hc]
          show (do let d ← Deferred.ofValue (ρ.get N fv) (c.args.map (ρ.get N)); invoke d.target d.args) = _
          rw [hv]
          rfl
        rcases H with ⟨f', hrun, hfn⟩ | H
        · intro a n hr
          unfold Oper.wp
          rw [hr.eval, he, hrun]
          refine (hfn n).mono ?_
          rintro e w' ⟨h'', n'', rfl, hE⟩
          cases e with
          | returned v => exact ⟨_, _, _, hr.put _ _, rfl, caV_spec (P := P) (t := ty) (K := fun v => K (ρ.put dst v) h'') hE⟩
          | panicked ch => exact ⟨_, _, _, hr, rfl, hE⟩
          | outgrown => exact hE.elim
        intro a n hr
        obtain ⟨v, h', n', hrun, hE⟩ := H n
        unfold Oper.wp
        rw [hr.eval, he, hrun]
        exact ⟨_, _, _, hr.put _ _, rfl, caV_spec (P := P) (t := ty) (K := fun v => K (ρ.put dst v) h') hE⟩
      · exact H.elim
    · rename_i hc
      split at H
      · rename_i n q t hl ht
        split at H
        · rename_i e hu
          refine of_val (s := Builtin.len_ c.argTypes ty (c.args.map (ρ.get N))) ?_ ?_
          · show (do let d ← resolve (ρ.get N) c ty; invoke d.target d.args) = _
            unfold resolve
            rw [hc]
            rfl
          · rw [toArr hl, toArr ht]
            exact builtin_len_spec hu H ty
        · exact H.elim
      · exact OpS_of_wpH P B N H
    · rename_i hc
      split at H
      · rename_i p n q t hl ht
        split at H
        · rename_i e hu
          refine of_val (s := Builtin.cap_ c.argTypes ty (c.args.map (ρ.get N))) ?_ ?_
          · show (do let d ← resolve (ρ.get N) c ty; invoke d.target d.args) = _
            unfold resolve
            rw [hc]
            rfl
          · rw [toArr hl, toArr ht]
            exact builtin_cap_spec hu H ty
        · exact H.elim
      · exact OpS_of_wpH P B N H
    · rename_i hc
      refine of_val (s := Builtin.min_ c.argTypes ty (c.args.map (ρ.get N))) ?_ ?_
      · show (do let d ← resolve (ρ.get N) c ty; invoke d.target d.args) = _
        unfold resolve
        rw [hc]
        rfl
      · have := minW_spec (ch := true) (P := P) (X := haltK ρ Q) (h := h) H c.argTypes ty
        rw [show (c.args.map (ρ.get N)).toList.toArray = c.args.map (ρ.get N) from (toArr rfl).symm] at this
        exact this
    · rename_i hc
      refine of_val (s := Builtin.max_ c.argTypes ty (c.args.map (ρ.get N))) ?_ ?_
      · show (do let d ← resolve (ρ.get N) c ty; invoke d.target d.args) = _
        unfold resolve
        rw [hc]
        rfl
      · have := minW_spec (ch := true) (P := P) (X := haltK ρ Q) (h := h) H c.argTypes ty
        rw [show (c.args.map (ρ.get N)).toList.toArray = c.args.map (ρ.get N) from (toArr rfl).symm] at this
        exact this
    · rename_i hc
      split at H
      · rename_i p n c1 q m c2 t t2 hl ht
        split at H
        · rename_i e hu
          obtain ⟨hi, H1⟩ := cond_false_elim H
          apply OpS_of_wpH
          have he : execOp (ρ.get N) ⟨dst, .call c, ty, pos, after, guard⟩ = (do pure (Next.value (← Builtin.copy_ c.argTypes ty (c.args.map (ρ.get N))))) := by
            show (do let d ← resolve (ρ.get N) c ty; invoke d.target d.args) = _
            unfold resolve
            rw [hc]
            rfl
          rw [he, wpH_bind', toArr hl, toArr ht]
          refine wpH_mono ?_ (fun _ _ hx => hx) _ _ (copy_spec (ch := true) hu hi H1 ty)
          rintro v h' ⟨k, rfl, hk⟩
          exact hk
        · exact H.elim
      · exact H.elim
    · rename_i hc
      split at H
      · rename_i p n c1 t hl ht
        split at H
        · rename_i e hu
          split at H
          · rename_i z hz
            apply OpS_of_wpH
            have he : execOp (ρ.get N) ⟨dst, .call c, ty, pos, after, guard⟩ = (do pure (Next.value (← Builtin.clear_ c.argTypes ty (c.args.map (ρ.get N))))) := by
              show (do let d ← resolve (ρ.get N) c ty; invoke d.target d.args) = _
              unfold resolve
              rw [hc]
              rfl
            rw [he, wpH_bind', toArr hl, toArr ht]
            refine wpH_mono ?_ (fun _ _ hx => hx) _ _ (clear_spec (ch := true) hu hz H ty)
            rintro v h' ⟨rfl, hk⟩
            exact hk
          · exact H.elim
        · exact H.elim
      · exact H.elim
    · rename_i hc
      split at H
      · rename_i p n c1 q m c2 t t2 hl ht
        split at H
        · rename_i e e2 hu hu2
          split at H
          · rename_i i hi
            split at H
            · rename_i z hz
              apply OpS_of_wpH
              have he : execOp (ρ.get N) ⟨dst, .call c, ty, pos, after, guard⟩ = (do pure (Next.value (← Builtin.append_ c.argTypes ty (c.args.map (ρ.get N))))) := by
                show (do let d ← resolve (ρ.get N) c ty; invoke d.target d.args) = _
                unfold resolve
                rw [hc]
                rfl
              rw [he, wpH_bind', toArr hl, toArr ht]
              refine wpH_mono ?_ (fun _ _ hx => hx) _ _ (append_spec hu hu2 hi hz H ty)
              rintro v h' ⟨q, n, c, rfl, hk⟩
              exact hk
            · exact H.elim
          · exact H.elim
        · exact H.elim
      · rename_i p n c1 ik m t t2 hl ht
        split at H
        · rename_i e k2 hu hu2
          split at H
          · rename_i i hi
            split at H
            · rename_i z hz
              apply OpS_of_wpH
              have he : execOp (ρ.get N) ⟨dst, .call c, ty, pos, after, guard⟩ = (do pure (Next.value (← Builtin.append_ c.argTypes ty (c.args.map (ρ.get N))))) := by
                show (do let d ← resolve (ρ.get N) c ty; invoke d.target d.args) = _
                unfold resolve
                rw [hc]
                rfl
              rw [he, wpH_bind', toArr hl, toArr ht]
              refine wpH_mono ?_ (fun _ _ hx => hx) _ _ (appendZ_spec hu hu2 hi hz H ty)
              rintro v h' ⟨q, n, c, rfl, hk⟩
              exact hk
            · exact H.elim
          · exact H.elim
        · exact H.elim
      · exact H.elim
    · exact H.elim
  case defer c =>
    split at H
    · rename_i f hc
      apply OpS_of_wpH
      have he : execOp (ρ.get N) ⟨dst, .defer c, ty, pos, after, guard⟩ = pure (.defer { target := .fn (.func f) #[], args := c.args.map (ρ.get N) }) := by
        show (do pure (Next.defer (← resolve (ρ.get N) c ty))) = _
        unfold resolve
        rw [hc]
        show pure (Next.defer { target := .fn (.func f) #[], args := #[] ++ c.args.map (ρ.get N) }) = (pure (.defer { target := .fn (.func f) #[], args := c.args.map (ρ.get N) }) : Sem Next)
        simp
      rw [he]
      exact H
    · exact H.elim
  case panic x =>
    split at H
    · rename_i t v hx
      apply OpS_of_wpH
      show wpH true P (do let v ← Instr.panic (ρ.get N x); pure (Next.value v)) _ _ h
      rw [hx]
      exact H
    · exact H.elim
  all_goals exact OpS_of_wpH P B N H
end
end Go.Eng
namespace Go.Eng
open Go
section
variable {P : Program} {ops : Array Oper} {Q : Exit → Act → World → Prop}

/-- An operation that yields v at every world of the class C, which it leaves as it is. -/
def YieldsC (P : Program) (ops : Array Oper) (C : World → Prop) (o : Oper) (v : Value) (a : Act) : Prop :=
  (Region.wanted o (yielded ops a.tmps) = true ∧ ∀ w, C w → (execOp a.eval o).run P w = .ok (.value v) w) ∨
  (Region.wanted o (yielded ops a.tmps) = false ∧ v = undef)
theorem YieldsC.wpOp {C : World → Prop} {i : Nat} {o : Oper} {v : Value} {a : Act} (hi : ops[i]? = some o) (hy : YieldsC P ops C o v a)
    {K : Act → World → Prop} {w : World} (hC : C w) (h : K (a.put o.dst v) w) : wpOp P ops Q i K a w := by
  unfold Go.wpOp
  simp only [hi]
  rcases hy with ⟨hw, hv⟩ | ⟨hw, rfl⟩
  · simp only [hw, if_true, Oper.wp, hv w hC, Oper.upon]; exact .inl h
  · simp only [hw, Bool.false_eq_true, if_false]; exact h
theorem YieldsC.of_same {C : World → Prop} {o : Oper} {v : Value} {a a' : Act} (hy : YieldsC P ops C o v a) (he : execOp a'.eval o = execOp a.eval o)
    (hw : Region.wanted o (yielded ops a'.tmps) = Region.wanted o (yielded ops a.tmps)) : YieldsC P ops C o v a' := by
  unfold YieldsC at *
  rw [he, hw]
  exact hy

theorem wpOp_putC {C : World → Prop} {j : Nat} {oi oj : Oper} {v : Value} (hj : ops[j]? = some oj) (hap : oi.apart ops oj = true)
    (hsi : ∀ cs b, oi.op ≠ .select cs b) (hsj : ∀ cs b, oj.op ≠ .select cs b)
    (hQ : ∀ c a w, Q (.panic c) (a.put oi.dst v) w → Q (.panic c) a w) {K : Act → World → Prop} {a : Act} {w : World}
    (hy : YieldsC P ops C oi v a) (h : wpOp P ops Q j K (a.put oi.dst v) w) :
    wpOp P ops Q j (fun a' w' => YieldsC P ops C oi v a' ∧ K (a'.put oi.dst v) w') a w := by
  obtain ⟨h1, h2, h3⟩ := Oper.apart_spec hap
  have keep : ∀ (a : Act), YieldsC P ops C oi v a → ∀ u, YieldsC P ops C oi v (a.put oj.dst u) := fun a hy u =>
    hy.of_same (execOp_put oi hsi a oj.dst u h3) (wanted_put oi a oj.dst u h3)
  have keepD : ∀ d, YieldsC P ops C oi v { a with defers := d :: a.defers } := fun d => hy.of_same rfl rfl
  unfold wpOp at *
  simp only [hj] at *
  rw [wanted_put oj a oi.dst v h1] at h
  split
  · rename_i hw
    simp only [hw, if_true] at h
    rcases h with h | ⟨hasks, hlets⟩
    case inr => exact .inr ⟨by unfold Oper.asks at *; rw [execOp_put oj hsj a oi.dst v h1] at hasks; exact hasks, hlets⟩
    refine .inl ?_
    unfold Oper.wp at *
    rw [execOp_put oj hsj a oi.dst v h1] at h
    generalize (execOp a.eval oj).run P w = r at *
    cases r with
    | ok n w' =>
      cases n <;> simp only [Oper.upon] at h ⊢
      case value u => exact ⟨keep a hy u, by rw [← Act.put_comm a v u h2]; exact h⟩
      case skip => exact ⟨keep a hy _, by rw [← Act.put_comm a v undef h2]; exact h⟩
      case defer d =>
        refine ⟨keep _ (keepD d) _, ?_⟩
        rw [← Act.put_comm _ v undef h2, ← Act.put_defers]
        exact h
      case enter f args =>
        refine Calls.mono h fun e w'' he => ?_
        cases e with
        | returned u => exact ⟨keep a hy u, by rw [← Act.put_comm a v u h2]; exact he⟩
        | panicked c => exact hQ _ _ _ he
        | outgrown => exact he
      case row row args => exact Rows.mono h fun u w'' he => ⟨keep a hy u, by rw [← Act.put_comm a v u h2]; exact he⟩
    | halt x w' =>
      cases x <;> simp only [Oper.upon] at h ⊢
      case panic u => exact hQ _ _ _ h
  · rename_i hw
    simp only [hw] at h
    exact ⟨keep a hy _, by rw [← Act.put_comm a v undef h2]; exact h⟩

/-- 'wpAny', each operation's post with a fact on the worlds ahead of it and behind it. -/
def wpAnyG (P : Program) (ops : Array Oper) (Q : Exit → Act → World → Prop) (G : Nat → World → World → Prop) : Nat → Array Bool → Act → World → Prop
  | 0, listed, a, w => Region.ready .any ops listed = [] ∧ Q .normal a w
  | fuel + 1, listed, a, w =>
    (Region.ready .any ops listed = [] → Q .normal a w) ∧
    ∀ i ∈ Region.ready .any ops listed, wpOp P ops Q i (fun a' w' => G i w w' ∧ wpAnyG P ops Q G fuel (listed.setIfInBounds i true) a' w') a w
theorem wpAny_of_G {G : Nat → World → World → Prop} : ∀ (fuel : Nat) (listed : Array Bool) (a : Act) (w : World), wpAnyG P ops Q G fuel listed a w → wpAny P .any ops Q fuel listed a w
  | 0, _, _, _, h => h
  | fuel + 1, _, _, _, h => ⟨h.1, fun i hi => wpOp_mono (fun a' w' h' => wpAny_of_G fuel _ a' w' h'.2) (h.2 i hi)⟩

theorem ready_sup {j : Nat} {listed Lst : Array Bool} (hs : ∀ k, listed.getD k false = true → Lst.getD k false = true)
    (hj : j ∈ Region.ready .any ops listed) (hn : Lst.getD j true = false) : j ∈ Region.ready .any ops Lst := by
  rw [mem_ready] at *
  obtain ⟨_, o, ho, hall⟩ := hj
  exact ⟨hn, o, ho, fun e he hb => hs _ (hall e he hb)⟩

theorem wpAnyG_first {C : World → Prop} {R : World → World → Prop} (hR : ∀ w w', R w w' → C w → C w') {G : Nat → World → World → Prop} {i : Nat} {oi : Oper} {v : Value} (hi : ops[i]? = some oi) (hsel : ∀ (j : Nat) (o : Oper) cs b, ops[j]? = some o → o.op ≠ .select cs b)
    (hQ : ∀ c a w, Q (.panic c) (a.put oi.dst v) w → Q (.panic c) a w) (hGi : ∀ w, G i w w)
    {Lst : Array Bool} (hLi : ∀ j, j ∈ Region.ready .any ops Lst → j = i) (hLs : Lst.size = ops.size) :
    ∀ (fuel : Nat) (listed : Array Bool) (a : Act) (w : World),
      (∀ k, listed.getD k false = true → Lst.getD k false = true) →
      (∀ j oj, ops[j]? = some oj → j ≠ i → listed.getD j true = false → Lst.getD j false = true → oi.apart ops oj = true) →
      i ∈ Region.ready .any ops listed → YieldsC P ops C oi v a → C w →
      wpAnyG P ops Q (fun j w w' => G j w w' ∧ (Lst.getD j false = true → R w w')) fuel (listed.setIfInBounds i true) (a.put oi.dst v) w →
      wpAnyG P ops Q G (fuel + 1) listed a w := by
  have weak : ∀ (fuel : Nat) (listed : Array Bool) (a : Act) (w : World),
      wpAnyG P ops Q (fun j w w' => G j w w' ∧ (Lst.getD j false = true → R w w')) fuel listed a w → wpAnyG P ops Q G fuel listed a w := by
    intro fuel
    induction fuel with
    | zero => exact fun _ _ _ h => h
    | succ fuel ih => exact fun _ _ _ h => ⟨h.1, fun i hi => wpOp_mono (fun a' w' h' => ⟨h'.1.1, ih _ a' w' h'.2⟩) (h.2 i hi)⟩
  intro fuel
  induction fuel with
  | zero =>
    intro listed a w _ _ hr hy hC H
    refine ⟨fun h => (by rw [h] at hr; cases hr), fun j hj => ?_⟩
    by_cases hji : j = i
    · subst hji; exact hy.wpOp hi hC ⟨hGi w, H⟩
    · have := ready_mono hj hji
      rw [H.1] at this
      cases this
  | succ fuel ih =>
    intro listed a w hsub hfree hr hy hC H
    refine ⟨fun h => (by rw [h] at hr; cases hr), fun j hj => ?_⟩
    by_cases hji : j = i
    · subst hji; exact hy.wpOp hi hC ⟨hGi w, weak _ _ _ _ H⟩
    · have h1 := H.2 j (ready_mono hj hji)
      obtain ⟨hjun, oj, hoj, hall⟩ := mem_ready.1 hj
      have hjs : j < ops.size := by
        rcases Nat.lt_or_ge j ops.size with h | h
        · exact h
        · rw [Array.getElem?_eq_none h] at hoj; cases hoj
      have hjT : Lst.getD j false = true := by
        cases hx : Lst.getD j false with
        | true => rfl
        | false =>
          have hx' : Lst.getD j true = false := by
            have hjl : j < Lst.size := by omega
            simp only [Array.getD_eq_getD_getElem?, Array.getElem?_eq_getElem hjl, Option.getD_some] at hx ⊢
            exact hx
          exact absurd (hLi j (ready_sup hsub hj hx')) hji
      have h2 := wpOp_putC hoj (hfree j oj hoj hji hjun hjT) (fun cs b => hsel i oi cs b hi) (fun cs b => hsel j oj cs b hoj) hQ hy h1
      have hfree' : ∀ k ok, ops[k]? = some ok → k ≠ i → (listed.setIfInBounds j true).getD k true = false → Lst.getD k false = true → oi.apart ops ok = true := fun k ok hk hki hun hT => by
        refine hfree k ok hk hki ?_ hT
        by_cases hjk : j = k
        · subst hjk; exact hjun
        · rw [getD_set_ne true hjk] at hun; exact hun
      have hsub' : ∀ k, (listed.setIfInBounds j true).getD k false = true → Lst.getD k false = true := fun k hk => by
        by_cases hjk : j = k
        · subst hjk; exact hjT
        · rw [getD_set_ne false hjk] at hk; exact hsub k hk
      refine wpOp_mono (fun a' w' h3 => ?_) h2
      obtain ⟨h3, ⟨hG, hCT⟩, h4⟩ := h3
      refine ⟨hG, ih (listed.setIfInBounds j true) a' w' hsub' hfree' (ready_mono hr (Ne.symm hji)) h3 (hR _ _ (hCT hjT) hC) ?_⟩
      rw [Array.setIfInBounds_comm _ _ hji]
      exact h4
end
end Go.Eng
namespace Go.Eng
open Go

def memN : List Nat → Nat → Bool
  | [], _ => false
  | x :: xs, y => bif Nat.beq x y then true else memN xs y
def eqB : Bool → Bool → Bool
  | true, b => b
  | false, true => false
  | false, false => true
theorem eqB_spec (a b : Bool) : eqB a b = (a == b) := by cases a <;> cases b <;> rfl

/-- The model's own text, run where it looks at no memory. -/
def pureRun {α : Type} (P : Program) : Sem α → Option α
  | .pure a => some a
  | .program k => pureRun P (k P)
  | .mark _ k => pureRun P k
  | _ => none
theorem pureRun_run {α : Type} {P : Program} : ∀ (s : Sem α) {a : α}, pureRun P s = some a → ∀ w, s.run P w = .ok a w := by
  intro s
  induction s with
  | pure b => intro a h w; obtain rfl := Option.some.inj h; rfl
  | program k ih => intro a h w; exact ih P h w
  | mark m k ih => intro a h w; exact ih h w
  | _ => intro a h; cases h

section
variable (P : Program) (N : Nat)

def isIntT (t : TypeId) : Bool := match P.underlying t with | some (.int _) => true | _ => false
def isFltT (t : TypeId) : Bool := match P.underlying t with | some (.float _) => true | _ => false
def isBoolT (t : TypeId) : Bool := match P.underlying t with | some .bool => true | _ => false
def cmpOp : BinOp → Bool
  | .eql | .neq | .lss | .leq | .gtr | .geq => true
  | _ => false
/-- Operations that look at no memory and do not draw. -/
def pureK (o : Oper) : Bool :=
  match o.op with
  | .move _ | .assign _ | .pick .. | .extract .. | .fieldAddr .. | .indexAddr .. | .slice .. | .nilCheck _ | .makeInterface .. | .build .. | .unOp .. | .field .. | .makeFunc .. => true
  | .binOp op t _ _ _ => isIntT P t || isBoolT P t || (isFltT P t && cmpOp op)
  | .convert s d _ => isIntT P s && (isIntT P d || isFltT P d)
  | .call c => match c.callee with | .builtin .len | .builtin .cap | .builtin .min | .builtin .max => true | _ => false
  | _ => false
def PW (o : Oper) (ρ : Env) (K : Value → Prop) : Prop :=
  let g := ρ.get N
  let gen : Prop := match pureRun P (execOp g o) with | some (.value v) => K v | _ => False
  match o.op with
  | .move x | .assign x => K (g x)
  | .pick c x y =>
    match g c, g x, g y with
    | .bool c, .bool p, .bool q => K (.bool (bif c then p else q))
    | .bool true, p, _ => K p
    | .bool false, _, q => K q
    | _, _, _ => False
  | .fieldAddr s x f =>
    match g x, P.underlying s with
    | .pointer p, some (.struct fs) =>
      (match fs[f]? with
      | some fd => bif Nat.blt 0 (P.cellsOf fd.type) then isP p fun b o' => K (.pointer (some ⟨b, o' + fd.offset, none⟩)) else False
      | none => False)
    | _, _ => False
  | .indexAddr t x i =>
    match P.underlying t, g x, g i with
    | some (.slice e), .slice p n _, .int _ i => bif (P.info? e).isSome then ixW p n i (P.cellsOf e) fun b o' => K (.pointer (some ⟨b, o', none⟩)) else False
    | some (.array n e), .pointer p, .int _ i => bif (P.info? e).isSome then ixW p n i (P.cellsOf e) fun b o' => K (.pointer (some ⟨b, o', none⟩)) else False
    | _, _, _ => False
  | .slice t x lo hi mx =>
    match P.underlying t, g x with
    | some (.slice e), .slice p n c => bif (P.info? e).isSome then
        slW n c (lo.map g) (hi.map g) (mx.map g) fun l h' m => K (.slice (slP p l m (P.cellsOf e)) (h' - l) (m - l)) else False
    | _, _ => False
  | .nilCheck x =>
    match g x with
    | .pointer p => isP p fun b o' => K (.pointer (some ⟨b, o', none⟩))
    | _ => gen
  | .binOp op t x y _ =>
    match g x, g y with
    | .int k a, .int k' b =>
      (match op with
      | .shl => shW .shl k a b K
      | .shr => shW .shr k a b K
      | op => bif decide (k = k') then intW op k a b K else False)
    | .float f a, .float f' b => bif decide (f = f') && cmpOp op then fltW op f a b K else False
    | _, _ => gen
  | .call c =>
    match c.callee with
    | .builtin .len =>
      (match (c.args.map g).toList, c.argTypes.toList with
      | [.slice _ n _], [t] => (match P.underlying t with | some (.slice _) => K (.int .i64 n) | _ => False)
      | _, _ => gen)
    | .builtin .cap =>
      (match (c.args.map g).toList, c.argTypes.toList with
      | [.slice _ _ n], [t] => (match P.underlying t with | some (.slice _) => K (.int .i64 n) | _ => False)
      | _, _ => gen)
    | .builtin .min => minW true (c.args.map g).toList K
    | .builtin .max => minW false (c.args.map g).toList K
    | _ => False
  | _ => gen
end

section
variable {P : Program} {N : Nat}
theorem run_of_wpH {α : Type} {s : Sem α} {v : α} (H : ∀ h, wpH false P s (fun x h' => h' = h ∧ x = v) (fun _ _ => False) h) : ∀ w, s.run P w = .ok v w := by
  intro w
  rcases wpH_run (B := w) s w.heap (H w.heap) w.drawn with ⟨x, h', n', hr, hn, rfl, rfl⟩ | ⟨x, h', n', hr, hx⟩
  · rw [hn rfl] at hr; exact hr
  · exact hx.elim
theorem run_of_val {o : Oper} {ρ : Env} {s : Sem Value} {v : Value} (he : execOp (ρ.get N) o = (do pure (Next.value (← s))))
    (H : ∀ h, wpH false P s (fun x h' => h' = h ∧ x = v) (fun _ _ => False) h) : ∀ w, (execOp (ρ.get N) o).run P w = .ok (.value v) w := by
  refine run_of_wpH fun h => ?_
  rw [he, wpH_bind']
  refine wpH_mono ?_ (fun _ _ hx => hx) _ _ (H h)
  rintro x h' ⟨rfl, rfl⟩
  exact ⟨rfl, rfl⟩

theorem bnd_firm {x : Option Value} {least most : Nat} {K : Nat → Prop} (H : bnd x least most K) : ∃ i, K i ∧ bnd x least most (fun j => j = i) := by
  unfold bnd at *
  split at H
  · exact ⟨_, H.2.2, H.1, H.2.1, rfl⟩
  · exact H.elim
  · exact ⟨_, H, rfl⟩
theorem bnd_mono {x : Option Value} {least most : Nat} {K K' : Nat → Prop} (hk : ∀ i, K i → K' i) (H : bnd x least most K) : bnd x least most K' := by
  unfold bnd at *
  split at H
  · exact ⟨H.1, H.2.1, hk _ H.2.2⟩
  · exact H
  · exact hk _ H
theorem slW_firm {n c : Nat} {lo hi mx : Option Value} {K : Nat → Nat → Nat → Prop} (H : slW n c lo hi mx K) :
    ∃ l h m, K l h m ∧ slW n c lo hi mx (fun l' h' m' => l' = l ∧ h' = h ∧ m' = m) := by
  unfold slW at *
  cases mx with
  | none =>
    obtain ⟨h, H, h1⟩ := bnd_firm H
    obtain ⟨l, H, h2⟩ := bnd_firm H
    exact ⟨l, h, c, H, bnd_mono (fun i e => by subst e; exact bnd_mono (fun j e => ⟨e, rfl, rfl⟩) h2) h1⟩
  | some mv =>
    obtain ⟨m, H, h0⟩ := bnd_firm H
    cases hi with
    | none => exact H.elim
    | some hv =>
      obtain ⟨h, H, h1⟩ := bnd_firm H
      obtain ⟨l, H, h2⟩ := bnd_firm H
      exact ⟨l, h, m, H, bnd_mono (fun k e => by subst e; exact bnd_mono (fun i e => by subst e; exact bnd_mono (fun j e => ⟨e, rfl, rfl⟩) h2) h1) h0⟩
theorem intW_firm {op : BinOp} {k : IntKind} {a b : Int} {K : Value → Prop} (H : intW op k a b K) : ∃ v, K v ∧ intW op k a b (fun x => x = v) := by
  cases op <;> simp only [intW] at * <;> first
    | exact H.elim
    | exact ⟨_, H, rfl⟩
    | exact ⟨_, H.2, H.1, rfl⟩
theorem shW_firm {op : BinOp} {k : IntKind} {a b : Int} {K : Value → Prop} (H : shW op k a b K) : ∃ v, K v ∧ shW op k a b (fun x => x = v) := by
  obtain ⟨h0, H⟩ := H
  cases op <;> simp only at H <;> first
    | exact H.elim
    | exact ⟨_, H, h0, rfl⟩
theorem fltW_firm {op : BinOp} {f : FloatKind} {a b : Nat} {K : Value → Prop} (hc : cmpOp op = true) (H : fltW op f a b K) :
    ∃ v, K v ∧ ∀ (t : TypeId) (X : Halt → Heap → Prop) (h : Heap), wpH false P (binOp op t (.float f a) (.float f b)) (fun x h' => h' = h ∧ x = v) X h := by
  cases op <;> simp only [cmpOp, Bool.false_eq_true] at hc <;> simp only [fltW] at H <;>
    exact ⟨_, H, fun t X h => by simp only [binOp, ne_eq, not_true_eq_false, if_false, Op.floatCmp]; exact ⟨rfl, rfl⟩⟩
theorem minW_firm {op : Bool} {l : List Value} {K : Value → Prop} (H : minW op l K) : ∃ v, K v ∧ minW op l (fun x => x = v) := by
  unfold minW at *
  split at H
  · obtain ⟨o, ho, H⟩ := H
    exact ⟨_, H, o, ho, rfl⟩
  · exact ⟨_, H, rfl⟩
  · exact H.elim
theorem gen_firm {o : Oper} {ρ : Env} {K : Value → Prop} (H : match pureRun P (execOp (ρ.get N) o) with | some (.value v) => K v | _ => False) :
    ∃ v, K v ∧ ∀ w, (execOp (ρ.get N) o).run P w = .ok (.value v) w := by
  split at H
  · rename_i v hv
    exact ⟨v, H, pureRun_run _ hv⟩
  · exact H.elim

theorem PW_firm {o : Oper} {ρ : Env} {K : Value → Prop} (H : PW P N o ρ K) : ∃ v, K v ∧ ∀ w, (execOp (ρ.get N) o).run P w = .ok (.value v) w := by
  obtain ⟨dst, op, ty, pos, after, guard⟩ := o
  unfold PW at H
  cases op <;> simp only at H
  case move x => exact ⟨_, H, fun w => rfl⟩
  case assign x => exact ⟨_, H, fun w => rfl⟩
  case pick c x y =>
    have he : execOp (ρ.get N) ⟨dst, .pick c x y, ty, pos, after, guard⟩ = (do pure (Next.value (if ← asBool (ρ.get N c) then ρ.get N x else ρ.get N y))) := rfl
    split at H
    · rename_i cb p q hc hx hy
      refine ⟨_, H, fun w => ?_⟩
      rw [he, hc, hx, hy]
      cases cb <;> rfl
    · first
        | (rename_i hc _; refine ⟨_, H, fun w => ?_⟩; rw [he, hc]; rfl)
        | (rename_i hc; refine ⟨_, H, fun w => ?_⟩; rw [he, hc]; rfl)
        | (rename_i hc _ _ _; refine ⟨_, H, fun w => ?_⟩; rw [he, hc]; rfl)
    · first
        | (rename_i hc _; refine ⟨_, H, fun w => ?_⟩; rw [he, hc]; rfl)
        | (rename_i hc; refine ⟨_, H, fun w => ?_⟩; rw [he, hc]; rfl)
        | (rename_i hc _ _ _; refine ⟨_, H, fun w => ?_⟩; rw [he, hc]; rfl)
    · exact H.elim
  case fieldAddr s x f =>
    split at H
    · rename_i p fs hx hu
      split at H
      · rename_i fd hf
        obtain ⟨hc, H1⟩ := cond_false_elim H
        obtain ⟨b, o, rfl, H2⟩ := H1
        refine ⟨_, H2, run_of_val rfl fun h => ?_⟩
        rw [hx]
        exact fieldAt_spec hu hf hc rfl
      · exact H.elim
    · exact H.elim
  case indexAddr t x i =>
    split at H
    · rename_i e p n c k i hu hx hi
      obtain ⟨hc, b, o, hp, h0, h1, H⟩ := cond_false_elim H
      refine ⟨_, H, run_of_val rfl fun h => ?_⟩
      rw [hx, hi]
      exact indexAt_slice_spec hu hc ⟨b, o, hp, h0, h1, rfl⟩
    · rename_i n e p k i hu hx hi
      obtain ⟨hc, b, o, hp, h0, h1, H⟩ := cond_false_elim H
      refine ⟨_, H, run_of_val rfl fun h => ?_⟩
      rw [hx, hi]
      exact indexAt_array_spec hu hc ⟨b, o, hp, h0, h1, rfl⟩
    · exact H.elim
  case slice t x lo hi mx =>
    split at H
    · rename_i e p n c hu hx
      obtain ⟨hc, H⟩ := cond_false_elim H
      obtain ⟨l, hh, m, H, hs⟩ := slW_firm H
      refine ⟨_, H, run_of_val rfl fun h => ?_⟩
      rw [hx]
      simp only [Instr.sliceAt, Instr.slice, wpH_bind', wpH_underlying hu]
      refine wpH_mono ?_ (fun _ _ hx => hx) _ _ (slW_spec (ch := false) (P := P) hs)
      rintro ⟨l', hh', m'⟩ h' ⟨rfl, rfl, rfl, rfl⟩
      simp only [wpH_sizeOf hc, wpH_pure]
      exact ⟨trivial, rfl⟩
    · exact H.elim
  case nilCheck x =>
    split at H
    · rename_i p hx
      obtain ⟨b, o, rfl, H⟩ := H
      refine ⟨_, H, fun w => ?_⟩
      simp only [execOp, hx]
      rfl
    · exact gen_firm H
  case binOp op t x y ty' =>
    split at H
    · rename_i k a k' b hx hy
      have hg : ∀ (h : Heap) (K : Unit → Heap → Prop) X, wpH false P (eqGuard op t x y (.int k a) (.int k' b)) K X h = K () h := by
        intro h K X; cases op <;> rfl
      have hcase : ∃ v, K v ∧ ∀ (X : Halt → Heap → Prop) h, wpH false P (binOp op t (.int k a) (.int k' b)) (fun x h' => h' = h ∧ x = v) X h := by
        cases op <;> first
          | (obtain ⟨v, hk, hv⟩ := shW_firm H; exact ⟨v, hk, fun X h => shW_spec (.inl rfl) t hv⟩)
          | (obtain ⟨v, hk, hv⟩ := shW_firm H; exact ⟨v, hk, fun X h => shW_spec (.inr rfl) t hv⟩)
          | (obtain ⟨hkk, H1⟩ := cond_false_elim H; clear H; obtain rfl := of_decide_eq_true hkk; obtain ⟨v, hk, hv⟩ := intW_firm H1; exact ⟨v, hk, fun X h => intW_spec (by decide) (by decide) t hv⟩)
      obtain ⟨v, hk, hv⟩ := hcase
      refine ⟨v, hk, run_of_val rfl fun h => ?_⟩
      rw [hx, hy, wpH_bind', hg]
      exact hv _ h
    · rename_i f a f' b hx hy
      obtain ⟨hkk, H1⟩ := cond_false_elim H
      clear H
      have H := H1
      clear H1
      simp only [Bool.and_eq_true, decide_eq_true_eq] at hkk
      obtain ⟨rfl, h1⟩ := hkk
      have hg : ∀ (h : Heap) (K : Unit → Heap → Prop) X, wpH false P (eqGuard op t x y (.float f a) (.float f b)) K X h = K () h := by
        intro h K X; cases op <;> rfl
      obtain ⟨v, hk, hv⟩ := fltW_firm (P := P) h1 H
      refine ⟨v, hk, run_of_val rfl fun h => ?_⟩
      rw [hx, hy, wpH_bind', hg]
      exact hv t _ h
    · exact gen_firm H
  case call c =>
    split at H
    · rename_i hc
      split at H
      · rename_i n q t hl ht
        split at H
        · rename_i e hu
          refine ⟨_, H, run_of_val (s := Builtin.len_ c.argTypes ty (c.args.map (ρ.get N))) ?_ fun h => ?_⟩
          · show (do let d ← resolve (ρ.get N) c ty; invoke d.target d.args) = _
            unfold resolve
            rw [hc]
            rfl
          · rw [toArr hl, toArr ht]
            exact builtin_len_spec (K := fun x => x = _) hu rfl ty
        · exact H.elim
      · exact gen_firm H
    · rename_i hc
      split at H
      · rename_i p n q t hl ht
        split at H
        · rename_i e hu
          refine ⟨_, H, run_of_val (s := Builtin.cap_ c.argTypes ty (c.args.map (ρ.get N))) ?_ fun h => ?_⟩
          · show (do let d ← resolve (ρ.get N) c ty; invoke d.target d.args) = _
            unfold resolve
            rw [hc]
            rfl
          · rw [toArr hl, toArr ht]
            exact builtin_cap_spec (K := fun x => x = _) hu rfl ty
        · exact H.elim
      · exact gen_firm H
    · rename_i hc
      obtain ⟨v, hk, hv⟩ := minW_firm H
      refine ⟨v, hk, run_of_val (s := Builtin.min_ c.argTypes ty (c.args.map (ρ.get N))) ?_ fun h => ?_⟩
      · show (do let d ← resolve (ρ.get N) c ty; invoke d.target d.args) = _
        unfold resolve
        rw [hc]
        rfl
      · have := minW_spec (ch := false) (P := P) (X := fun _ _ => False) (h := h) hv c.argTypes ty
        rw [show (c.args.map (ρ.get N)).toList.toArray = c.args.map (ρ.get N) from (toArr rfl).symm] at this
        exact this
    · rename_i hc
      obtain ⟨v, hk, hv⟩ := minW_firm H
      refine ⟨v, hk, run_of_val (s := Builtin.max_ c.argTypes ty (c.args.map (ρ.get N))) ?_ fun h => ?_⟩
      · show (do let d ← resolve (ρ.get N) c ty; invoke d.target d.args) = _
        unfold resolve
        rw [hc]
        rfl
      · have := minW_spec (ch := false) (P := P) (X := fun _ _ => False) (h := h) hv c.argTypes ty
        rw [show (c.args.map (ρ.get N)).toList.toArray = c.args.map (ρ.get N) from (toArr rfl).symm] at this
        exact this
    · exact H.elim
  all_goals exact gen_firm H
end
end Go.Eng
namespace Go.Eng
open Go

section
variable (P : Program) (B : World) (N : Nat)

/-- A guarded operation: its guard is decided once. -/
def gd (ops : Array Oper) (o : Oper) (D : List Nat) (ρ : Env) (ex sk : List Nat → Env → Prop) : Prop :=
  match o.guard with
  | none => ex D ρ
  | some (j, want) =>
    bif memN D j then (match ρ.yields N ops j with
      | some d => bif eqB d want then ex D ρ else sk D ρ
      | none => sk D ρ)
    else (match ρ.yields N ops j with
      | some b =>
          (b = true → bif want then ex (j :: D) (ρ.put ((ops[j]?).bind (·.dst)) (.bool true)) else sk (j :: D) (ρ.put ((ops[j]?).bind (·.dst)) (.bool true))) ∧
          (b = false → bif want then sk (j :: D) (ρ.put ((ops[j]?).bind (·.dst)) (.bool false)) else ex (j :: D) (ρ.put ((ops[j]?).bind (·.dst)) (.bool false)))
      | none => sk D ρ)

def seqW (ops : Array Oper) (Q : Post) : List Oper → List Nat → Env → Heap → Prop
  | [], _, ρ, h => Q .normal ρ h
  | o :: r, D, ρ, h => gd N ops o D ρ (fun D ρ => OpW P B N o ρ (fun ρ' h' => seqW ops Q r D ρ' h') Q h) (fun D ρ => seqW ops Q r D (ρ.put o.dst undef) h)

/-- All that can be carried out while operation i waits. -/
def spread (ops : Array Oper) (i : Nat) : Nat → Array Bool → Array Bool
  | 0, listed => listed
  | f + 1, listed =>
    match (Region.ready .any ops listed).find? (fun j => !(Nat.beq j i)) with
    | some j => spread ops i f (listed.setIfInBounds j true)
    | none => listed
def spreadOk (ops : Array Oper) (i : Nat) (oi : Oper) (listed Lst : Array Bool) : Bool :=
  Nat.beq Lst.size ops.size && (Region.ready .any ops Lst).all (fun j => Nat.beq j i) &&
  (List.range ops.size).all (fun j => Nat.beq j i || listed.getD j true || !(Lst.getD j false) || (match ops[j]? with | some oj => oi.apart ops oj | none => true)) &&
  (List.range listed.size).all (fun k => !(listed.getD k false) || Lst.getD k false)
inductive Pick where
  | pure (i : Nat) (Lst : Array Bool)
  | load (i : Nat) (Lst : Array Bool)
def pickOne (ops : Array Oper) (listed : Array Bool) (i : Nat) : Option Pick :=
  match ops[i]? with
  | none => none
  | some o =>
    bif pureK P o then (let Lst := spread ops i ops.size listed; bif spreadOk ops i o listed Lst then some (.pure i Lst) else none)
    else match o.op with
      | .load .. => (let Lst := spread ops i ops.size listed; bif spreadOk ops i o listed Lst then some (.load i Lst) else none)
      | _ => none
def pick (ops : Array Oper) (listed : Array Bool) : List Nat → Option Pick
  | [] => none
  | i :: r => match pickOne P ops listed i with
    | some p => some p
    | none => pick ops listed r

/-- Cells that were read early: who may still be carried out ahead of that read; block, offset, how many. -/
structure Early where
  T : Array Bool
  b : Nat
  o : Nat
  n : Nat
def sameCells (h h' : Heap) (b o : Nat) : Nat → Prop
  | 0 => True
  | 1 => cell? h' ⟨b, o, none⟩ = cell? h ⟨b, o, none⟩
  | n + 1 => sameCells h h' b o n ∧ cell? h' ⟨b, o + n, none⟩ = cell? h ⟨b, o + n, none⟩
def kept (j : Nat) (h h' : Heap) : List Early → Prop → Prop
  | [], K => K
  | e :: es, K => bif e.T.getD j false then sameCells h h' e.b e.o e.n ∧ kept j h h' es K else kept j h h' es K

def allP (F : Nat → Prop) : List Nat → Prop
  | [] => True
  | [i] => F i
  | i :: r => F i ∧ allP F r
/-- How many cells a load of type t reads. -/
def ldN (t : TypeId) : Nat := match P.underlying t with | some d => bif isA d then P.cellsOf t else 1 | none => 0
def noQ : Post := fun _ _ _ => False

def porW (ops : Array Oper) (Q : Post) : Nat → Array Bool → List Early → List Nat → Env → Heap → Prop
  | 0, listed, _, _, ρ, h => bif (Region.ready .any ops listed).isEmpty then Q .normal ρ h else False
  | f + 1, listed, es, D, ρ, h =>
    match Region.ready .any ops listed with
    | [] => Q .normal ρ h
    | rs => match pick P ops listed rs with
      | some (.pure i _) => (match ops[i]? with
        | some o => gd N ops o D ρ (fun D ρ => PW P N o ρ fun v => porW ops Q f (listed.setIfInBounds i true) es D (ρ.put o.dst v) h)
            (fun D ρ => porW ops Q f (listed.setIfInBounds i true) es D (ρ.put o.dst undef) h)
        | none => False)
      | some (.load i Lst) => (match ops[i]? with
        | some o => gd N ops o D ρ (fun D ρ => match o.op with
              | .load t x => (match ρ.get N x with
                | .pointer p => isP p fun b o' => ldV P t h b o' fun v => porW ops Q f (listed.setIfInBounds i true) (⟨Lst, b, o', ldN P t⟩ :: es) D (ρ.put o.dst v) h
                | _ => False)
              | _ => False)
            (fun D ρ => porW ops Q f (listed.setIfInBounds i true) es D (ρ.put o.dst undef) h)
        | none => False)
      | none => allP (fun i => match ops[i]? with
            | some o => gd N ops o D ρ (fun D ρ => OpW P B N o ρ (fun ρ' h' => kept i h h' es (porW ops Q f (listed.setIfInBounds i true) es D ρ' h')) noQ h)
                (fun D ρ => porW ops Q f (listed.setIfInBounds i true) es D (ρ.put o.dst undef) h)
            | none => False) rs
end
end Go.Eng
