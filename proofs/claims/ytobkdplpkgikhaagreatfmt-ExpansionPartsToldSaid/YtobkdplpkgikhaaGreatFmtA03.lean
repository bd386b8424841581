import Derived.Calls
import Derived.Orders
import Derived.Still
import Derived.Defers
/- Here stand lemmas and contracts, in the order in which they are used. -/
set_option linter.unusedVariables false
namespace Go.Eng
open Go

abbrev Heap := Array Obj
/-- The world with another heap and another number of draws. -/
def mk (B : World) (h : Heap) (n : Nat) : World := { B with heap := h, drawn := n }
def cell? (h : Heap) (a : Addr) : Option Value :=
  match h[a.block]? with
  | some (.cells c _ _) => if a.spot.isSome then none else c[a.off]?
  | _ => none
def shape? (h : Heap) (r : Nat) : Option (TypeId × Nat) :=
  match h[r]? with
  | some (.cells c elem _) => some (elem, c.size)
  | _ => none
def frozen? (h : Heap) (a : Addr) : Bool :=
  match h[a.block]? with
  | some (.cells _ _ (lo, hi)) => lo ≤ a.off && a.off < hi
  | _ => false
def setCell (h : Heap) (a : Addr) (v : Value) : Heap :=
  h.modify a.block fun
      | .cells c elem frozen => .cells (if a.spot.isSome then c else c.setIfInBounds a.off v) elem frozen
      | o => o

/-- May a value stand in one cell? -/
def oneCell : Value → Bool
  | .agg _ | .tuple _ => false
  | _ => true

/-- What a run of the model's own text needs, over heaps. -/
def wpH {α : Type} (ch : Bool) (P : Program) : Sem α → (α → Heap → Prop) → (Halt → Heap → Prop) → Heap → Prop
  | .pure a, K, _, h => K a h
  | .load _ ad k, K, X, h => ∃ v, cell? h ad = some v ∧ wpH ch P (k v) K X h
  | .store _ ad v k, K, X, h => oneCell v = true ∧ (∃ u, cell? h ad = some u) ∧ frozen? h ad = false ∧ wpH ch P k K X (setCell h ad v)
  | .new o k, K, X, h => wpH ch P (k h.size) K X (h.push o)
  | .shape r k, K, X, h => wpH ch P (k (shape? h r)) K X h
  | .freeze .., _, _, _ => False
  | .frozen a k, K, X, h => wpH ch P (k (frozen? h a)) K X h
  | .getObj .., _, _, _ => False
  | .setObj .., _, _, _ => False
  | .choose q k, K, X, h => ch = true ∧ q.forced = false ∧ ∀ t, wpH ch P (k (q.cut t)) K X h
  | .sys .., _, _, _ => False
  | .program k, K, X, h => wpH ch P (k P) K X h
  | .mark _ k, K, X, h => wpH ch P k K X h
  | .halt x, _, X, h => X x h

theorem wpH_run {α : Type} {ch : Bool} {P : Program} {B : World} {K : α → Heap → Prop} {X : Halt → Heap → Prop} (s : Sem α) :
    ∀ (h : Heap), wpH ch P s K X h → ∀ n,
      (∃ v h' n', s.run P (mk B h n) = .ok v (mk B h' n') ∧ (ch = false → n' = n) ∧ K v h') ∨ (∃ x h' n', s.run P (mk B h n) = .halt x (mk B h' n') ∧ X x h') := by
  induction s with
  | pure a => intro h H n; exact .inl ⟨a, h, n, rfl, fun _ => rfl, H⟩
  | load m ad k ih =>
    intro h H n
    obtain ⟨v, hv, H⟩ := H
    have e : (mk B h n).cell? ad = some v := hv
    simp only [Sem.run, e]
    exact ih v h H n
  | store m ad v k ih =>
    intro h H n
    obtain ⟨h1, ⟨u, hu⟩, hf, H⟩ := H
    have e : (mk B h n).cell? ad = some u := hu
    have ef : (mk B h n).frozen? ad = false := hf
    have es : (mk B h n).setCell ad v = mk B (setCell h ad v) n := rfl
    cases v <;> first | (cases h1; done) | (simp only [Sem.run, e, ef, es]; exact ih _ H n)
  | new o k ih =>
    intro h H n
    simp only [Sem.run]
    exact ih h.size (h.push o) H n
  | shape r k ih =>
    intro h H n
    simp only [Sem.run]
    exact ih (shape? h r) h H n
  | freeze a n k ih => intro h H; exact H.elim
  | frozen a k ih =>
    intro h H n
    simp only [Sem.run]
    exact ih (frozen? h a) h H n
  | getObj r k ih => intro h H; exact H.elim
  | setObj r o k ih => intro h H; exact H.elim
  | choose q k ih =>
    intro h H n
    obtain ⟨hc, hq, H⟩ := H
    simp only [Sem.run, hq, Bool.false_eq_true, if_false]
    rcases ih _ h (H (B.tape n q)) (n + 1) with ⟨v, h', n', h1, _, h2⟩ | h
    · exact .inl ⟨v, h', n', h1, (fun h0 => by rw [hc] at h0; cases h0), h2⟩
    · exact .inr h
  | sys c k ih => intro h H; exact H.elim
  | program k ih =>
    intro h H n
    simp only [Sem.run]
    exact ih P h H n
  | mark m k ih =>
    intro h H n
    simp only [Sem.run]
    exact ih h H n
  | halt x => intro h H n; exact .inr ⟨x, h, n, rfl, H⟩

theorem wpH_bind {α β : Type} {ch : Bool} {P : Program} {K : β → Heap → Prop} {X : Halt → Heap → Prop} (s : Sem α) (f : α → Sem β) :
    ∀ h, wpH ch P (s.bind f) K X h = wpH ch P s (fun a h' => wpH ch P (f a) K X h') X h := by
  induction s with
  | load m ad k ih => intro h; simp only [Sem.bind, wpH, ih]
  | choose q k ih => intro h; simp only [Sem.bind, wpH, ih]
  | _ => intro h; first | rfl | (rename_i ih; simp only [Sem.bind, wpH, ih]) 

theorem wpH_mono {α : Type} {ch : Bool} {P : Program} {K K' : α → Heap → Prop} {X X' : Halt → Heap → Prop} (hK : ∀ a h, K a h → K' a h) (hX : ∀ x h, X x h → X' x h) (s : Sem α) :
    ∀ h, wpH ch P s K X h → wpH ch P s K' X' h := by
  induction s with
  | pure a => exact fun h H => hK _ _ H
  | load m ad k ih => exact fun h ⟨v, hv, H⟩ => ⟨v, hv, ih v h H⟩
  | store m ad v k ih => exact fun h ⟨h1, h2, h3, H⟩ => ⟨h1, h2, h3, ih _ H⟩
  | new o k ih => exact fun h H => ih _ _ H
  | shape r k ih => exact fun h H => ih _ _ H
  | frozen a k ih => exact fun h H => ih _ _ H
  | choose q k ih => exact fun h ⟨h0, h1, H⟩ => ⟨h0, h1, fun t => ih _ _ (H t)⟩
  | program k ih => exact fun h H => ih _ _ H
  | mark m k ih => exact fun h H => ih _ H
  | halt x => exact fun h H => hX _ _ H
  | _ => exact fun h H => H.elim
end Go.Eng
namespace Go.Eng
open Go

structure Env where
  t : Nat → Value
  ds : List Deferred

def Env.put (ρ : Env) (dst : Option Nat) (v : Value) : Env :=
  match dst with
  | some d => { t := fun i => bif Nat.beq i d then v else ρ.t i, ds := ρ.ds }
  | none => ρ
def Env.get (N : Nat) (ρ : Env) : Operand → Value
  | .tmp i => bif Nat.blt i N then ρ.t i else undef
  | .const v => v
  | .global g => .pointer (some ⟨g, 0, none⟩)
  | .func f => .func (.func f) #[] #[]
structure Rel (N : Nat) (a : Act) (ρ : Env) : Prop where
  size : a.tmps.size = N
  at_ : ∀ i, i < N → a.tmps.getD i undef = ρ.t i
  defers : a.defers = ρ.ds

theorem Rel.eval {N : Nat} {a : Act} {ρ : Env} (h : Rel N a ρ) : a.eval = ρ.get N := by
  funext x
  cases x with
  | tmp i =>
    simp only [Act.eval, Env.get]
    by_cases hi : i < N
    · rw [h.at_ i hi, show Nat.blt i N = true from by simpa [Nat.blt_eq] using hi]; rfl
    · rw [show Nat.blt i N = false from by simpa [← Bool.not_eq_true, Nat.blt_eq] using hi]
      have : a.tmps.size ≤ i := by rw [h.size]; exact Nat.le_of_not_lt hi
      simp [Array.getElem?_eq_none this]
  | _ => rfl
theorem Rel.put {N : Nat} {a : Act} {ρ : Env} (h : Rel N a ρ) (dst : Option Nat) (v : Value) : Rel N (a.put dst v) (ρ.put dst v) := by
  cases dst with
  | none => exact h
  | some d =>
    refine ⟨by simp [Act.put, h.size], fun i hi => ?_, h.defers⟩
    simp only [Act.put, Env.put]
    by_cases hid : i = d
    · subst hid
      have hs : i < a.tmps.size := by rw [h.size]; exact hi
      simp [hs]
    · have hne : d ≠ i := fun e => hid e.symm
      rw [show Nat.beq i d = false from by simpa [← Bool.not_eq_true, Nat.beq_eq] using hid, cond_false, ← h.at_ i hi]
      simp [Array.getElem?_setIfInBounds_ne hne]
theorem Rel.defer {N : Nat} {a : Act} {ρ : Env} (h : Rel N a ρ) (d : Deferred) : Rel N { a with defers := d :: a.defers } { ρ with ds := d :: ρ.ds } :=
  ⟨h.size, h.at_, by simp [h.defers]⟩

def Env.yields (N : Nat) (ρ : Env) (ops : Array Oper) (j : Nat) : Option Bool :=
  match (ops[j]?).bind (·.dst) with
  | some d => match (bif Nat.blt d N then ρ.t d else undef) with
    | .bool b => some b
    | _ => none
  | none => none
theorem Rel.yields {N : Nat} {a : Act} {ρ : Env} (h : Rel N a ρ) (ops : Array Oper) : yielded ops a.tmps = ρ.yields N ops := by
  funext j
  unfold yielded Env.yields
  cases hd : (ops[j]?).bind (·.dst) with
  | none => simp
  | some d =>
    simp only [Option.bind_some]
    by_cases hi : d < N
    · have hs : d < a.tmps.size := by rw [h.size]; exact hi
      have := h.at_ d hi
      rw [show Nat.blt d N = true from by simpa [Nat.blt_eq] using hi, cond_true, ← this]
      simp only [Array.getElem?_eq_getElem hs, Array.getD_eq_getD_getElem?, Option.getD_some]
      cases a.tmps[d] <;> rfl
    · rw [show Nat.blt d N = false from by simpa [← Bool.not_eq_true, Nat.blt_eq] using hi, cond_false]
      have : a.tmps.size ≤ d := by rw [h.size]; exact Nat.le_of_not_lt hi
      simp [Array.getElem?_eq_none this, undef]

/-- What a call must come to, whatever has been drawn: by the function's number. -/
def Fn (P : Program) (B : World) (f : FuncId) (args : Array Value) (R : Ending → Heap → Prop) (h : Heap) : Prop :=
  ∀ n, Calls P f args (mk B h n) (fun e w' => ∃ h' n', w' = mk B h' n' ∧ R e h')
theorem Fn.mono {P : Program} {B : World} {f : FuncId} {args : Array Value} {R R' : Ending → Heap → Prop} {h : Heap} (H : Fn P B f args R h)
    (hr : ∀ e h', R e h' → R' e h') : Fn P B f args R' h :=
  fun n => (H n).mono fun _ _ ⟨h', n', hw, hR⟩ => ⟨h', n', hw, hr _ _ hR⟩
/-- A call as the text makes it: a function with a body is entered, one without is answered by the model. -/
def Ent (P : Program) (B : World) (f : FuncId) (args : Array Value) (R : Ending → Heap → Prop) (h : Heap) : Prop :=
  (∃ g, (∀ w, (callFunc f args).run P w = .ok (.enter g args) w) ∧ Fn P B g args R h) ∨
  ∀ n, ∃ v h' n', (callFunc f args).run P (mk B h n) = .ok (.value v) (mk B h' n') ∧ R (.returned v) h'
theorem Ent.mono {P : Program} {B : World} {f : FuncId} {args : Array Value} {R R' : Ending → Heap → Prop} {h : Heap} (H : Ent P B f args R h)
    (hr : ∀ e h', R e h' → R' e h') : Ent P B f args R' h := by
  rcases H with ⟨g, h1, h2⟩ | H
  · exact .inl ⟨g, h1, h2.mono hr⟩
  · exact .inr fun n => let ⟨v, h', n', h1, h2⟩ := H n; ⟨v, h', n', h1, hr _ _ h2⟩
theorem Ent.of_run {P : Program} {B : World} {f : FuncId} {args : Array Value} {R : Ending → Heap → Prop} {h : Heap} {v : Value}
    (hrun : ∀ w, (callFunc f args).run P w = .ok (.value v) w) (H : R (.returned v) h) : Ent P B f args R h :=
  .inr fun n => ⟨v, h, n, hrun _, H⟩
theorem Ent.of_fn {P : Program} {B : World} {f : FuncId} {fn : Func} {args : Array Value} {R : Ending → Heap → Prop} {h : Heap} (hf : P.funcs[f]? = some fn)
    (hn : (fn.name == "runtime.NumGoroutine") = false) (hb : fn.body.isNone = false) (H : Fn P B f args R h) : Ent P B f args R h := by
  refine .inl ⟨f, fun w => ?_, H⟩
  show Sem.run P (match P.funcs[f]? with
    | none => stuck "call: no such function"
    | some fn => _) w = _
  rw [hf]
  simp only [hn, hb, Bool.false_eq_true, if_false]
  rfl

def Post := Exit → Env → Heap → Prop
section
variable (P : Program) (B : World) (N : Nat)

/-- The posts of the model's own calculus that stand for those over environments. -/
def liftK (K : Env → Heap → Prop) : Act → World → Prop := fun a w => ∃ ρ h n, Rel N a ρ ∧ w = mk B h n ∧ K ρ h
def liftQ (Q : Post) : Exit → Act → World → Prop := fun e a w => ∃ ρ h n, Rel N a ρ ∧ w = mk B h n ∧ Q e ρ h

/-- What an operation must come to: its meaning. -/
def OpS (o : Oper) (ρ : Env) (K : Env → Heap → Prop) (Q : Post) (h : Heap) : Prop :=
  ∀ a n, Rel N a ρ → o.wp P a (mk B h n) (liftK B N K) (liftQ B N Q)

def nextK (o : Oper) (ρ : Env) (K : Env → Heap → Prop) (Q : Post) : Next → Heap → Prop
  | .value v, h' => K (ρ.put o.dst v) h'
  | .skip, h' => K (ρ.put o.dst undef) h'
  | .defer d, h' => K (Env.put { ρ with ds := d :: ρ.ds } o.dst undef) h'
  | .enter f args, h' => Fn P B f args (fun e h'' => match e with
      | .returned v => K (ρ.put o.dst v) h''
      | .panicked ch => Q (.panic ch) ρ h''
      | .outgrown => False) h'
  | _, _ => False
def haltK (ρ : Env) (Q : Post) : Halt → Heap → Prop
  | .panic v, h' => Q (.panic [{ v, recovered := false }]) ρ h'
  | _, _ => False

theorem OpS_of_wpH {o : Oper} {ρ : Env} {K : Env → Heap → Prop} {Q : Post} {h : Heap}
    (H : wpH true P (execOp (ρ.get N) o) (nextK P B o ρ K Q) (haltK ρ Q) h) : OpS P B N o ρ K Q h := by
  intro a n hr
  unfold Oper.wp
  rw [hr.eval]
  rcases wpH_run (B := B) _ _ H n with ⟨nx, h', n', hrun, _, hk⟩ | ⟨x, h', n', hrun, hk⟩
  · rw [hrun]
    cases nx <;> simp only [nextK] at hk <;> simp only [Oper.upon] <;> first
      | exact hk.elim
      | exact ⟨_, _, _, hr.put _ _, rfl, hk⟩
      | exact ⟨_, _, _, (hr.defer _).put _ _, rfl, hk⟩
      | skip
    refine (hk n').mono ?_
    rintro e w' ⟨h'', n'', rfl, he⟩
    cases e with
    | returned v => exact ⟨_, _, _, hr.put _ _, rfl, he⟩
    | panicked ch => exact ⟨_, _, _, hr, rfl, he⟩
    | outgrown => exact he.elim
  · rw [hrun]
    cases x <;> simp only [haltK] at hk <;> simp only [Oper.upon] <;> first
      | exact hk.elim
      | exact ⟨_, _, _, hr, rfl, hk⟩
end
end Go.Eng
namespace Go.Eng
open Go

/-- One cell, read as its type says. -/
def ldD (d : TypeDesc) (h : Heap) (b o : Nat) (K : Value → Prop) : Prop :=
  match d with
  | .int k => ∃ n, cell? h ⟨b, o, none⟩ = some (.int k n) ∧ K (.int k n)
  | .bool => ∃ x, cell? h ⟨b, o, none⟩ = some (.bool x) ∧ K (.bool x)
  | .float k => ∃ n, cell? h ⟨b, o, none⟩ = some (.float k n) ∧ K (.float k n)
  | .pointer _ => ∃ p, cell? h ⟨b, o, none⟩ = some (.pointer p) ∧ K (.pointer p)
  | .slice _ => ∃ p n c, cell? h ⟨b, o, none⟩ = some (.slice p n c) ∧ K (.slice p n c)
  | .string => ∃ s, cell? h ⟨b, o, none⟩ = some (.string s) ∧ K (.string s)
  | _ => ∃ v, cell? h ⟨b, o, none⟩ = some v ∧ K v
theorem ldD_spec {d : TypeDesc} {h : Heap} {b o : Nat} {K : Value → Prop} (H : ldD d h b o K) : ∃ v, cell? h ⟨b, o, none⟩ = some v ∧ K v := by
  unfold ldD at H
  split at H
  case h_5 => obtain ⟨p, n, c, h1, h2⟩ := H; exact ⟨_, h1, h2⟩
  all_goals obtain ⟨n, h1, h2⟩ := H; exact ⟨_, h1, h2⟩

/-- Some value of a type. -/
def exD (d : TypeDesc) (K : Value → Prop) : Prop :=
  match d with
  | .int k => ∃ n, K (.int k n)
  | .bool => ∃ x, K (.bool x)
  | .float k => ∃ n, K (.float k n)
  | .pointer _ => ∃ p, K (.pointer p)
  | .slice _ => ∃ p n c, K (.slice p n c)
  | .string => ∃ s, K (.string s)
  | _ => ∃ v, K v
theorem exD_spec {d : TypeDesc} {K : Value → Prop} (H : exD d K) : ∃ v, K v := by
  unfold exD at H
  split at H
  case h_5 => obtain ⟨p, n, c, h⟩ := H; exact ⟨_, h⟩
  all_goals obtain ⟨n, h⟩ := H; exact ⟨_, h⟩

/-- The cells' types of a type, flat. -/
def flat (P : Program) : Nat → TypeId → List TypeDesc
  | 0, _ => []
  | f + 1, t => match P.underlying t with
    | some (.struct fs) => fs.toList.flatMap fun x => flat P f x.type
    | some (.array n e) => (List.replicate n (flat P f e)).flatten
    | some d => [d]
    | none => []

def ldL (h : Heap) (b : Nat) : List TypeDesc → Nat → Array Value → (Value → Prop) → Prop
  | [], _, acc, K => K (.agg acc)
  | d :: ds, o, acc, K => ldD d h b o fun v => ldL h b ds (o + 1) (acc.push v) K
def exL : List TypeDesc → Array Value → (Array Value → Prop) → Prop
  | [], acc, K => K acc
  | d :: ds, acc, K => exD d fun v => exL ds (acc.push v) K
theorem exL_spec : ∀ {l : List TypeDesc} {acc : Array Value} {K : Array Value → Prop}, exL l acc K → ∃ a, K a
  | [], _, _, H => ⟨_, H⟩
  | _ :: _, _, _, H => let ⟨_, H⟩ := exD_spec H; exL_spec H

def isA : TypeDesc → Bool
  | .struct _ | .array .. => true
  | _ => false
/-- A load of a variable of type t. -/
def ldV (P : Program) (t : TypeId) (h : Heap) (b o : Nat) (K : Value → Prop) : Prop :=
  match P.underlying t with
  | some d => bif isA d then
      (let l := flat P 8 t; bif Nat.beq l.length (P.cellsOf t) && (P.info? t).isSome then ldL h b l o #[] K else False)
    else ldD d h b o K
  | none => False
/-- Some value of type t. -/
def exV (P : Program) (t : TypeId) (K : Value → Prop) : Prop :=
  match P.underlying t with
  | some d => bif isA d then exL (flat P 8 t) #[] (fun a => K (.agg a)) else exD d K
  | none => ∃ v, K v
theorem exV_spec {P : Program} {t : TypeId} {K : Value → Prop} (H : exV P t K) : ∃ v, K v := by
  unfold exV at H
  split at H
  · rename_i d _
    cases hd : isA d <;> simp only [hd, cond_true, cond_false] at H
    · exact exD_spec H
    · obtain ⟨a, h⟩ := exL_spec H; exact ⟨_, h⟩
  · exact H
def exT (P : Program) : List TypeId → Array Value → (Array Value → Prop) → Prop
  | [], acc, K => K acc
  | t :: ts, acc, K => exV P t fun v => exT P ts (acc.push v) K
theorem exT_spec {P : Program} : ∀ {l : List TypeId} {acc : Array Value} {K : Array Value → Prop}, exT P l acc K → ∃ a, K a
  | [], _, _, H => ⟨_, H⟩
  | _ :: _, _, _, H => let ⟨_, H⟩ := exV_spec H; exT_spec H
/-- A call's answer, taken as its type t says. -/
def caV (P : Program) (t : TypeId) (v : Value) (K : Value → Prop) : Prop :=
  match P.underlying t with
  | some (.tuple ts) => exT P ts.toList #[] fun a => v = .tuple a ∧ K (.tuple a)
  | _ => exV P t fun x => v = x ∧ K x
theorem caV_spec {P : Program} {t : TypeId} {v : Value} {K : Value → Prop} (H : caV P t v K) : K v := by
  unfold caV at H
  split at H
  · obtain ⟨a, rfl, h⟩ := exT_spec H; exact h
  · obtain ⟨a, rfl, h⟩ := exV_spec H; exact h

def stC (h : Heap) (b o : Nat) (v : Value) (K : Heap → Prop) : Prop :=
  oneCell v = true ∧ (∃ u, cell? h ⟨b, o, none⟩ = some u) ∧ frozen? h ⟨b, o, none⟩ = false ∧ K (setCell h ⟨b, o, none⟩ v)
def stL (b : Nat) : List Value → Nat → Heap → (Heap → Prop) → Prop
  | [], _, h, K => K h
  | v :: vs, o, h, K => stC h b o v fun h' => stL b vs (o + 1) h' K

/-- The bounds of a slice expression. -/
def bnd (x : Option Value) (least most : Nat) (K : Nat → Prop) : Prop :=
  match x with
  | some (.int _ i) => 0 ≤ i ∧ i ≤ (most : Int) ∧ K i.toNat
  | some _ => False
  | none => K least

theorem add_addr (b o i : Nat) : (⟨b, o, none⟩ : Addr).add i = ⟨b, o + i, none⟩ := by
  unfold Addr.add
  split
  · rename_i h; subst h; rfl
  · rfl

section
variable {ch : Bool} {P : Program}
theorem wpH_pure {α : Type} {K : α → Heap → Prop} {X : Halt → Heap → Prop} (a : α) (h : Heap) : wpH ch P (pure a) K X h = K a h := rfl
theorem wpH_bind' {α β : Type} {K : β → Heap → Prop} {X : Halt → Heap → Prop} (s : Sem α) (f : α → Sem β) (h : Heap) :
    wpH ch P (s >>= f) K X h = wpH ch P s (fun a h' => wpH ch P (f a) K X h') X h := wpH_bind s f h
theorem wpH_load {K : Value → Heap → Prop} {X : Halt → Heap → Prop} (a : Addr) (m : Mode) (h : Heap) :
    wpH ch P (load a m) K X h = ∃ v, cell? h a = some v ∧ K v h := rfl
theorem wpH_store {K : Unit → Heap → Prop} {X : Halt → Heap → Prop} (a : Addr) (v : Value) (m : Mode) (h : Heap) :
    wpH ch P (store a v m) K X h = (oneCell v = true ∧ (∃ u, cell? h a = some u) ∧ frozen? h a = false ∧ K () (setCell h a v)) := rfl
theorem wpH_underlying {K : TypeDesc → Heap → Prop} {X : Halt → Heap → Prop} {t : TypeId} {d : TypeDesc} (hd : P.underlying t = some d) (h : Heap) :
    wpH ch P (underlying t) K X h = K d h := by
  simp [underlying, wpH_bind', program, wpH, hd, wpH_pure]
theorem wpH_sizeOf {K : Nat → Heap → Prop} {X : Halt → Heap → Prop} {t : TypeId} (hi : (P.info? t).isSome = true) (h : Heap) :
    wpH ch P (sizeOf t) K X h = K (P.cellsOf t) h := by
  obtain ⟨i, hi⟩ := Option.isSome_iff_exists.1 hi
  simp [sizeOf, typeInfo, wpH_bind', program, wpH, hi, wpH_pure, Program.cellsOf]
theorem info_of_underlying {t : TypeId} {d : TypeDesc} (h : P.underlying t = some d) : (P.info? t).isSome = true := by
  unfold Program.underlying at h
  cases hi : P.info? t <;> simp_all

theorem loadCells_spec (b : Nat) {X : Halt → Heap → Prop} (h : Heap) : ∀ (l : List TypeDesc) (o i : Nat) (acc : Array Value) (K : Value → Prop),
    ldL h b l (o + i) acc K → wpH ch P (loadCellsFrom ⟨b, o, none⟩ i l.length acc) (fun cs h' => h' = h ∧ K (.agg cs)) X h
  | [], o, i, acc, K, H => ⟨rfl, H⟩
  | d :: ds, o, i, acc, K, H => by
    obtain ⟨v, hv, H⟩ := ldD_spec H
    simp only [List.length_cons, loadCellsFrom, wpH_bind', wpH_load, add_addr]
    exact ⟨v, hv, loadCells_spec b h ds o (i + 1) (acc.push v) K H⟩

theorem loadVar_spec {X : Halt → Heap → Prop} {t : TypeId} {h : Heap} {b o : Nat} {K : Value → Prop} (H : ldV P t h b o K) :
    wpH ch P (loadVar t ⟨b, o, none⟩) (fun v h' => h' = h ∧ K v) X h := by
  unfold ldV at H
  cases hu : P.underlying t with
  | none => rw [hu] at H; exact H.elim
  | some d =>
    rw [hu] at H
    have hi := info_of_underlying hu
    simp only [loadVar, isAgg, wpH_bind', wpH_underlying hu]
    cases hd : isA d with
    | true =>
      simp only [hd, cond_true] at H
      have hl : (Nat.beq (flat P 8 t).length (P.cellsOf t) && (P.info? t).isSome) = true := by
        cases hx : (Nat.beq (flat P 8 t).length (P.cellsOf t) && (P.info? t).isSome) with
        | true => rfl
        | false => rw [hx] at H; exact H.elim
      rw [hl, cond_true] at H
      have hlen : (flat P 8 t).length = P.cellsOf t := Nat.eq_of_beq_eq_true (by
        revert hl; cases Nat.beq (flat P 8 t).length (P.cellsOf t) <;> simp)
      have := loadCells_spec (ch := ch) (P := P) (X := X) b h (flat P 8 t) o 0 #[] K H
      cases d <;> simp only [isA, Bool.false_eq_true] at hd <;>
        (simp only [wpH_pure, if_true, wpH_bind', wpH_sizeOf hi, loadCells, ← hlen]
         exact wpH_mono (fun _ _ hk => hk) (fun _ _ hx => hx) _ _ this)
    | false =>
      simp only [hd, cond_false] at H
      obtain ⟨v, hv, hK⟩ := ldD_spec H
      cases d <;> simp only [isA, Bool.true_eq_false] at hd <;>
        (simp only [wpH_pure, Bool.false_eq_true, if_false, wpH_load]; exact ⟨v, hv, trivial, hK⟩)

theorem storeCells_spec (b : Nat) {X : Halt → Heap → Prop} : ∀ (l : List Value) (o i : Nat) (h : Heap) (K : Heap → Prop),
    stL b l (o + i) h K → wpH ch P (storeCells ⟨b, o, none⟩ l i) (fun _ h' => K h') X h
  | [], o, i, h, K, H => H
  | v :: vs, o, i, h, K, H => by
    obtain ⟨h1, h2, h3, H⟩ := H
    simp only [storeCells, wpH_bind', wpH_store, add_addr]
    exact ⟨h1, h2, h3, storeCells_spec b vs o (i + 1) _ K H⟩
end
end Go.Eng
namespace Go.Eng
open Go

def bitsI (op : BinOp) (k : IntKind) (x y : Int) : Int :=
  let a := BitVec.ofInt k.bits x
  let b := BitVec.ofInt k.bits y
  k.wrap (match op with
    | .and => a &&& b
    | .or => a ||| b
    | .xor => a ^^^ b
    | _ => a &&& ~~~b).toNat
/-- Whole numbers of kind k. -/
def intW (op : BinOp) (k : IntKind) (a b : Int) (K : Value → Prop) : Prop :=
  match op with
  | .add => K (.int k (k.wrap (a + b)))
  | .sub => K (.int k (k.wrap (a - b)))
  | .mul => K (.int k (k.wrap (a * b)))
  | .quo => b ≠ 0 ∧ K (.int k (k.wrap (a.tdiv b)))
  | .rem => b ≠ 0 ∧ K (.int k (a.tmod b))
  | .eql => K (.bool (decide (a = b)))
  | .neq => K (.bool (!decide (a = b)))
  | .lss => K (.bool (decide (a < b)))
  | .leq => K (.bool (decide (a ≤ b)))
  | .gtr => K (.bool (decide (b < a)))
  | .geq => K (.bool (decide (b ≤ a)))
  | .and => K (.int k (bitsI .and k a b))
  | .or => K (.int k (bitsI .or k a b))
  | .xor => K (.int k (bitsI .xor k a b))
  | .andNot => K (.int k (bitsI .andNot k a b))
  | _ => False
def shW (op : BinOp) (k : IntKind) (a b : Int) (K : Value → Prop) : Prop :=
  0 ≤ b ∧ match op with
  | .shl => K (.int k (k.wrap (a * 2 ^ min b.toNat k.bits)))
  | .shr => K (.int k (a.fdiv (2 ^ min b.toNat k.bits)))
  | _ => False
/-- A float's operation: the model's answer, or any pattern of what is no number. -/
def flW (f : FloatKind) (r : Option Nat) (x y : Nat) (K : Nat → Prop) : Prop :=
  (∀ z, r = some z → K z) ∧ (r = none → ∀ t, K (Question.cut (.nanBits f x y) t))
def fltW (op : BinOp) (f : FloatKind) (x y : Nat) (K : Value → Prop) : Prop :=
  match op with
  | .add => flW f (f.format.add x y) x y fun z => K (.float f z)
  | .sub => flW f (f.format.sub x y) x y fun z => K (.float f z)
  | .mul => flW f (f.format.mul x y) x y fun z => K (.float f z)
  | .quo => flW f (f.format.div x y) x y fun z => K (.float f z)
  | .eql => K (.bool (f.format.order x y == some .eq))
  | .neq => K (.bool (f.format.order x y != some .eq))
  | .lss => K (.bool (f.format.order x y == some .lt))
  | .leq => K (.bool (f.format.order x y == some .lt || f.format.order x y == some .eq))
  | .gtr => K (.bool (f.format.order x y == some .gt))
  | .geq => K (.bool (f.format.order x y == some .gt || f.format.order x y == some .eq))
  | _ => False
section
variable {ch : Bool} {P : Program}
theorem intW_spec {X : Halt → Heap → Prop} {op : BinOp} {k : IntKind} {a b : Int} {K : Value → Prop} {h : Heap} (hs : op ≠ .shl) (hr : op ≠ .shr)
    (t : TypeId) (H : intW op k a b K) : wpH ch P (binOp op t (.int k a) (.int k b)) (fun v h' => h' = h ∧ K v) X h := by
  cases op <;> simp only [intW] at H <;> first
    | exact absurd rfl hs
    | exact absurd rfl hr
    | exact H.elim
    | (simp only [binOp, ne_eq, not_true_eq_false, if_false, Op.intCmp]; exact ⟨rfl, H⟩)
    | (simp only [binOp, ne_eq, not_true_eq_false, if_false]; exact ⟨rfl, H⟩)
    | (simp only [binOp, ne_eq, not_true_eq_false, if_false]; exact ⟨rfl, H⟩)
    | (obtain ⟨h0, H⟩ := H; simp only [binOp, ne_eq, not_true_eq_false, if_false, Op.intDiv, h0]; exact ⟨rfl, H⟩)
theorem shW_spec {X : Halt → Heap → Prop} {op : BinOp} {k k' : IntKind} {a b : Int} {K : Value → Prop} {h : Heap} (hs : op = .shl ∨ op = .shr)
    (t : TypeId) (H : shW op k a b K) : wpH ch P (binOp op t (.int k a) (.int k' b)) (fun v h' => h' = h ∧ K v) X h := by
  obtain ⟨h0, H⟩ := H
  have hn : ¬ b < 0 := by omega
  rcases hs with rfl | rfl <;> (simp only [binOp, Op.shift, hn, if_false]; exact ⟨rfl, H⟩)
theorem fltW_spec {X : Halt → Heap → Prop} {op : BinOp} {f : FloatKind} {a b : Nat} {K : Value → Prop} {h : Heap} (hs : op ≠ .shl) (hr : op ≠ .shr)
    (t : TypeId) (H : fltW op f a b K) : wpH true P (binOp op t (.float f a) (.float f b)) (fun v h' => h' = h ∧ K v) X h := by
  have go : ∀ (r : Option Nat), (flW f r a b fun z => K (.float f z)) →
      wpH true P (match r with | some r => pure (.float f r) | none => do pure (.float f (← choose (.nanBits f a b))) : Sem Value) (fun v h' => h' = h ∧ K v) X h := by
    intro r ⟨h1, h2⟩
    cases r with
    | some z => exact ⟨rfl, h1 z rfl⟩
    | none => exact ⟨rfl, rfl, fun t => ⟨rfl, h2 rfl t⟩⟩
  cases op <;> simp only [fltW] at H <;> first
    | exact absurd rfl hs
    | exact absurd rfl hr
    | exact H.elim
    | (simp only [binOp, ne_eq, not_true_eq_false, if_false, Op.floatCmp]; exact ⟨rfl, H⟩)
    | (simp only [binOp, ne_eq, not_true_eq_false, if_false, Op.floatArith, wpH_bind', wpH_pure]; exact go _ H)
end
end Go.Eng
