import Derived.Test.YtobkdplpkgikhaaGreatFmtA03
/- Here stand lemmas and contracts, in the order in which they are used. -/
set_option linter.unusedVariables false
namespace Go.Eng
open Go

/-- An address that is there. -/
def isP (p : Option Addr) (K : Nat → Nat → Prop) : Prop := ∃ b o, p = some ⟨b, o, none⟩ ∧ K b o
/-- An index into n elements of s cells from p on. -/
def ixW (p : Option Addr) (n : Nat) (i : Int) (s : Nat) (K : Nat → Nat → Prop) : Prop :=
  ∃ b o, p = some ⟨b, o, none⟩ ∧ 0 ≤ i ∧ i < (n : Int) ∧ K b (o + i.toNat * s)
def slW (n c : Nat) (lo hi mx : Option Value) (K : Nat → Nat → Nat → Prop) : Prop :=
  match mx with
  | none => bnd hi n c fun h => bnd lo 0 h fun l => K l h c
  | some _ => bnd mx c c fun m => (match hi with | some _ => bnd hi n m fun h => bnd lo 0 h fun l => K l h m | none => False)
def slP (p : Option Addr) (l m s : Nat) : Option Addr := if m = l then p else p.map (·.add (l * s))
def mkCells (zero : Array Value) (n : Nat) : Array Value := (Array.range n).map fun i => zero[i % zero.size]!

/-- Two pointers held against each other. -/
def pEq (h : Heap) (p q : Option Addr) (K : Bool → Prop) : Prop :=
  (p = none ∧ K q.isNone) ∨ (p.isSome = true ∧ q = none ∧ K false) ∨
  ∃ b o b' o', p = some ⟨b, o, none⟩ ∧ q = some ⟨b', o', none⟩ ∧
    ((b = b' ∧ K (decide (o = o'))) ∨ (b ≠ b' ∧ (∃ c e, h[b]? = some (.cells c e (0, 0))) ∧ (∃ c e, h[b']? = some (.cells c e (0, 0))) ∧ K false))

/-- A float of another width: the model's answer; what is no number, or too great, is some pattern. -/
def cvW (f : FloatKind) (a : Nat) (f' : FloatKind) (K : Nat → Prop) : Prop :=
  (f = f' → K a) ∧ (f ≠ f' → match f.decode a with
    | .nan _ _ => ∀ t, K (Question.cut (.nanConv f' a) t)
    | .infinity s => K (f'.encode (.infinity s))
    | .number s m e => ((f'.decode (f'.encode (.number s m e))).isInfinity = true → ∀ t, K (Question.cut (.floatToFloat a) t)) ∧
      ((f'.decode (f'.encode (.number s m e))).isInfinity = false → K (f'.encode (.number s m e))))

/-- A float as a whole number: the model's answer; what is too great, or no number, is some one. -/
def cviW (f : FloatKind) (a : Nat) (k : IntKind) (K : Int → Prop) : Prop :=
  match (f.decode a).toInt .zero with
  | some n => (k.min ≤ n ∧ n ≤ k.max → K n) ∧ (¬ (k.min ≤ n ∧ n ≤ k.max) → ∀ t, K (k.wrap ((Question.cut (.floatToInt f a k) t : Nat) : Int)))
  | none => ∀ t, K (k.wrap ((Question.cut (.floatToInt f a k) t : Nat) : Int))

section
variable (P : Program) (B : World) (N : Nat)
/-- The operation by the model's own text. -/
def genW (o : Oper) (ρ : Env) (K : Env → Heap → Prop) (Q : Post) (h : Heap) : Prop :=
  wpH true P (execOp (ρ.get N) o) (nextK P B o ρ K Q) (haltK ρ Q) h

def isIntU (t : TypeId) : Bool := match P.underlying t with | some (.int _) => true | _ => false
/-- A field of whole numbers in the cell i. -/
def okF (f : Field) (i : Nat) : Bool := (f.name != "_") && Nat.beq f.offset i && isIntU P f.type
/-- Two structs of two whole numbers held against each other. -/
def eqS (neg : Bool) (t : TypeId) (fs xs ys : List Value × List Field) (K : Value → Prop) : Prop :=
  match fs.2, xs.1, ys.1 with
  | [f0, f1], [.int k0 a0, .int k1 a1], [.int j0 b0, .int j1 b1] =>
    bif okF P f0 0 && okF P f1 1 && decide (k0 = j0) && decide (k1 = j1) && !P.stoodInHeld t && !P.eqGuardType P.depth t then
      K (.bool (bif neg then !(decide (a0 = b0) && decide (a1 = b1)) else (decide (a0 = b0) && decide (a1 = b1)))) else False
  | _, _, _ => False
def eqlW (neg : Bool) (t : TypeId) (x y : Value) (h : Heap) (K : Value → Prop) : Prop :=
  match P.underlying t, x, y with
  | some .bool, .bool a, .bool b => K (.bool (bif neg then !(a == b) else (a == b)))
  | some (.slice _), .slice p _ _, .slice none _ _ => K (.bool (bif neg then !p.isNone else p.isNone))
  | some (.slice _), .slice none _ _, .slice q _ _ => K (.bool (bif neg then !q.isNone else q.isNone))
  | some (.struct fs), .agg xs, .agg ys => eqS P neg t ([], fs.toList) (xs.toList, []) (ys.toList, []) K
  | some (.pointer e), .pointer p, .pointer q => bif Nat.blt 0 (P.cellsOf e) then pEq h p q fun b => K (.bool (bif neg then !b else b)) else False
  | _, _, _ => False

/-- The lesser and the greater of two floats that are ordered. -/
def minF (k : FloatKind) (x y : Nat) : Ordering → Nat
  | .lt => x
  | .gt => y
  | .eq => if (k.decode x).neg then x else y
def maxF (k : FloatKind) (x y : Nat) : Ordering → Nat
  | .lt => y
  | .gt => x
  | .eq => if (k.decode x).neg then y else x
def minW (op : Bool) : List Value → (Value → Prop) → Prop
  | [.float k a, .float _ b], K => ∃ o, k.format.order a b = some o ∧ K (.float k (bif op then minF k a b o else maxF k a b o))
  | [.int k a, .int _ b], K => K (.int k (bif op then (if b < a then b else a) else (if b > a then b else a)))
  | _, _ => False

/-- k cells from p on hold xs. -/
def rowAt (h : Heap) (p : Option Addr) (k : Nat) (xs : List Value) : Prop :=
  match p with
  | none => xs = []
  | some _ => xs.length = k ∧ isP p fun b o => ∀ i (hi : i < xs.length), cell? h ⟨b, o + i, none⟩ = some xs[i]
def setRow (h : Heap) (b : Nat) : Nat → List Value → Heap
  | _, [] => h
  | o, x :: xs => setRow (setCell h ⟨b, o, none⟩ x) b (o + 1) xs
/-- xs is stored from p on, d cells further. -/
def putRow (h : Heap) (p : Option Addr) (d : Nat) (xs : List Value) (K : Heap → Prop) : Prop :=
  match p with
  | none => K h
  | some _ => isP p fun b o => (∀ x ∈ xs, oneCell x = true) ∧ (∀ i, i < xs.length → (∃ u, cell? h ⟨b, o + d + i, none⟩ = some u) ∧ frozen? h ⟨b, o + d + i, none⟩ = false) ∧ K (setRow h b (o + d) xs)
def cpW (h : Heap) (dp : Option Addr) (dn : Nat) (sp : Option Addr) (sn size : Nat) (K : Nat → Heap → Prop) : Prop :=
  ∃ xs, rowAt h sp (Nat.min sn dn * size) xs ∧ putRow h dp 0 xs fun h' => K (Nat.min sn dn) h'
def zerosL (zero : Array Value) (n : Nat) : List Value := (List.range (n * zero.size)).map fun i => zero[i % zero.size]!
def clW (h : Heap) (p : Option Addr) (n _size : Nat) (zero : Array Value) (K : Heap → Prop) : Prop :=
  putRow h p 0 (zerosL zero n) K
def apW (h : Heap) (sp : Option Addr) (sn sc : Nat) (xp : Option Addr) (xn size bytes e : Nat) (zero : Array Value) (K : Option Addr → Nat → Nat → Heap → Prop) : Prop :=
  (sn + xn ≤ sc → ∃ xs, rowAt h xp (xn * size) xs ∧ putRow h sp (sn * size) xs fun h' => K sp (sn + xn) sc h') ∧
  (sc < sn + xn → 0 < bytes ∧ sn + xn ≤ 281474976710656 ∧ Builtin.nextslicecap (sn + xn) sc * bytes ≤ 281474976710656 ∧ ∃ old xs, rowAt h sp (sn * size) old ∧ rowAt h xp (xn * size) xs ∧
    ∀ cap, sn + xn ≤ cap → cap < 9223372036854775808 + (sn + xn) → K (some ⟨h.size, 0, none⟩) (sn + xn) cap (h.push (.cells (old ++ xs ++ zerosL zero (cap - (sn + xn))).toArray e)))
/-- m zeros appended. -/
def azW (h : Heap) (sp : Option Addr) (sn sc : Nat) (m : Int) (size bytes e : Nat) (zero : Array Value) (K : Option Addr → Nat → Nat → Heap → Prop) : Prop :=
  0 ≤ m ∧ m < 9223372036854775808 ∧ 0 < size ∧ 0 < bytes ∧ m * (bytes : Int) ≤ 281474976710656 ∧
  (sn + m.toNat ≤ sc → putRow h sp (sn * size) (zerosL zero m.toNat) fun h' => K sp (sn + m.toNat) sc h') ∧
  (sc < sn + m.toNat → sn + m.toNat ≤ 281474976710656 ∧ Builtin.nextslicecap (sn + m.toNat) sc * bytes ≤ 281474976710656 ∧ ∃ old, rowAt h sp (sn * size) old ∧
    ∀ cap, sn + m.toNat ≤ cap → cap < 9223372036854775808 + (sn + m.toNat) → K (some ⟨h.size, 0, none⟩) (sn + m.toNat) cap (h.push (.cells (old ++ zerosL zero m.toNat ++ zerosL zero (cap - (sn + m.toNat))).toArray e)))
/-- A part of an array's or a struct's value. -/
def partV (P : Program) (t : TypeId) (cs : Array Value) (off : Nat) : Option Value :=
  match P.underlying t with
  | some d => bif isA d then some (.agg (cs.extract off (off + P.cellsOf t))) else cs[off]?
  | none => none
/-- A call of a function value: the function and what it captured. -/
def EntV (P : Program) (B : World) (v : Value) (args : Array Value) (R : Ending → Heap → Prop) (h : Heap) : Prop :=
  match v with
  | .func (.func f) first cap => Ent P B f (first ++ args ++ cap) R h
  | _ => False
/-- A new block. -/
def alW (h : Heap) (o : Obj) (K : Nat → Heap → Prop) : Prop := K h.size (h.push o)
/-- Is t a struct of one function value, and its zero of one cell? -/
def oneFn (P : Program) (t : TypeId) : Bool :=
  match P.underlying t, (P.info? t).bind (·.zero) with
  | some (.struct fs), some z => (match fs.toList with
    | [f] => (match P.underlying f.type with | some (.func ..) => Nat.beq f.offset 0 && Nat.beq (P.cellsOf f.type) 1 && Nat.beq z.cells.toList.length 1 | _ => false)
    | _ => false)
  | _, _ => false
def retE (K : Value → Heap → Prop) (X : List PanicEntry → Heap → Prop) : Ending → Heap → Prop := fun e h' =>
  match e with
  | .returned v => K v h'
  | .panicked ch => X ch h'
  | .outgrown => False
def OpW (o : Oper) (ρ : Env) (K : Env → Heap → Prop) (Q : Post) (h : Heap) : Prop :=
  let g := ρ.get N
  let K1 := fun v => K (ρ.put o.dst v) h
  match o.op with
  | .move x | .assign x => K1 (g x)
  | .pick c x y =>
    match g c, g x, g y with
    | .bool c, .bool p, .bool q => K1 (.bool (bif c then p else q))
    | .bool true, p, _ => K1 p
    | .bool false, _, q => K1 q
    | _, _, _ => False
  | .load t x =>
    match g x with
    | .pointer p => isP p fun b o => ldV P t h b o K1
    | _ => False
  | .store t x y =>
    match g x with
    | .pointer p => isP p fun b o' => let v := g y; bif Nat.beq v.cells.size (P.cellsOf t) && (P.info? t).isSome then
        stL b v.cells.toList o' h (fun h' => K (ρ.put o.dst undef) h') else False
    | _ => False
  | .fieldAddr s x f =>
    match g x, P.underlying s with
    | .pointer p, some (.struct fs) =>
      (match fs[f]? with
      | some fd => bif Nat.blt 0 (P.cellsOf fd.type) then isP p fun b o' => K1 (.pointer (some ⟨b, o' + fd.offset, none⟩)) else False
      | none => False)
    | _, _ => False
  | .indexAddr t x i =>
    match P.underlying t, g x, g i with
    | some (.slice e), .slice p n _, .int _ i => bif (P.info? e).isSome then ixW p n i (P.cellsOf e) fun b o' => K1 (.pointer (some ⟨b, o', none⟩)) else False
    | some (.array n e), .pointer p, .int _ i => bif (P.info? e).isSome then ixW p n i (P.cellsOf e) fun b o' => K1 (.pointer (some ⟨b, o', none⟩)) else False
    | _, _, _ => False
  | .index t x i =>
    match P.underlying t, g x, g i with
    | some .string, .string s, .int _ i => 0 ≤ i ∧ ∃ b : UInt8, s[i.toNat]? = some b ∧ K1 (.int .u8 (b.toNat : Int))
    | some (.array n e), .agg cs, .int _ i => bif (P.info? e).isSome then 0 ≤ i ∧ i < (n : Int) ∧ exV P e (fun v => partV P e cs (i.toNat * P.cellsOf e) = some v ∧ K1 v) else False
    | _, _, _ => genW P B N o ρ K Q h
  | .slice t x lo hi mx =>
    match P.underlying t, g x with
    | some (.slice e), .slice p n c => bif (P.info? e).isSome then
        slW n c (lo.map g) (hi.map g) (mx.map g) fun l h' m => K1 (.slice (slP p l m (P.cellsOf e)) (h' - l) (m - l)) else False
    | _, _ => False
  | .nilCheck x =>
    match g x with
    | .pointer p => isP p fun b o' => K1 (.pointer (some ⟨b, o', none⟩))
    | _ => genW P B N o ρ K Q h
  | .binOp op t x y _ =>
    match g x, g y with
    | .int k a, .int k' b =>
      (match op with
      | .shl => shW .shl k a b K1
      | .shr => shW .shr k a b K1
      | op => bif decide (k = k') then intW op k a b K1 else False)
    | .float f a, .float f' b => bif decide (f = f') && decide (op ≠ .shl ∧ op ≠ .shr) then fltW op f a b K1 else False
    | x, y => (match op with
      | .eql => eqlW P false t x y h K1
      | .neq => eqlW P true t x y h K1
      | _ => False)
  | .convert s d x =>
    match g x, P.underlying s, P.underlying d with
    | .float f a, some (.float _), some (.float f') => cvW f a f' fun z => K1 (.float f' z)
    | .float f a, some (.float _), some (.int k) => cviW f a k fun z => K1 (.int k z)
    | _, _, _ => genW P B N o ρ K Q h
  | .makeSlice t l c =>
    match P.underlying t, g l, g c with
    | some (.slice e), .int _ l, .int _ c => (match P.info? e with
        | some i => (match i.zero with
          | some z => 0 ≤ l ∧ l ≤ c ∧ i.bytes * c ≤ 281474976710656 ∧ c < 9223372036854775808 ∧
              bif Nat.blt 0 i.size then K (ρ.put o.dst (.slice (some ⟨h.size, 0, none⟩) l.toNat c.toNat)) (h.push (.cells (mkCells z.cells (c.toNat * i.size)) e)) else False
          | none => False)
        | none => False)
    | _, _, _ => False
  | .build t parts =>
    bif oneFn P t then (match parts.toList with
      | [(0, x)] => oneCell (g x) = true ∧ K1 (.agg #[g x])
      | _ => genW P B N o ρ K Q h) else genW P B N o ρ K Q h
  | .call c =>
    match c.callee with
    | .value (.func f) => Ent P B f (c.args.map g) (retE (fun v h' => caV P o.type v fun v => K (ρ.put o.dst v) h') (fun ch h' => Q (.panic ch) ρ h')) h
    | .value f => EntV P B (g f) (c.args.map g) (retE (fun v h' => caV P o.type v fun v => K (ρ.put o.dst v) h') (fun ch h' => Q (.panic ch) ρ h')) h
    | .builtin .len =>
      (match (c.args.map g).toList, c.argTypes.toList with
      | [.slice _ n _], [t] => (match P.underlying t with | some (.slice _) => K1 (.int .i64 n) | _ => False)
      | _, _ => genW P B N o ρ K Q h)
    | .builtin .cap =>
      (match (c.args.map g).toList, c.argTypes.toList with
      | [.slice _ _ n], [t] => (match P.underlying t with | some (.slice _) => K1 (.int .i64 n) | _ => False)
      | _, _ => genW P B N o ρ K Q h)
    | .builtin .min => minW true (c.args.map g).toList K1
    | .builtin .max => minW false (c.args.map g).toList K1
    | .builtin .copy =>
      (match (c.args.map g).toList, c.argTypes.toList with
      | [.slice p n _, .slice q m _], [t, _] => (match P.underlying t with
        | some (.slice e) => bif (P.info? e).isSome then cpW h p n q m (P.cellsOf e) fun k h' => K (ρ.put o.dst (.int .i64 k)) h' else False
        | _ => False)
      | _, _ => False)
    | .builtin .clear =>
      (match (c.args.map g).toList, c.argTypes.toList with
      | [.slice p n _], [t] => (match P.underlying t with
        | some (.slice e) => (match (P.info? e).bind (·.zero) with
          | some z => clW h p n (P.cellsOf e) z.cells fun h' => K (ρ.put o.dst (.tuple #[])) h'
          | none => False)
        | _ => False)
      | _, _ => False)
    | .builtin .append =>
      (match (c.args.map g).toList, c.argTypes.toList with
      | [.slice p n k, .slice q m _], [t, t2] => (match P.underlying t, P.underlying t2 with
        | some (.slice e), some (.slice _) => (match P.info? e with
          | some i => (match i.zero with
            | some z => apW h p n k q m i.size i.bytes e z.cells fun q n c h' => K (ρ.put o.dst (.slice q n c)) h'
            | none => False)
          | none => False)
        | _, _ => False)
      | [.slice p n k, .int _ m], [t, t2] => (match P.underlying t, P.underlying t2 with
        | some (.slice e), some (.int _) => (match P.info? e with
          | some i => (match i.zero with
            | some z => azW h p n k m i.size i.bytes e z.cells fun q n c h' => K (ρ.put o.dst (.slice q n c)) h'
            | none => False)
          | none => False)
        | _, _ => False)
      | _, _ => False)
    | _ => False
  | .defer c =>
    match c.callee with
    | .value (.func f) => K (Env.put { ρ with ds := { target := .fn (.func f) #[], args := c.args.map g } :: ρ.ds } o.dst undef) h
    | _ => False
  | .panic x =>
    match g x with
    | .iface t v => Q (.panic [{ v := .iface t v, recovered := false }]) ρ h
    | _ => False
  | _ => genW P B N o ρ K Q h
end
end Go.Eng
namespace Go.Eng
open Go
section
variable {ch : Bool} {P : Program} {B : World} {N : Nat}

theorem bnd_spec {X : Halt → Heap → Prop} {x : Value} {c : BoundsCode} {least most : Nat} {K : Nat → Prop} {h : Heap} (H : bnd (some x) least most K) :
    wpH ch P (Instr.sliceBound x most c) (fun i h' => h' = h ∧ K i) X h := by
  unfold bnd at H
  split at H
  · rename_i k i he
    obtain rfl := Option.some.inj he
    obtain ⟨h0, h1, H⟩ := H
    simp only [Instr.sliceBound, asIntOf, wpH_bind', wpH_pure, h0, h1, and_self, if_true]
    exact ⟨trivial, H⟩
  · exact H.elim
  · rename_i he; cases he

theorem lo_some {X : Halt → Heap → Prop} {K : Nat → Nat → Nat → Prop} {h : Heap} (v : Value) (cd : BoundsCode) (hh m : Nat) (H : bnd (some v) 0 hh fun l => K l hh m) :
    wpH ch P (do let l ← Instr.sliceBound v hh cd; pure (l, hh, m) : Sem (Nat × Nat × Nat)) (fun r h' => h' = h ∧ K r.1 r.2.1 r.2.2) X h := by
  simp only [wpH_bind']
  refine wpH_mono ?_ (fun _ _ hx => hx) _ _ (bnd_spec (ch := ch) (P := P) (X := X) (h := h) (c := cd) H)
  rintro l h' ⟨rfl, hk⟩
  exact ⟨rfl, hk⟩
theorem slW_spec {X : Halt → Heap → Prop} {n c : Nat} {lo hi mx : Option Value} {K : Nat → Nat → Nat → Prop} {h : Heap} (H : slW n c lo hi mx K) :
    wpH ch P (Instr.sliceBounds true n c lo hi mx) (fun r h' => h' = h ∧ K r.1 r.2.1 r.2.2) X h := by
  cases mx with
  | none =>
    simp only [slW] at H
    cases hi with
    | none =>
      cases lo with
      | none => exact ⟨rfl, H⟩
      | some v => exact lo_some v _ n c H
    | some v =>
      simp only [Instr.sliceBounds, wpH_bind', wpH_pure]
      refine wpH_mono ?_ (fun _ _ hx => hx) _ _ (bnd_spec (ch := ch) (P := P) (X := X) (h := h) H)
      rintro l h' ⟨rfl, hk⟩
      cases lo with
      | none => exact ⟨rfl, hk⟩
      | some v => exact lo_some v _ l c hk
  | some m =>
    simp only [slW] at H
    simp only [Instr.sliceBounds, wpH_bind']
    refine wpH_mono ?_ (fun _ _ hx => hx) _ _ (bnd_spec (ch := ch) (P := P) (X := X) (h := h) H)
    rintro m' h' ⟨rfl, hk⟩
    cases hi with
    | none => exact hk.elim
    | some v =>
      simp only [wpH_bind'] at hk ⊢
      refine wpH_mono ?_ (fun _ _ hx => hx) _ _ (bnd_spec (ch := ch) (P := P) (X := X) (h := h') hk)
      rintro l h'' ⟨rfl, hk⟩
      cases lo with
      | none => exact ⟨rfl, hk⟩
      | some v => exact lo_some v _ l m' hk

theorem shape_frozen {h : Heap} {b : Nat} (hb : ∃ c e, h[b]? = some (.cells c e (0, 0))) : (∃ s, shape? h b = some s) ∧ ∀ o, frozen? h ⟨b, o, none⟩ = false := by
  obtain ⟨c, e, hb⟩ := hb
  exact ⟨⟨(e, c.size), by simp [shape?, hb]⟩, fun o => by simp [frozen?, hb]⟩

theorem sameAddr_spec {X : Halt → Heap → Prop} {h : Heap} {b o b' o' : Nat} {K : Bool → Prop}
    (H : (b = b' ∧ K (decide (o = o'))) ∨ (b ≠ b' ∧ (∃ c e, h[b]? = some (.cells c e (0, 0))) ∧ (∃ c e, h[b']? = some (.cells c e (0, 0))) ∧ K false)) :
    wpH ch P (sameAddr ⟨b, o, none⟩ ⟨b', o', none⟩) (fun r h' => h' = h ∧ K r) X h := by
  rcases H with ⟨rfl, H⟩ | ⟨hne, h1, h2, H⟩
  · have e : ((⟨b, o, none⟩ : Addr) == ⟨b, o', none⟩) = decide (o = o') := by
      rw [Bool.eq_iff_iff]; simp
    simp only [sameAddr, beq_self_eq_true, if_true]
    refine ⟨rfl, ?_⟩
    rw [e]; exact H
  · have e : ((⟨b, o, none⟩ : Addr).block == (⟨b', o', none⟩ : Addr).block) = false := by simpa using hne
    obtain ⟨⟨s1, hs1⟩, f1⟩ := shape_frozen h1
    obtain ⟨⟨s2, hs2⟩, f2⟩ := shape_frozen h2
    simp [sameAddr, e, wpH_bind', wpH_pure, frozen, wpH, f1, noView, viewAt, shape, hs1, hs2, mayBeOne, stringish, f2, H]

theorem pEq_spec {X : Halt → Heap → Prop} {h : Heap} {p q : Option Addr} {K : Bool → Prop} {t e : TypeId} (hu : P.underlying t = some (.pointer e))
    (hz : Nat.blt 0 (P.cellsOf e) = true) (H : pEq h p q K) : wpH ch P (Op.equal t (.pointer p) (.pointer q)) (fun r h' => h' = h ∧ K r) X h := by
  have hz' : P.cellsOf e ≠ 0 := by
    intro h0; rw [h0] at hz; cases hz
  have hi : (P.info? e).isSome = true := by
    unfold Program.cellsOf at hz'
    cases h0 : P.info? e with
    | none => simp [h0] at hz'
    | some i => rfl
  have key : ∀ d, wpH ch P (Op.equalIn (d + 1) t (.pointer p) (.pointer q)) (fun r h' => h' = h ∧ K r) X h := by
    intro d
    rcases H with ⟨rfl, H⟩ | ⟨hp, rfl, H⟩ | ⟨b, o, b', o', rfl, rfl, H⟩
    · simp only [Op.equalIn, wpH_bind', wpH_underlying hu]
      exact ⟨rfl, H⟩
    · obtain ⟨a, rfl⟩ := Option.isSome_iff_exists.1 hp
      simp only [Op.equalIn, wpH_bind', wpH_underlying hu]
      exact ⟨rfl, H⟩
    · simp only [Op.equalIn, wpH_bind', wpH_underlying hu, wpH_sizeOf hi, ne_eq, hz', not_false_eq_true, if_true]
      exact sameAddr_spec H
  exact key 9999
end
end Go.Eng
namespace Go.Eng
open Go
section
variable {ch : Bool} {P : Program} {B : World} {N : Nat}

theorem cond_false_elim {c : Bool} {A : Prop} (h : bif c then A else False) : c = true ∧ A := by
  cases c
  · exact h.elim
  · exact ⟨rfl, h⟩

theorem of_val {o : Oper} {ρ : Env} {K : Env → Heap → Prop} {Q : Post} {h : Heap} {s : Sem Value}
    (he : execOp (ρ.get N) o = (do pure (Next.value (← s))))
    (H : wpH true P s (fun v h' => h' = h ∧ K (ρ.put o.dst v) h) (haltK ρ Q) h) : OpS P B N o ρ K Q h := by
  apply OpS_of_wpH
  rw [he, wpH_bind']
  refine wpH_mono ?_ (fun _ _ hx => hx) _ _ H
  rintro v h' ⟨rfl, hk⟩
  exact hk

theorem cond_false_elim' {c : Bool} {A : Prop} (h : bif c then A else False) : c = true ∧ A := by
  cases c
  · exact h.elim
  · exact ⟨rfl, h⟩
theorem eqS_spec {X : Halt → Heap → Prop} {neg : Bool} {t : TypeId} {fs : Array Field} {xs ys : Array Value} {h : Heap} {K : Value → Prop} (hu : P.underlying t = some (.struct fs))
    (H : eqS P neg t ([], fs.toList) (xs.toList, []) (ys.toList, []) K) :
    wpH ch P (Op.equal t (.agg xs) (.agg ys)) (fun b h' => h' = h ∧ K (.bool (bif neg then !b else b))) X h ∧ P.eqGuardType P.depth t = false := by
  unfold eqS at H
  simp only at H
  split at H
  · rename_i f0 f1 k0 a0 k1 a1 j0 b0 j1 b1 hf hx hy
    obtain ⟨hc, H1⟩ := cond_false_elim H
    clear H
    simp only [Bool.and_eq_true, Bool.not_eq_true', decide_eq_true_eq] at hc
    obtain ⟨⟨⟨⟨⟨h0, h1⟩, rfl⟩, rfl⟩, hs⟩, hg⟩ := hc
    have efs : fs = #[f0, f1] := by cases fs; simp at hf; simp [hf]
    have exs : xs = #[.int k0 a0, .int k1 a1] := by cases xs; simp at hx; simp [hx]
    have eys : ys = #[.int k0 b0, .int k1 b1] := by cases ys; simp at hy; simp [hy]
    subst efs exs eys
    refine ⟨?_, hg⟩
    have fld : ∀ {f : Field} {i : Nat}, okF P f i = true → f.name ≠ "_" ∧ f.offset = i ∧ ∃ k, P.underlying f.type = some (.int k) := by
      intro f i hf
      unfold okF at hf
      simp only [Bool.and_eq_true, bne_iff_ne, ne_eq] at hf
      refine ⟨hf.1.1, Nat.eq_of_beq_eq_true hf.1.2, ?_⟩
      have := hf.2
      unfold isIntU at this
      split at this
      · rename_i k hk; exact ⟨k, hk⟩
      · cases this
    obtain ⟨n0, o0, q0, u0⟩ := fld h0
    obtain ⟨n1, o1, q1, u1⟩ := fld h1
    have part0 : ∀ (t : TypeId) (k : IntKind) (cs : Array Value) (i : Nat) (v : Value) (K : Value → Heap → Prop) (h : Heap), P.underlying t = some (.int k) → cs[i]? = some v → K v h → wpH ch P (part t cs i) K X h := by
      intro t k cs i v K h hu hv hK
      simp only [part, isAgg, wpH_bind', wpH_underlying hu, wpH_pure, Bool.false_eq_true, if_false, hv]
      exact hK
    have eq0 : ∀ (d : Nat) (t : TypeId) (k kk : IntKind) (a b : Int) (K : Bool → Heap → Prop) (h : Heap), P.underlying t = some (.int k) → K (decide (a = b)) h → wpH ch P (Op.equalIn (d + 1) t (.int kk a) (.int kk b)) K X h := by
      intro d t k kk a b K h hu hK
      simp only [Op.equalIn, wpH_bind', wpH_underlying hu, if_true, wpH_pure]
      exact hK
    have hS : ∀ (K : Program → Heap → Prop) (h : Heap), wpH ch P program K X h = K P h := fun _ _ => rfl
    show wpH ch P (Op.equalIn 10000 t _ _) _ X h
    rw [Op.equalIn]
    simp only [wpH_bind', wpH_underlying hu, hS, hs, Bool.false_eq_true, if_false, ← Array.forIn_toList, List.forIn_cons, List.forIn_nil, n0, n1, ne_eq, not_false_eq_true, if_true]
    rw [o0, o1]
    refine part0 _ q0 _ 0 _ _ _ u0 rfl (part0 _ q0 _ 0 _ _ _ u0 rfl (eq0 9998 _ q0 _ _ _ _ _ u0 ?_))
    by_cases e0 : a0 = b0
    · simp only [e0, decide_true, Bool.not_true, Bool.false_eq_true, if_false, wpH_bind', wpH_pure]
      refine part0 _ q1 _ 1 _ _ _ u1 rfl (part0 _ q1 _ 1 _ _ _ u1 rfl (eq0 9998 _ q1 _ _ _ _ _ u1 ?_))
      by_cases e1 : a1 = b1
      · simp only [e1, decide_true, Bool.not_true, Bool.false_eq_true, if_false, wpH_pure]
        exact ⟨trivial, by simpa [e0, e1] using H1⟩
      · simp only [e1, decide_false, Bool.not_false, if_true, wpH_pure]
        exact ⟨trivial, by simpa [e0, e1] using H1⟩
    · simp only [e0, decide_false, Bool.not_false, if_true, wpH_pure]
      exact ⟨trivial, by simpa [e0] using H1⟩
  · exact H.elim
theorem eqlW_key {X : Halt → Heap → Prop} {neg : Bool} {t : TypeId} {x y : Value} {h : Heap} {K : Value → Prop} (H : eqlW P neg t x y h K) :
    wpH ch P (Op.equal t x y) (fun b h' => h' = h ∧ K (.bool (bif neg then !b else b))) X h ∧
    ((∃ a b, x = .bool a ∧ y = .bool b) ∨ (∃ p n c q m d, x = .slice p n c ∧ y = .slice q m d) ∨ (∃ p q, x = .pointer p ∧ y = .pointer q) ∨ ∃ xs ys, x = .agg xs ∧ y = .agg ys ∧ P.eqGuardType P.depth t = false) := by
  have key : ∀ e, P.underlying t = none ∨ True → (∀ p q, ¬ (x = .pointer p ∧ y = .pointer q)) → (∀ p q, ¬ (x = .agg p ∧ y = .agg q)) → wpH ch P (Op.equalIn (e + 1) t x y) (fun b h' => h' = h ∧ K (.bool (bif neg then !b else b))) X h := by
    intro e _ hnp hna
    unfold eqlW at H
    split at H
    · rename_i a b hu
      simp only [Op.equalIn, wpH_bind', wpH_underlying hu]
      exact ⟨rfl, H⟩
    · rename_i p _ _ _ _ hu
      simp only [Op.equalIn, wpH_bind', wpH_underlying hu]
      cases p <;> exact ⟨rfl, H⟩
    · rename_i q _ _ _ hu
      simp only [Op.equalIn, wpH_bind', wpH_underlying hu]
      exact ⟨rfl, H⟩
    · exact absurd ⟨rfl, rfl⟩ (hna _ _)
    · exact absurd ⟨rfl, rfl⟩ (hnp _ _)
    · exact H.elim
  unfold eqlW at H
  split at H
  · exact ⟨key 9999 (.inr trivial) (by rintro p q ⟨h, _⟩; cases h) (by rintro p q ⟨h, _⟩; cases h), .inl ⟨_, _, rfl, rfl⟩⟩
  · exact ⟨key 9999 (.inr trivial) (by rintro p q ⟨h, _⟩; cases h) (by rintro p q ⟨h, _⟩; cases h), .inr (.inl ⟨_, _, _, _, _, _, rfl, rfl⟩)⟩
  · exact ⟨key 9999 (.inr trivial) (by rintro p q ⟨h, _⟩; cases h) (by rintro p q ⟨h, _⟩; cases h), .inr (.inl ⟨_, _, _, _, _, _, rfl, rfl⟩)⟩
  · rename_i fs xs ys hu
    obtain ⟨h1, h2⟩ := eqS_spec (X := X) (ch := ch) (h := h) hu H
    exact ⟨h1, .inr (.inr (.inr ⟨_, _, rfl, rfl, h2⟩))⟩
  · rename_i e p q hu
    obtain ⟨h1, h2⟩ := cond_false_elim' H
    exact ⟨pEq_spec hu h1 h2, .inr (.inr (.inl ⟨_, _, rfl, rfl⟩))⟩
  · exact H.elim

theorem eqlW_spec {X : Halt → Heap → Prop} {op : BinOp} {neg : Bool} (hop : (op = .eql ∧ neg = false) ∨ (op = .neq ∧ neg = true)) {t : TypeId} {x y : Value} {h : Heap} {K : Value → Prop} (H : eqlW P neg t x y h K)
    (c d : Operand) : wpH ch P (do eqGuard op t c d x y; binOp op t x y : Sem Value) (fun v h' => h' = h ∧ K v) X h := by
  obtain ⟨hk, hs⟩ := eqlW_key (X := X) (ch := ch) H
  have hS : ∀ (K : Program → Heap → Prop) (h : Heap), wpH ch P program K X h = K P h := fun _ _ => rfl
  rcases hop with ⟨rfl, rfl⟩ | ⟨rfl, rfl⟩ <;> rcases hs with ⟨a, b, rfl, rfl⟩ | ⟨p, n, cc, q, m, dd, rfl, rfl⟩ | ⟨p, q, rfl, rfl⟩ | ⟨xs, ys, rfl, rfl, hg⟩
  case inl.inr.inr.inr | inr.inr.inr.inr =>
    simp only [eqGuard, wpH_bind', binOp, Bool.not_true, Bool.false_eq_true, if_false, wpH_pure, hS, hg, Bool.not_false, if_true]
    refine wpH_mono ?_ (fun _ _ hx => hx) _ _ hk
    rintro b h' ⟨rfl, hb⟩
    exact ⟨rfl, hb⟩
  all_goals
    simp only [eqGuard, wpH_bind', binOp, Bool.not_true, Bool.false_eq_true, if_false, wpH_pure]
    refine wpH_mono ?_ (fun _ _ hx => hx) _ _ hk
    rintro b h' ⟨rfl, hb⟩
    exact ⟨rfl, hb⟩

theorem fieldAt_spec {X : Halt → Heap → Prop} {s : TypeId} {f b o : Nat} {fs : Array Field} {fd : Field} {h : Heap} (hu : P.underlying s = some (.struct fs))
    (hf : fs[f]? = some fd) (hz : Nat.blt 0 (P.cellsOf fd.type) = true) {K : Value → Prop} (H : K (.pointer (some ⟨b, o + fd.offset, none⟩))) :
    wpH ch P (Instr.fieldAt s (.pointer (some ⟨b, o, none⟩)) f) (fun v h' => h' = h ∧ K v) X h := by
  have hz' : P.cellsOf fd.type ≠ 0 := by
    intro h0; rw [h0] at hz; cases hz
  have hi : (P.info? fd.type).isSome = true := by
    unfold Program.cellsOf at hz'
    cases h0 : P.info? fd.type with
    | none => simp [h0] at hz'
    | some i => rfl
  simp only [Instr.fieldAt, Instr.sureAddr, fieldPlace, wpH_bind', wpH_underlying hu, hf, wpH_pure, wpH_sizeOf hi, hz', if_false, add_addr]
  exact ⟨trivial, H⟩

theorem partV_spec {X : Halt → Heap → Prop} {t : TypeId} {cs : Array Value} {off : Nat} {v : Value} {K : Value → Heap → Prop} {h : Heap} (hi : (P.info? t).isSome = true) (H : partV P t cs off = some v) (k : K v h) :
    wpH ch P (part t cs off) K X h := by
  unfold partV at H
  cases hu : P.underlying t with
  | none => rw [hu] at H; cases H
  | some d =>
    rw [hu] at H
    simp only at H
    simp only [part, isAgg, wpH_bind', wpH_underlying hu]
    cases hd : isA d with
    | true =>
      rw [hd, cond_true] at H
      obtain rfl := Option.some.inj H
      cases d <;> simp only [isA, Bool.false_eq_true] at hd <;> (simp only [wpH_pure, if_true, wpH_bind', wpH_sizeOf hi]; exact k)
    | false =>
      rw [hd, cond_false] at H
      cases d <;> simp only [isA, Bool.true_eq_false] at hd <;> (simp only [wpH_pure, Bool.false_eq_true, if_false, H]; exact k)
theorem indexAt_slice_spec {X : Halt → Heap → Prop} {t e : TypeId} {p : Option Addr} {n c : Nat} {k : IntKind} {i : Int} {h : Heap} (hu : P.underlying t = some (.slice e))
    (hi : (P.info? e).isSome = true) {K : Value → Prop} (H : ixW p n i (P.cellsOf e) fun b o' => K (.pointer (some ⟨b, o', none⟩))) :
    wpH ch P (Instr.indexAt t (.slice p n c) (.int k i)) (fun v h' => h' = h ∧ K v) X h := by
  obtain ⟨b, o, rfl, h0, h1, H⟩ := H
  simp only [Instr.indexAt, asIntOf, wpH_bind', wpH_underlying hu, wpH_pure, wpH_sizeOf hi, h0, h1, and_self, if_true, add_addr]
  exact ⟨trivial, H⟩
theorem indexAt_array_spec {X : Halt → Heap → Prop} {t e : TypeId} {p : Option Addr} {n : Nat} {k : IntKind} {i : Int} {h : Heap} (hu : P.underlying t = some (.array n e))
    (hi : (P.info? e).isSome = true) {K : Value → Prop} (H : ixW p n i (P.cellsOf e) fun b o' => K (.pointer (some ⟨b, o', none⟩))) :
    wpH ch P (Instr.indexAt t (.pointer p) (.int k i)) (fun v h' => h' = h ∧ K v) X h := by
  obtain ⟨b, o, rfl, h0, h1, H⟩ := H
  simp only [Instr.indexAt, Instr.sureAddr, asIntOf, wpH_bind', wpH_underlying hu, wpH_pure, wpH_sizeOf hi, h0, h1, and_self, if_true, add_addr]
  exact ⟨trivial, H⟩
end
end Go.Eng
