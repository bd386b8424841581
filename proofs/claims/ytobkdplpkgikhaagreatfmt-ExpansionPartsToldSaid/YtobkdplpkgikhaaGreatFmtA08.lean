import Derived.Test.YtobkdplpkgikhaaGreatFmtA07
import Derived.Deep.LoopGhost
/- Here stand lemmas and contracts, in the order in which they are used. -/
set_option linter.unusedVariables false
namespace Go.Eng
open Go
/-- Is a value of the kind that a type says? -/
def allI : List Value → Bool
  | [] => true
  | .int .i64 _ :: r => allI r
  | _ :: _ => false
def tyV : TypeDesc → Value → Bool
  | .array n _, .agg cs => bif Nat.beq cs.toList.length n then allI cs.toList else false
  | .array _ _, _ => false
  | .int .i8, .int .i8 _ | .int .i16, .int .i16 _ | .int .i32, .int .i32 _ | .int .i64, .int .i64 _
  | .int .u8, .int .u8 _ | .int .u16, .int .u16 _ | .int .u32, .int .u32 _ | .int .u64, .int .u64 _ => true
  | .int _, _ => false
  | .bool, .bool _ => true
  | .bool, _ => false
  | .float .f32, .float .f32 _ | .float .f64, .float .f64 _ => true
  | .float _, _ => false
  | .pointer _, .pointer _ => true
  | .pointer _, _ => false
  | .slice _, .slice .. => true
  | .slice _, _ => false
  | .string, .string _ => true
  | .string, _ => false
  | _, _ => true
def allC : Nat → List Value → (List Value → Prop) → Prop
  | 0, acc, K => K acc
  | n + 1, acc, K => ∀ x : Int, allC n (acc ++ [.int .i64 x]) K
theorem allC_spec {K : List Value → Prop} : ∀ (l acc : List Value), allC l.length acc K → allI l = true → K (acc ++ l)
  | [], acc, H, _ => by rw [List.append_nil]; exact H
  | v :: l, acc, H, h => by
    unfold allI at h
    split at h
    · rename_i e; cases e
    · rename_i x r e
      cases e
      have := allC_spec l _ (H x) h
      rw [List.append_assoc] at this
      exact this
    · cases h
def allD (d : TypeDesc) (K : Value → Prop) : Prop :=
  match d with
  | .array n _ => allC n [] fun l => K (.agg l.toArray)
  | .int k => ∀ n, K (.int k n)
  | .bool => ∀ x, K (.bool x)
  | .float k => ∀ n, K (.float k n)
  | .pointer _ => ∀ p, K (.pointer p)
  | .slice _ => ∀ p n c, K (.slice p n c)
  | .string => ∀ s, K (.string s)
  | _ => ∀ v, K v
theorem allD_spec {d : TypeDesc} {K : Value → Prop} (H : allD d K) {v : Value} (hv : tyV d v = true) : K v := by
  unfold allD at H
  split at H
  · rename_i n e
    cases v with
    | agg cs =>
      unfold tyV at hv
      simp only at hv
      cases hl : Nat.beq cs.toList.length n with
      | false => rw [hl] at hv; cases hv
      | true =>
        rw [hl, cond_true] at hv
        have hl := Nat.eq_of_beq_eq_true hl
        rw [← hl] at H
        have := allC_spec cs.toList [] H hv
        simpa using this
    | _ => cases hv
  · rename_i k
    cases v with
    | int k' n => cases k <;> cases k' <;> first | exact H n | cases hv
    | _ => cases k <;> cases hv
  · cases v <;> first | exact H _ | cases hv
  · rename_i k
    cases v with
    | float k' n => cases k <;> cases k' <;> first | exact H n | cases hv
    | _ => cases k <;> cases hv
  · cases v <;> first | exact H _ | cases hv
  · cases v <;> first | exact H _ _ _ | cases hv
  · cases v <;> first | exact H _ | cases hv
  · exact H v
def allL : List (Nat × TypeDesc) → List Value → (List Value → Prop) → Prop
  | [], acc, K => K acc
  | d :: ds, acc, K => allD d.2 fun v => allL ds (acc ++ [v]) K
def tyL (ρ : Env) : List (Nat × TypeDesc) → Bool
  | [] => true
  | d :: ds => bif tyV d.2 (ρ.t d.1) then tyL ρ ds else false
def valsL (ρ : Env) (l : List (Nat × TypeDesc)) : List Value := l.map fun d => ρ.t d.1
def setL (r : Nat → Value) : List (Nat × TypeDesc) → List Value → Nat → Value
  | d :: ds, v :: vs => fun i => bif Nat.beq i d.1 then v else setL r ds vs i
  | _, _ => r
theorem allL_spec {ρ : Env} : ∀ {l : List (Nat × TypeDesc)} {acc : List Value} {K : List Value → Prop}, allL l acc K → tyL ρ l = true → K (acc ++ valsL ρ l)
  | [], acc, K, H, _ => by simpa [valsL, allL] using H
  | d :: ds, acc, K, H, ht => by
    unfold tyL at ht
    cases hv : tyV d.2 (ρ.t d.1) with
    | false => rw [hv] at ht; cases ht
    | true =>
      rw [hv, cond_true] at ht
      have := allL_spec (allD_spec H hv) ht
      simpa [valsL] using this
theorem setL_vals {ρ : Env} : ∀ {l : List (Nat × TypeDesc)} (i : Nat), setL ρ.t l (valsL ρ l) i = ρ.t i
  | [], i => rfl
  | d :: ds, i => by
    show (bif Nat.beq i d.1 then ρ.t d.1 else setL ρ.t ds (valsL ρ ds) i) = _
    cases h : Nat.beq i d.1 with
    | true => rw [cond_true, Nat.eq_of_beq_eq_true h]
    | false => rw [cond_false, setL_vals]
def sameDs (a b : List Deferred) (K : Prop) : Prop :=
  match a with
  | [] => (match b with | [] => K | _ => False)
  | d :: ds => b = d :: ds ∧ K
theorem sameDs_spec {a b : List Deferred} {K : Prop} (H : sameDs a b K) : b = a ∧ K := by
  unfold sameDs at H
  split at H
  · split at H
    · exact ⟨rfl, H⟩
    · exact H.elim
  · exact H
/-- The number of the first region of a piece of code. -/
def firstId : Code → Nat
  | .region id _ _ => id
  | .seq c _ => firstId c
  | .block _ c => firstId c
  | .cond _ c _ => firstId c
  | .loop c => firstId c
  | _ => 0
section
variable (P : Program) (B : World) (N : Nat) (L : Nat → List (Nat × TypeDesc))

/-- What a piece of code must come to. -/
def W : Code → Post → Env → Heap → Prop
  | .skip, Q, ρ, h => Q .normal ρ h
  | .region _ ops draw, Q, ρ, h => bif draw then (bif Region.noSelect ops then porW P B N ops Q ops.size (Array.replicate ops.size false) [] [] ρ h else False)
      else seqW P B N ops Q ops.toList [] ρ h
  | .seq c d, Q, ρ, h => W c (fun e ρ h => match e with | .normal => W d Q ρ h | e => Q e ρ h) ρ h
  | .cond x c d, Q, ρ, h => match ρ.get N x with
      | .bool b => (b = true → W c Q ρ h) ∧ (b = false → W d Q ρ h)
      | _ => False
  | .block id c, Q, ρ, h => W c (fun e ρ h => match e with
      | .exit i => bif Nat.beq i id then Q .normal ρ h else Q (.exit i) ρ h
      | e => Q e ρ h) ρ h
  | .loop c, Q, ρ, h => ∃ I : Nat → List Value → Heap → Prop, ∃ n, (bif tyL ρ (L (firstId c)) then I n (valsL ρ (L (firstId c))) h else False) ∧
      ∀ n h, allL (L (firstId c)) [] fun vs => I n vs h → ∀ r : Nat → Value, W c (fun e ρ' h' => match e with
        | .normal => sameDs ρ.ds ρ'.ds (bif tyL ρ' (L (firstId c)) then ∃ m, m < n ∧ I m (valsL ρ' (L (firstId c))) h' else False)
        | e => Q e ρ' h') ⟨setL r (L (firstId c)) vs, ρ.ds⟩ h
  | .exit id, Q, ρ, h => Q (.exit id) ρ h
  | .ret, Q, ρ, h => Q .ret ρ h
  | _, _, _, _ => False
end
section
variable {P : Program} {B : World} {N : Nat}

/-- The code with some regions shut: a proof over it shows that they are not come to. -/
def prune (ids : List Nat) : Code → Code
  | .region id ops draw => bif memN ids id then .refuse "" else .region id ops draw
  | .seq c d => .seq (prune ids c) (prune ids d)
  | .cond x c d => .cond x (prune ids c) (prune ids d)
  | .block id c => .block id (prune ids c)
  | .loop c => .loop (prune ids c)
  | c => c
theorem W_sound {L : Nat → List (Nat × TypeDesc)} (ids : List Nat) (hm : P.follows .mixedOrders = true) : ∀ (c : Code) (Q : Post) (ρ : Env) (h : Heap), W P B N L (prune ids c) Q ρ h → ∀ a n, Rel N a ρ → c.wp P (liftQ B N Q) a (mk B h n) := by
  intro c
  induction c with
  | skip => exact fun Q ρ h H a n hr => wp_skip ⟨ρ, h, n, hr, rfl, H⟩
  | region id ops draw =>
    intro Q ρ h H a n hr
    unfold prune at H
    cases hmem : memN ids id with
    | true => rw [hmem] at H; exact H.elim
    | false =>
    rw [hmem, cond_false] at H
    unfold W at H
    cases draw with
    | false =>
      rw [cond_false] at H
      exact wp_region_list (seqW_sound _ _ _ _ H a n hr)
    | true =>
      rw [cond_true] at H
      obtain ⟨hs, H⟩ := cond_false_elim H
      have h1 := wpAny_of_G _ _ _ _ (porW_sound hs _ _ _ _ _ _ H a (n + 1) hr)
      have h2 : (Code.region id ops true).wp P (liftQ B N (onlyN Q)) a (mk B h n) := wp_region_any hm h1
      refine wp_mono h2 ?_
      rintro e a' w' ⟨ρ', h', n', hr', rfl, hq⟩
      refine ⟨ρ', h', n', hr', rfl, ?_⟩
      cases e <;> first | exact hq | exact hq.elim
  | seq c d ihc ihd =>
    intro Q ρ h H a n hr
    unfold prune W at H
    refine wp_seq (wp_mono (ihc _ _ _ H a n hr) ?_)
    rintro e a' w' ⟨ρ', h', n', hr', rfl, hq⟩
    cases e <;> first
      | exact ihd _ _ _ hq _ _ hr'
      | exact ⟨ρ', h', n', hr', rfl, hq⟩
  | cond x c d ihc ihd =>
    intro Q ρ h H a n hr
    unfold prune W at H
    split at H
    · rename_i b hx
      refine wp_cond_split (t := b) (by rw [hr.eval]; exact hx) (fun hb => ihc _ _ _ (H.1 hb) a n hr) (fun hb => ihd _ _ _ (H.2 hb) a n hr)
    · exact H.elim
  | block id c ih =>
    intro Q ρ h H a n hr
    unfold prune W at H
    refine wp_block (wp_mono (ih _ _ _ H a n hr) ?_)
    rintro e a' w' ⟨ρ', h', n', hr', rfl, hq⟩
    cases e with
    | exit i =>
      unfold Exit.inBlock
      simp only at hq ⊢
      by_cases hi : i = id
      · subst hi
        rw [if_pos rfl]
        rw [show Nat.beq i i = true from by simp, cond_true] at hq
        exact ⟨ρ', h', n', hr', rfl, hq⟩
      · rw [if_neg hi]
        rw [show Nat.beq i id = false from by simpa [← Bool.not_eq_true, Nat.beq_eq] using hi, cond_false] at hq
        exact ⟨ρ', h', n', hr', rfl, hq⟩
    | _ => exact ⟨ρ', h', n', hr', rfl, hq⟩
  | loop c ih =>
    intro Q ρ h H a n hr
    unfold prune W at H
    obtain ⟨I, n0, h0, H⟩ := H
    obtain ⟨ht, h0⟩ := cond_false_elim h0
    let l := L (firstId (prune ids c))
    let J : Nat → Act → World → Prop := fun k a w => ∃ ρ' h n, Rel N a ρ' ∧ w = mk B h n ∧ ρ'.ds = ρ.ds ∧ tyL ρ' l = true ∧ I k (valsL ρ' l) h
    have hJ0 : J n0 a (mk B h n) := ⟨ρ, h, n, hr, rfl, rfl, ht, h0⟩
    refine wp_loop (fun a w => ∃ k, J k a w) (fun a w => leastOf fun k => J k a w) ⟨n0, hJ0⟩ ?_
    intro a w hI
    obtain ⟨ρ1, h1, n1, hr1, rfl, hds, ht1, hI'⟩ := (leastOf_spec hI).1
    have hb := allL_spec (H (leastOf fun k => J k a (mk B h1 n1)) h1) ht1
    have hW := hb hI' ρ1.t
    have hr2 : Rel N a ⟨setL ρ1.t l (valsL ρ1 l), ρ.ds⟩ := ⟨hr1.size, fun i hi => by rw [hr1.at_ i hi]; exact (setL_vals i).symm, by rw [hr1.defers, hds]⟩
    refine wp_mono (ih _ _ _ hW a n1 hr2) ?_
    rintro e a' w' ⟨ρ', h', n', hr', rfl, hq⟩
    cases e with
    | normal =>
      obtain ⟨hd', hq⟩ := sameDs_spec hq
      obtain ⟨ht', m, hm, hI2⟩ := cond_false_elim hq
      have hex : J m a' (mk B h' n') := ⟨ρ', h', n', hr', rfl, hd', ht', hI2⟩
      exact ⟨⟨m, hex⟩, Nat.lt_of_le_of_lt ((leastOf_spec ⟨m, hex⟩).2 m hex) hm⟩
    | _ => exact ⟨ρ', h', n', hr', rfl, hq⟩
  | exit id => exact fun Q ρ h H a n hr => wp_exit ⟨ρ, h, n, hr, rfl, H⟩
  | ret => exact fun Q ρ h H a n hr => wp_ret ⟨ρ, h, n, hr, rfl, H⟩
  | _ => intro Q ρ h H; exact H.elim

/-- A function's results, read at its end. -/
def resL (P : Program) (N : Nat) (ρ : Env) (h : Heap) : List ResultVar → Array Value → (Array Value → Prop) → Prop
  | [], acc, K => K acc
  | .tmp t :: r, acc, K => resL P N ρ h r (acc.push (ρ.get N (.tmp t))) K
  | .cell a t :: r, acc, K => (match ρ.get N (.tmp a) with
      | .pointer p => isP p fun b o => ldV P t h b o fun v => resL P N ρ h r (acc.push v) K
      | _ => False)
def one (vs : Array Value) : Value := if h : vs.size = 1 then vs[0] else .tuple vs
theorem resL_spec {X : Halt → Heap → Prop} {a : Act} {ρ : Env} (hr : Rel N a ρ) {h : Heap} : ∀ {l : List ResultVar} {acc : Array Value} {K : Array Value → Prop}, resL P N ρ h l acc K →
    wpH false P (l.foldlM (fun (acc : Array Value) rv => do let v ← (match rv with | .tmp t => pure (a.tmps.getD t undef) | .cell b t => do loadVar t (← asAddr (a.tmps.getD b undef)) : Sem Value); pure (acc.push v)) acc)
      (fun vs h' => h' = h ∧ vs.size = acc.size + l.length ∧ K vs) X h
  | [], acc, K, H => ⟨rfl, by simp, H⟩
  | .tmp t :: r, acc, K, H => by
    have e : a.tmps.getD t undef = ρ.get N (.tmp t) := congrFun hr.eval (.tmp t)
    simp only [List.foldlM_cons, wpH_bind', wpH_pure, e]
    refine wpH_mono ?_ (fun _ _ hx => hx) _ _ (resL_spec hr H)
    rintro vs h' ⟨rfl, h2, h3⟩
    exact ⟨rfl, by rw [h2]; simp; omega, h3⟩
  | .cell b t :: r, acc, K, H => by
    have e : a.tmps.getD b undef = ρ.get N (.tmp b) := congrFun hr.eval (.tmp b)
    unfold resL at H
    split at H
    · rename_i p hp
      obtain ⟨bb, o, rfl, H⟩ := H
      simp only [List.foldlM_cons, wpH_bind', e, hp, asAddr, wpH_pure]
      refine wpH_mono ?_ (fun _ _ hx => hx) _ _ (loadVar_spec (ch := false) (P := P) (X := X) H)
      rintro v h' ⟨rfl, hk⟩
      refine wpH_mono ?_ (fun _ _ hx => hx) _ _ (resL_spec hr hk)
      rintro vs h'' ⟨rfl, h2, h3⟩
      exact ⟨rfl, by rw [h2]; simp; omega, h3⟩
    · exact H.elim

theorem results_spec {X : Halt → Heap → Prop} {fn : Func} {a : Act} {ρ : Env} (hr : Rel N a ρ) {h : Heap} {K : Value → Prop} (H : resL P N ρ h fn.results.toList #[] fun vs => K (one vs)) :
    wpH false P (results fn a.tmps) (fun v h' => h' = h ∧ K v) X h := by
  unfold results
  rw [wpH_bind', Array.mapM_eq_foldlM, ← Array.foldlM_toList]
  refine wpH_mono ?_ (fun _ _ hx => hx) _ _ (resL_spec hr H)
  rintro vs h' ⟨rfl, _, hk⟩
  exact ⟨rfl, hk⟩
theorem results_run {fn : Func} {a : Act} {ρ : Env} (hr : Rel N a ρ) {h : Heap} {K : Value → Prop} (H : resL P N ρ h fn.results.toList #[] fun vs => K (one vs)) (n : Nat) :
    ∃ v, (results fn a.tmps).run P (mk B h n) = .ok v (mk B h n) ∧ K v := by
  rcases wpH_run (B := B) _ _ (results_spec (X := fun _ _ => False) hr H) n with ⟨v, h', n', hrun, hn, rfl, hk⟩ | ⟨_, _, _, _, hx⟩
  · rw [hn rfl] at hrun; exact ⟨v, hrun, hk⟩
  · exact hx.elim

/-- The post of a function's body that defers nothing. -/
def endQ (P : Program) (fn : Func) (R : Ending → Heap → Prop) : Post := fun e ρ h =>
  match e with
  | .normal | .ret => (match ρ.ds with
    | [] => resL P fn.ntmps ρ h fn.results.toList #[] fun vs => R (.returned (one vs)) h
    | _ => False)
  | .panic ch => (match ρ.ds with
    | [] => R (.panicked ch) h
    | _ => False)
  | _ => False
def env0 (args : Array Value) : Env := ⟨fun i => args.getD i undef, []⟩
theorem rel0 {args : Array Value} {m : Nat} (h : args.size ≤ m) : Rel m { tmps := args ++ Array.replicate (m - args.size) undef, defers := [] } (env0 args) := by
  refine ⟨by simp; omega, fun i hi => ?_, rfl⟩
  simp only [env0, Array.getD_eq_getD_getElem?, Array.getElem?_append, Array.getElem?_replicate]
  split
  · rfl
  · rename_i hn
    rw [Array.getElem?_eq_none (by omega)]
    split <;> rfl

theorem Fn_of_W (hm : P.follows .mixedOrders = true) {f : FuncId} {fn : Func} {c : Code} {args : Array Value} {R : Ending → Heap → Prop} {h : Heap}
    (hf : P.funcs[f]? = some fn) (hb : fn.body = some c) (hs : Nat.ble args.size fn.ntmps = true) {L : Nat → List (Nat × TypeDesc)} (ids : List Nat) (H : W P B fn.ntmps L (prune ids c) (endQ P fn R) (env0 args) h) : Fn P B f args R h := by
  intro n
  refine calls_of_wp hf hb (wp_mono (W_sound ids hm _ _ _ _ H _ n (rel0 (Nat.le_of_ble_eq_true hs))) ?_)
  rintro e a' w' ⟨ρ, h', n', hr, rfl, hq⟩
  cases e <;> simp only [endQ] at hq
  case normal =>
    split at hq
    · rename_i hd
      obtain ⟨v, hv, hk⟩ := results_run (B := B) (K := fun v => R (.returned v) h') hr hq n'
      exact ⟨by rw [hr.defers, hd], v, hv, h', n', rfl, hk⟩
    · exact hq.elim
  case ret =>
    split at hq
    · rename_i hd
      obtain ⟨v, hv, hk⟩ := results_run (B := B) (K := fun v => R (.returned v) h') hr hq n'
      exact ⟨by rw [hr.defers, hd], v, hv, h', n', rfl, hk⟩
    · exact hq.elim
  case panic ch =>
    split at hq
    · rename_i hd
      exact ⟨by rw [hr.defers, hd], h', n', rfl, hq⟩
    · exact hq.elim

def codeOf (fn : Func) : Code := match fn.body with | some c => c | none => .skip
theorem Ent_of_W (hm : P.follows .mixedOrders = true) {f : FuncId} {fn : Func} {args : Array Value} {R : Ending → Heap → Prop} {h : Heap}
    (hf : P.funcs[f]? = some fn) (hn : (fn.name == "runtime.NumGoroutine") = false) (hb : fn.body.isSome = true) (hs : Nat.ble args.size fn.ntmps = true) (L : Nat → List (Nat × TypeDesc)) (ids : List Nat)
    (H : W P B fn.ntmps L (prune ids (codeOf fn)) (endQ P fn R) (env0 args) h) : Ent P B f args R h := by
  obtain ⟨c, hc⟩ := Option.isSome_iff_exists.1 hb
  refine Ent.of_fn hf hn (by simp [hc]) (Fn_of_W hm hf hc hs (L := L) ids ?_)
  unfold codeOf at H
  rw [hc] at H
  exact H

/-- A deferred call. -/
def FnD (P : Program) (B : World) (f : FuncId) (args : Array Value) (u : FrameMode) (R : Ending → FrameMode → Heap → Prop) (h : Heap) : Prop :=
  ∀ n, CallsD P f args u (mk B h n) (fun e u' w' => ∃ h' n', w' = mk B h' n' ∧ R e u' h')
def Enters (P : Program) (f : FuncId) : Prop := ∀ args w, (callFunc f args).run P w = .ok (.enter f args) w
def lvW (K : Heap → Prop) (X : List PanicEntry → Heap → Prop) : FrameMode → Heap → Prop
  | .returning, h => K h
  | .panicking ch, h => X ch h
  | .run, _ => False
def dfE (K : FrameMode → Heap → Prop) : Ending → FrameMode → Heap → Prop
  | .returned _, u, h => K (settle u) h
  | .panicked ch, u, h => K (raised u ch) h
  | .outgrown, _, _ => False
def notRun : FrameMode → Bool
  | .run => false
  | _ => true
def leavesW (P : Program) (B : World) (fn : Func) (ρ : Env) (R : Ending → Heap → Prop) : List Deferred → FrameMode → Heap → Prop
  | [], u, h => lvW (fun h => resL P fn.ntmps ρ h fn.results.toList #[] fun vs => R (.returned (one vs)) h) (fun ch h => R (.panicked ch) h) u h
  | d :: ds, u, h => match d.target with
    | .fn (.func f) c => bif notRun u && c.isEmpty then Enters P f ∧ FnD P B f d.args u (dfE fun u h => leavesW P B fn ρ R ds u h) h else False
    | _ => False
def endQD (P : Program) (B : World) (fn : Func) (R : Ending → Heap → Prop) : Post := fun e ρ h =>
  match e with
  | .normal | .ret => leavesW P B fn ρ R ρ.ds .returning h
  | .panic ch => leavesW P B fn ρ R ρ.ds (.panicking ch) h
  | _ => False

theorem leavesW_sound {fn : Func} {a : Act} {ρ : Env} (hr : Rel fn.ntmps a ρ) {R : Ending → Heap → Prop} : ∀ {ds : List Deferred} {u : FrameMode} {h : Heap}, leavesW P B fn ρ R ds u h →
    ∀ n, Leaves P fn a.tmps (fun e w' => ∃ h' n', w' = mk B h' n' ∧ R e h') ds u (mk B h n)
  | [], u, h, H, n => by
    cases u with
    | run => exact H.elim
    | returning =>
      obtain ⟨v, hv, hk⟩ := results_run (B := B) (K := fun v => R (.returned v) h) hr H n
      exact ⟨v, hv, h, n, rfl, hk⟩
    | panicking ch => exact ⟨h, n, rfl, H⟩
  | d :: ds, u, h, H, n => by
    unfold leavesW at H
    split at H
    · rename_i f c ht
      obtain ⟨hu, he, H1⟩ := cond_false_elim H
      simp only [Bool.and_eq_true] at hu
      have hc : c = #[] := by simpa using hu.2
      subst hc
      refine ⟨(by intro h0; rw [h0] at hu; cases hu.1), .func f, #[], f, d.args, ht, ?_, fun c cs hcu => ?_⟩
      · rw [ht]
        show (callFunc f (d.args ++ #[])).run P (mk B h n) = _
        rw [show d.args ++ #[] = d.args by simp]
        exact he _ _
      · obtain ⟨e, u', w', fr, ⟨h', n', hw, hR⟩, rest⟩ := H1 n c cs hcu
        refine ⟨e, u', w', fr, ?_, rest⟩
        subst hw
        cases e with
        | returned v => exact leavesW_sound hr hR n'
        | panicked ch => exact leavesW_sound hr hR n'
        | outgrown => exact hR.elim
    · exact H.elim

theorem Ent_of_WD (hm : P.follows .mixedOrders = true) {f : FuncId} {fn : Func} {args : Array Value} {R : Ending → Heap → Prop} {h : Heap}
    (hf : P.funcs[f]? = some fn) (hn : (fn.name == "runtime.NumGoroutine") = false) (hb : fn.body.isSome = true) (hs : Nat.ble args.size fn.ntmps = true) (L : Nat → List (Nat × TypeDesc)) (ids : List Nat)
    (H : W P B fn.ntmps L (prune ids (codeOf fn)) (endQD P B fn R) (env0 args) h) : Ent P B f args R h := by
  obtain ⟨c, hc⟩ := Option.isSome_iff_exists.1 hb
  refine Ent.of_fn hf hn (by simp [hc]) fun n => ?_
  unfold codeOf at H
  rw [hc] at H
  refine calls_of_wp_defers hf hc (wp_mono (W_sound ids hm _ _ _ _ H _ n (rel0 (Nat.le_of_ble_eq_true hs))) ?_)
  rintro e a' w' ⟨ρ, h', n', hr, rfl, hq⟩
  cases e <;> simp only [endQD] at hq
  case normal => rw [← hr.defers] at hq; exact leavesW_sound hr hq n'
  case ret => rw [← hr.defers] at hq; exact leavesW_sound hr hq n'
  case panic ch => rw [← hr.defers] at hq; exact leavesW_sound hr hq n'
  all_goals exact hq.elim
theorem enters_of {f : FuncId} {fn : Func} (hf : P.funcs[f]? = some fn) (hn : (fn.name == "runtime.NumGoroutine") = false) (hb : fn.body.isNone = false) : Enters P f := by
  intro args w
  show Sem.run P (match P.funcs[f]? with
    | none => stuck "call: no such function"
    | some fn => _) w = _
  rw [hf]
  simp only [hn, hb, Bool.false_eq_true, if_false]
  rfl
end
end Go.Eng
set_option linter.unusedVariables false
namespace Go.Eng
open Go
/-- A place where ways meet: the slots that live there, and what must hold of them; by the loops that the place stands in. -/
structure JT where
  l : List (Nat × TypeDesc)
  K : List ((Nat → List Value → Heap → Prop) × Nat) → List Value → Heap → Prop
abbrev Scope := List ((Nat → List Value → Heap → Prop) × Nat)
section
variable (P : Program) (B : World) (N : Nat) (L : Nat → List (Nat × TypeDesc)) (J : Nat → Option JT)
def joinQ (j : JT) (σ : Scope) (Q : Post) : Post := fun e ρ h =>
  match e with
  | .normal => (match ρ.ds with | [] => (bif tyL ρ j.l then j.K σ (valsL ρ j.l) h else False) | _ => False)
  | e => Q e ρ h
def seqQ (K : Env → Heap → Prop) (Q : Post) : Post := fun e ρ h =>
  match e with
  | .normal => (match ρ.ds with | [] => K ρ h | _ => False)
  | e => Q e ρ h
def blockQ (id : Nat) (Q : Post) : Post := fun e ρ h =>
  match e with
  | .exit i => bif Nat.beq i id then Q .normal ρ h else Q (.exit i) ρ h
  | e => Q e ρ h
def loopQ (l : List (Nat × TypeDesc)) (I : Nat → List Value → Heap → Prop) (n : Nat) (Q : Post) : Post := fun e ρ h =>
  match e with
  | .normal => (match ρ.ds with | [] => (bif tyL ρ l then ∃ m, m < n ∧ I m (valsL ρ l) h else False) | _ => False)
  | e => Q e ρ h
/-- What a piece of code must come to; where ways meet it goes on by the table J. (Nothing is deferred.) -/
def WJ : Code → Scope → Post → Env → Heap → Prop
  | .skip, _, Q, ρ, h => Q .normal ρ h
  | .region _ ops draw, _, Q, ρ, h => bif draw then (bif Region.noSelect ops then porW P B N ops Q ops.size (Array.replicate ops.size false) [] [] ρ h else False)
      else seqW P B N ops Q ops.toList [] ρ h
  | .seq c d, σ, Q, ρ, h => match J (firstId d) with
      | none => WJ c σ (seqQ (fun ρ h => WJ d σ Q ρ h) Q) ρ h
      | some j => WJ c σ (joinQ j σ Q) ρ h
  | .cond x c d, σ, Q, ρ, h => match ρ.get N x with
      | .bool b => (b = true → WJ c σ Q ρ h) ∧ (b = false → WJ d σ Q ρ h)
      | _ => False
  | .block id c, σ, Q, ρ, h => WJ c σ (blockQ id Q) ρ h
  | .loop c, σ, Q, ρ, h => ∃ I : Nat → List Value → Heap → Prop, ∃ n, (bif tyL ρ (L (firstId c)) then I n (valsL ρ (L (firstId c))) h else False) ∧
      ∀ n h, allL (L (firstId c)) [] fun vs => I n vs h → ∀ r : Nat → Value, WJ c ((I, n) :: σ) (loopQ (L (firstId c)) I n Q) ⟨setL r (L (firstId c)) vs, []⟩ h
  | .exit id, _, Q, ρ, h => Q (.exit id) ρ h
  | .ret, _, Q, ρ, h => Q .ret ρ h
  | _, _, _, _, _ => False
/-- That the table says of each place what the code from there on must come to. -/
def Obl (m : Nat → Bool) : Code → Scope → Post → Prop
  | .seq c d, σ, Q => match J (firstId d) with
      | none => Obl m c σ (seqQ (fun ρ h => WJ P B N L J d σ Q ρ h) Q) ∧ Obl m d σ Q
      | some j => Obl m c σ (joinQ j σ Q) ∧ Obl m d σ Q ∧ ∀ h, allL j.l [] fun vs => ∀ r : Nat → Value,
          (bif m (firstId d) then j.K σ vs h else WJ P B N L J d σ Q ⟨setL r j.l vs, []⟩ h) = WJ P B N L J d σ Q ⟨setL r j.l vs, []⟩ h
  | .cond _ c d, σ, Q => Obl m c σ Q ∧ Obl m d σ Q
  | .block id c, σ, Q => Obl m c σ (blockQ id Q)
  | .loop c, σ, Q => ∀ I n, Obl m c ((I, n) :: σ) (loopQ (L (firstId c)) I n Q)
  | _, _, _ => True
end
section
variable {P : Program} {B : World} {N : Nat} {L : Nat → List (Nat × TypeDesc)} {J : Nat → Option JT}
theorem allL_true {K : List Value → Prop} (H : ∀ vs, K vs) : ∀ (l : List (Nat × TypeDesc)) (acc : List Value), allL l acc K
  | [], acc => H acc
  | d :: ds, acc => by
    unfold allL
    have key : ∀ v, allL ds (acc ++ [v]) K := fun v => allL_true H ds _
    unfold allD
    split
    · rename_i n e _
      have : ∀ (n : Nat) (acc2 : List Value), allC n acc2 fun l => allL ds (acc ++ [.agg l.toArray]) K := by
        intro n
        induction n with
        | zero => exact fun acc2 => key _
        | succ n ih => exact fun acc2 x => ih _
      exact this n []
    all_goals first
      | exact fun _ => key _
      | exact fun _ _ _ => key _
theorem obl_false : ∀ (c : Code) (σ : Scope) (Q : Post), Obl P B N L J (fun _ => false) c σ Q := by
  intro c
  induction c with
  | seq c d ihc ihd =>
    intro σ Q
    unfold Obl
    split
    · exact ⟨ihc _ _, ihd _ _⟩
    · exact ⟨ihc _ _, ihd _ _, fun h => allL_true (fun vs r => rfl) _ _⟩
  | cond x c d ihc ihd => exact fun σ Q => ⟨ihc _ _, ihd _ _⟩
  | block id c ih => exact fun σ Q => ih _ _
  | loop c ih => exact fun σ Q I n => ih _ _
  | _ => exact fun σ Q => trivial
theorem emp_ds {ρ : Env} {K : Prop} (H : match ρ.ds with | [] => K | _ => False) : ρ.ds = [] ∧ K := by
  split at H
  · exact ⟨by assumption, H⟩
  · exact H.elim
theorem WJ_sound (ids : List Nat) (hm : P.follows .mixedOrders = true) : ∀ (c : Code) (σ : Scope) (Q : Post) (ρ : Env) (h : Heap), ρ.ds = [] → Obl P B N L J (fun _ => true) (prune ids c) σ Q → WJ P B N L J (prune ids c) σ Q ρ h →
    ∀ a n, Rel N a ρ → c.wp P (liftQ B N Q) a (mk B h n) := by
  intro c
  induction c with
  | skip => exact fun σ Q ρ h _ _ H a n hr => wp_skip ⟨ρ, h, n, hr, rfl, H⟩
  | region id ops draw =>
    intro σ Q ρ h _ _ H a n hr
    unfold prune at H
    cases hmem : memN ids id with
    | true => rw [hmem] at H; exact H.elim
    | false =>
    rw [hmem, cond_false] at H
    unfold WJ at H
    cases draw with
    | false =>
      rw [cond_false] at H
      exact wp_region_list (seqW_sound _ _ _ _ H a n hr)
    | true =>
      rw [cond_true] at H
      obtain ⟨hs, H⟩ := cond_false_elim H
      have h1 := wpAny_of_G _ _ _ _ (porW_sound hs _ _ _ _ _ _ H a (n + 1) hr)
      have h2 : (Code.region id ops true).wp P (liftQ B N (onlyN Q)) a (mk B h n) := wp_region_any hm h1
      refine wp_mono h2 ?_
      rintro e a' w' ⟨ρ', h', n', hr', rfl, hq⟩
      refine ⟨ρ', h', n', hr', rfl, ?_⟩
      cases e <;> first | exact hq | exact hq.elim
  | seq c d ihc ihd =>
    intro σ Q ρ h hd O H a n hr
    unfold prune WJ at H
    unfold prune Obl at O
    cases hj : J (firstId (prune ids d)) with
    | none =>
      rw [hj] at H O
      refine wp_seq (wp_mono (ihc _ _ _ _ hd O.1 H a n hr) ?_)
      rintro e a' w' ⟨ρ', h', n', hr', rfl, hq⟩
      cases e with
      | normal =>
        obtain ⟨hd', hq⟩ := emp_ds hq
        exact ihd _ _ _ _ hd' O.2 hq _ _ hr'
      | _ => exact ⟨ρ', h', n', hr', rfl, hq⟩
    | some j =>
      rw [hj] at H O
      obtain ⟨O1, O2, O3⟩ := O
      refine wp_seq (wp_mono (ihc _ _ _ _ hd O1 H a n hr) ?_)
      rintro e a' w' ⟨ρ', h', n', hr', rfl, hq⟩
      cases e with
      | normal =>
        obtain ⟨hd', hq⟩ := emp_ds hq
        obtain ⟨ht, hq⟩ := cond_false_elim hq
        have e1 := allL_spec (O3 h') ht ρ'.t
        simp only [cond_true, List.nil_append] at e1
        rw [e1] at hq
        exact ihd _ _ ⟨_, []⟩ _ rfl O2 hq _ _ ⟨hr'.size, fun i hi => by rw [hr'.at_ i hi]; exact (setL_vals i).symm, by rw [hr'.defers, hd']⟩
      | _ => exact ⟨ρ', h', n', hr', rfl, hq⟩
  | cond x c d ihc ihd =>
    intro σ Q ρ h hd O H a n hr
    unfold prune WJ at H
    unfold prune Obl at O
    split at H
    · rename_i b hx
      exact wp_cond_split (t := b) (by rw [hr.eval]; exact hx) (fun hb => ihc _ _ _ _ hd O.1 (H.1 hb) a n hr) (fun hb => ihd _ _ _ _ hd O.2 (H.2 hb) a n hr)
    · exact H.elim
  | block id c ih =>
    intro σ Q ρ h hd O H a n hr
    unfold prune WJ at H
    unfold prune Obl at O
    refine wp_block (wp_mono (ih _ _ _ _ hd O H a n hr) ?_)
    rintro e a' w' ⟨ρ', h', n', hr', rfl, hq⟩
    cases e with
    | exit i =>
      unfold Exit.inBlock
      simp only [blockQ] at hq ⊢
      by_cases hi : i = id
      · subst hi
        rw [if_pos rfl]
        rw [show Nat.beq i i = true from by simp, cond_true] at hq
        exact ⟨ρ', h', n', hr', rfl, hq⟩
      · rw [if_neg hi]
        rw [show Nat.beq i id = false from by simpa [← Bool.not_eq_true, Nat.beq_eq] using hi, cond_false] at hq
        exact ⟨ρ', h', n', hr', rfl, hq⟩
    | _ => exact ⟨ρ', h', n', hr', rfl, hq⟩
  | loop c ih =>
    intro σ Q ρ h hd O H a n hr
    unfold prune WJ at H
    unfold prune Obl at O
    obtain ⟨I, n0, h0, H⟩ := H
    obtain ⟨ht, h0⟩ := cond_false_elim h0
    let l := L (firstId (prune ids c))
    let T : Nat → Act → World → Prop := fun k a w => ∃ ρ' h n, Rel N a ρ' ∧ w = mk B h n ∧ ρ'.ds = [] ∧ tyL ρ' l = true ∧ I k (valsL ρ' l) h
    have hT0 : T n0 a (mk B h n) := ⟨ρ, h, n, hr, rfl, hd, ht, h0⟩
    refine wp_loop (fun a w => ∃ k, T k a w) (fun a w => leastOf fun k => T k a w) ⟨n0, hT0⟩ ?_
    intro a w hI
    obtain ⟨ρ1, h1, n1, hr1, rfl, hds, ht1, hI'⟩ := (leastOf_spec hI).1
    have hb := allL_spec (H (leastOf fun k => T k a (mk B h1 n1)) h1) ht1
    have hW := hb hI' ρ1.t
    have hr2 : Rel N a ⟨setL ρ1.t l (valsL ρ1 l), []⟩ := ⟨hr1.size, fun i hi => by rw [hr1.at_ i hi]; exact (setL_vals i).symm, by rw [hr1.defers, hds]⟩
    refine wp_mono (ih _ _ ⟨_, []⟩ _ rfl (O _ _) hW a n1 hr2) ?_
    rintro e a' w' ⟨ρ', h', n', hr', rfl, hq⟩
    cases e with
    | normal =>
      obtain ⟨hd', hq⟩ := emp_ds hq
      obtain ⟨ht', m, hm, hI2⟩ := cond_false_elim hq
      have hex : T m a' (mk B h' n') := ⟨ρ', h', n', hr', rfl, hd', ht', hI2⟩
      exact ⟨⟨m, hex⟩, Nat.lt_of_le_of_lt ((leastOf_spec ⟨m, hex⟩).2 m hex) hm⟩
    | _ => exact ⟨ρ', h', n', hr', rfl, hq⟩
  | exit id => exact fun σ Q ρ h _ _ H a n hr => wp_exit ⟨ρ, h, n, hr, rfl, H⟩
  | ret => exact fun σ Q ρ h _ _ H a n hr => wp_ret ⟨ρ, h, n, hr, rfl, H⟩
  | _ => intro σ Q ρ h _ _ H; exact H.elim

theorem Ent_of_WJ (hm : P.follows .mixedOrders = true) {f : FuncId} {fn : Func} {args : Array Value} {R : Ending → Heap → Prop} {h : Heap}
    (hf : P.funcs[f]? = some fn) (hn : (fn.name == "runtime.NumGoroutine") = false) (hb : fn.body.isSome = true) (hs : Nat.ble args.size fn.ntmps = true) (L : Nat → List (Nat × TypeDesc)) (J : Nat → Option JT) (ids : List Nat)
    (O : Obl P B fn.ntmps L J (fun _ => true) (prune ids (codeOf fn)) [] (endQ P fn R))
    (H : WJ P B fn.ntmps L J (prune ids (codeOf fn)) [] (endQ P fn R) (env0 args) h) : Ent P B f args R h := by
  obtain ⟨c, hc⟩ := Option.isSome_iff_exists.1 hb
  refine Ent.of_fn hf hn (by simp [hc]) fun n => ?_
  unfold codeOf at H O
  rw [hc] at H O
  refine calls_of_wp hf hc (wp_mono (WJ_sound ids hm _ _ _ _ _ rfl O H _ n (rel0 (Nat.le_of_ble_eq_true hs))) ?_)
  rintro e a' w' ⟨ρ, h', n', hr, rfl, hq⟩
  cases e <;> simp only [endQ] at hq
  case normal =>
    split at hq
    · rename_i hd
      obtain ⟨v, hv, hk⟩ := results_run (B := B) (K := fun v => R (.returned v) h') hr hq n'
      exact ⟨by rw [hr.defers, hd], v, hv, h', n', rfl, hk⟩
    · exact hq.elim
  case ret =>
    split at hq
    · rename_i hd
      obtain ⟨v, hv, hk⟩ := results_run (B := B) (K := fun v => R (.returned v) h') hr hq n'
      exact ⟨by rw [hr.defers, hd], v, hv, h', n', rfl, hk⟩
    · exact hq.elim
  case panic ch =>
    split at hq
    · rename_i hd
      exact ⟨by rw [hr.defers, hd], h', n', rfl, hq⟩
    · exact hq.elim
end
end Go.Eng
