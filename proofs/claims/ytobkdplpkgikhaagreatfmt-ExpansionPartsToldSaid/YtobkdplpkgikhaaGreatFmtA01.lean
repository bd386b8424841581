
/- Here stand lemmas and contracts, in the order in which they are used. -/
set_option linter.unusedVariables false
namespace Go.Eng

/-- The number whose digits to the base b these are, the lowest first. -/
def val (b : Nat) : List Nat → Nat
  | [] => 0
  | w :: ws => w + b * val b ws
def Dig (b : Nat) (ws : List Nat) : Prop := ∀ w ∈ ws, w < b
/-- No zero on top. -/
def Trim (ws : List Nat) : Prop := ws.getLast? ≠ some 0
theorem val_append (b : Nat) : ∀ x y : List Nat, val b (x ++ y) = val b x + b ^ x.length * val b y
  | [], y => by simp [val]
  | w :: x, y => by
    rw [List.cons_append, val, val_append b x y, val, List.length_cons, Nat.pow_succ, Nat.mul_add, Nat.add_assoc, Nat.mul_comm (b ^ x.length) b, Nat.mul_assoc]
theorem val_snoc (b : Nat) (x : List Nat) (w : Nat) : val b (x ++ [w]) = val b x + b ^ x.length * w := by
  rw [val_append]; simp [val]
theorem Dig.append {b : Nat} {x y : List Nat} (hx : Dig b x) (hy : Dig b y) : Dig b (x ++ y) := fun w hw => (List.mem_append.1 hw).elim (hx w) (hy w)
theorem Dig.snoc {b : Nat} {x : List Nat} {w : Nat} (hx : Dig b x) (hw : w < b) : Dig b (x ++ [w]) := hx.append fun v hv => by rw [List.mem_singleton.1 hv]; exact hw
theorem Dig.cons {b : Nat} {x : List Nat} {w : Nat} (hx : Dig b x) (hw : w < b) : Dig b (w :: x) := fun v hv => (List.mem_cons.1 hv).elim (fun e => e ▸ hw) (hx v)
theorem Dig.tail {b : Nat} {x : List Nat} {w : Nat} (hx : Dig b (w :: x)) : Dig b x := fun v hv => hx v (List.mem_cons_of_mem _ hv)
theorem Dig.take {b : Nat} {x : List Nat} (hx : Dig b x) (n : Nat) : Dig b (x.take n) := fun v hv => hx v (List.mem_of_mem_take hv)
theorem Dig.drop {b : Nat} {x : List Nat} (hx : Dig b x) (n : Nat) : Dig b (x.drop n) := fun v hv => hx v (List.mem_of_mem_drop hv)
theorem Dig.get {b : Nat} {x : List Nat} (hx : Dig b x) {i : Nat} (hi : i < x.length) : x[i] < b := hx _ (List.getElem_mem hi)
theorem Dig.nil {b : Nat} : Dig b [] := fun _ h => by cases h
theorem val_lt {b : Nat} : ∀ {x : List Nat}, Dig b x → val b x < b ^ x.length
  | [], _ => by simp [val]
  | w :: x, h => by
    have h1 := val_lt h.tail
    have h2 : w < b := h w List.mem_cons_self
    rw [val, List.length_cons, Nat.pow_succ, Nat.mul_comm (b ^ x.length) b]
    have : b * (val b x + 1) ≤ b * b ^ x.length := Nat.mul_le_mul_left b h1
    rw [Nat.mul_add, Nat.mul_one] at this
    omega
theorem val_take_succ (b : Nat) (x : List Nat) {i : Nat} (hi : i < x.length) : val b (x.take (i + 1)) = val b (x.take i) + b ^ i * x[i] := by
  rw [List.take_succ_eq_append_getElem hi, val_snoc, List.length_take, Nat.min_eq_left (Nat.le_of_lt hi)]
theorem val_drop (b : Nat) (x : List Nat) {i : Nat} (hi : i < x.length) : val b (x.drop i) = x[i] + b * val b (x.drop (i + 1)) := by
  rw [List.drop_eq_getElem_cons hi, val]
theorem val_split (b : Nat) (x : List Nat) {i : Nat} (hi : i ≤ x.length) : val b x = val b (x.take i) + b ^ i * val b (x.drop i) := by
  conv => lhs; rw [← List.take_append_drop i x, val_append, List.length_take, Nat.min_eq_left hi]
theorem val_zeros (b n : Nat) : val b (List.replicate n 0) = 0 := by
  induction n with
  | zero => rfl
  | succ n ih => rw [List.replicate_succ, val, ih]; simp
theorem val_inj {b : Nat} : ∀ {x y : List Nat}, Dig b x → Dig b y → x.length = y.length → val b x = val b y → x = y
  | [], [], _, _, _, _ => rfl
  | w :: x, v :: y, hx, hy, hl, hv => by
    rw [val, val] at hv
    have h1 : w < b := hx w List.mem_cons_self
    have h2 : v < b := hy v List.mem_cons_self
    have h3 : w = v := by
      have := congrArg (· % b) hv
      simpa [Nat.add_mul_mod_self_left, Nat.mod_eq_of_lt h1, Nat.mod_eq_of_lt h2] using this
    subst h3
    have h4 : val b x = val b y := Nat.eq_of_mul_eq_mul_left (by omega) (Nat.add_left_cancel hv)
    rw [val_inj hx.tail hy.tail (by simpa using hl) h4]
theorem val_pos {b : Nat} : ∀ {x : List Nat}, x ≠ [] → Trim x → 0 < b → b ^ (x.length - 1) ≤ val b x
  | [], h, _, _ => absurd rfl h
  | [w], _, ht, _ => by
    have : w ≠ 0 := fun e => ht (by simp [e])
    simp [val]; omega
  | w :: v :: x, _, ht, hb => by
    have ht' : Trim (v :: x) := by unfold Trim at ht ⊢; simpa [List.getLast?_cons_cons] using ht
    have := val_pos (x := v :: x) (by simp) ht' hb
    rw [val]
    simp only [List.length_cons, Nat.add_sub_cancel] at this ⊢
    rw [Nat.pow_succ, Nat.mul_comm]
    exact Nat.le_trans (Nat.mul_le_mul_left b this) (Nat.le_add_left _ _)
theorem Trim.eq_nil {b : Nat} {x : List Nat} (ht : Trim x) (hb : 0 < b) (h : val b x = 0) : x = [] := by
  by_cases hx : x = []
  · exact hx
  · have := val_pos hx ht hb
    have h2 : 0 < b ^ (x.length - 1) := Nat.pow_pos hb
    omega
/-- Digits without a zero on top are told by their number. -/
theorem val_inj' {b : Nat} {x y : List Nat} (hx : Dig b x) (hy : Dig b y) (tx : Trim x) (ty : Trim y) (hv : val b x = val b y) (hb : 1 < b) : x = y := by
  refine val_inj hx hy ?_ hv
  have key : ∀ {x y : List Nat}, Dig b x → Trim y → val b x = val b y → y.length ≤ x.length := by
    intro x y hx ty hv
    by_cases he : y = []
    · subst he; simp
    have h1 := val_pos he ty (by omega : 0 < b)
    have h2 := val_lt hx
    have h3 : b ^ (y.length - 1) < b ^ x.length := by omega
    have := (Nat.pow_lt_pow_iff_right hb).1 h3
    omega
  exact Nat.le_antisymm (key hy tx hv.symm) (key hx ty hv)
/-- The digits of a number. -/
def digs (b : Nat) (n : Nat) : List Nat := if h : n = 0 ∨ b ≤ 1 then [] else n % b :: digs b (n / b)
 termination_by n
 decreasing_by exact Nat.div_lt_self (by omega) (by omega)
theorem digs_val {b : Nat} (hb : 1 < b) (n : Nat) : val b (digs b n) = n := by
  induction n using Nat.strongRecOn with
  | _ n ih =>
    rw [digs]
    by_cases h : n = 0
    · simp [h, val]
    · rw [dif_neg (by omega), val, ih _ (Nat.div_lt_self (by omega) hb)]
      exact Nat.mod_add_div n b
theorem digs_dig {b : Nat} (hb : 1 < b) (n : Nat) : Dig b (digs b n) := by
  induction n using Nat.strongRecOn with
  | _ n ih =>
    rw [digs]
    by_cases h : n = 0
    · simp [h, Dig]
    · rw [dif_neg (by omega)]
      exact (ih _ (Nat.div_lt_self (by omega) hb)).cons (Nat.mod_lt _ (by omega))
theorem digs_zero (b : Nat) : digs b 0 = [] := by rw [digs]; simp
theorem digs_ne {b n : Nat} (hb : 1 < b) (hn : n ≠ 0) : digs b n = n % b :: digs b (n / b) := by rw [digs]; rw [dif_neg (by omega)]
theorem digs_trim {b : Nat} (hb : 1 < b) (n : Nat) : Trim (digs b n) := by
  induction n using Nat.strongRecOn with
  | _ n ih =>
    by_cases h : n = 0
    · rw [h, digs_zero]; simp [Trim]
    · rw [digs_ne hb h]
      have := ih _ (Nat.div_lt_self (by omega) hb)
      by_cases hn : n / b = 0
      · rw [hn, digs_zero]
        have : n < b := by
          rcases Nat.lt_or_ge n b with h | h
          · exact h
          · have := Nat.div_pos h (by omega); omega
        simp [Trim, Nat.mod_eq_of_lt this, h]
      · rw [digs_ne hb hn] at this ⊢
        unfold Trim at this ⊢
        simpa [List.getLast?_cons_cons] using this
theorem digs_of {b : Nat} {x : List Nat} (hb : 1 < b) (hx : Dig b x) (tx : Trim x) : digs b (val b x) = x :=
  val_inj' (digs_dig hb _) hx (digs_trim hb _) tx (digs_val hb _) hb
end Go.Eng
