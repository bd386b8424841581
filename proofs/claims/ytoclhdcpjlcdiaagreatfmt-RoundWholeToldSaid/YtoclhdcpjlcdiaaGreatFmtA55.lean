import Derived.Test.YtoclhdcpjlcdiaaGreatFmtA28
/- Here stand lemmas: powers of 2. -/
set_option linter.unusedVariables false
namespace Go.Proofs
open Go Go.Eng
variable {B : World} {R : Ending → Heap → Prop} {h : Heap}
abbrev pw2 (k : Nat) : Nat := (k + 1023) * 4503599627370496
theorem t1 : ∀ k, k < 53 → (FloatKind.f64.format.order (pw2 k) 0 == some .eq) = false := by decide +kernel
theorem t2 : ∀ k, k < 53 → (FloatKind.f64.format.order (pw2 k) (pw2 k) != some .eq) = false := by decide +kernel
theorem t3 : ∀ k, k < 53 → (FloatKind.f64.format.order (pw2 k) 4503599627370496 == some .lt) = false := by decide +kernel
theorem t4 : ∀ k, k < 53 → isInf (sg (pw2 k)) = false := by decide +kernel
theorem t5 : ∀ k, k < 53 → bitsI .andNot .u64 ((pw2 k : Nat) : Int) (9223372036854775808 : Int) = ((pw2 k : Nat) : Int) := by decide +kernel
theorem t6 : ∀ k, k < 53 → IntKind.i64.wrap ((bitsI .and .i64 (IntKind.i64.wrap (Int.fdiv ((pw2 k : Nat) : Int) (2 ^ min (Int.toNat (52 : Int)) IntKind.u64.bits))) (2047 : Int)) - (1023 : Int)) = (k : Int) := by decide +kernel
theorem t7 {y : Int} (h1 : 0 ≤ y) (h2 : y < 2047) : bitsI .or .u64 (0 : Int) (IntKind.u64.wrap ((IntKind.u64.wrap y) * 2 ^ min (Int.toNat (52 : Int)) IntKind.u64.bits)) = ((y.toNat * 4503599627370496 : Nat) : Int) := by
  obtain ⟨n, rfl⟩ : ∃ n : Nat, y = (n : Int) := ⟨y.toNat, by omega⟩
  have e1 : IntKind.u64.wrap (n : Int) = (n : Int) := by rw [wrap_u64_nat]; omega
  have e2 := shl_pow (x := n) (s := 52) (by decide)
  rw [show ((52 : Nat) : Int) = 52 from rfl, show (2 : Nat) ^ 52 = 4503599627370496 by decide] at e2
  rw [e1, e2, Int.toNat_natCast]
  have := bitsI_or (a := 0) (b := n * 4503599627370496 % 18446744073709551616) (by decide) (by omega)
  rw [show ((0 : Nat) : Int) = 0 from rfl, Nat.zero_or] at this
  rw [this]
  omega
end Go.Proofs
namespace Go.Proofs
open Go Go.Eng
variable {B : World} {R : Ending → Heap → Prop} {h : Heap}
/-- A slice of whole numbers that only is read. -/
def IntsH (h : Heap) (p : Option Addr) (xs : List Int) : Prop :=
  (∀ x ∈ xs, I64 x) ∧ (xs = [] ∨ ∃ r q, p = some ⟨r, q, none⟩ ∧ r < h.size ∧ ∀ i (hi : i < xs.length), cell? h ⟨r, q + i, none⟩ = some (.int .i64 xs[i]))
theorem IntsH.ext {h h' : Heap} {p : Option Addr} {xs : List Int} (H : IntsH h p xs) (f : Ext h h') : IntsH h' p xs := by
  refine ⟨H.1, ?_⟩
  rcases H.2 with e | ⟨r, q, e, hr, g⟩
  · exact .inl e
  · exact .inr ⟨r, q, e, Nat.lt_of_lt_of_le hr f.size, fun i hi => (cell_ext f hr).trans (g i hi)⟩
theorem IntsH.get {p : Option Addr} {xs : List Int} {n : Nat} (H : IntsH h p xs) (hn : xs.length = n) {j : Nat} (hj : j < xs.length) {K : Int → Prop} (k : K xs[j]) :
    ixW p n (j : Int) 1 fun b o => isP (some ⟨b, o, none⟩) fun b o => ∃ x, cell? h ⟨b, o, none⟩ = some (.int .i64 x) ∧ K x := by
  rcases H.2 with e | ⟨r, q, e, hr, g⟩
  · subst e; cases hj
  · refine ⟨r, q, e, by omega, by omega, r, _, rfl, xs[j], ?_, k⟩
    rw [Int.toNat_natCast, Nat.mul_one]; exact g j hj
end Go.Proofs
