import Derived.Test.YtedmhkimbbkdgaaGreatFmtA19
/- Here stand lemmas: plumbref4: the cut. -/
set_option linter.unusedVariables false
namespace Go.Proofs
open Go Go.Eng
variable {B : World} {R : Ending → Heap → Prop} {h : Heap}
/-- A cell of a block that is known, stored. -/
theorem _root_.Go.Eng.Own.stL {h : Heap} {b o : Nat} {l : List Value} {v : Value} {K : Heap → Prop} (H : Own h b l.toArray) (ho : o < l.length) (hv : oneCell v = true)
    (k : ∀ h', Own h' b (l.set o v).toArray → Fr (fun x => x = b) h h' → K h') : stC h b o v K :=
  H.stC (by simpa using ho) hv fun O f => k _ (by simpa using O) f
end Go.Proofs
namespace Go.Proofs
open Go Go.Eng
variable {B : World} {R : Ending → Heap → Prop} {h : Heap}
theorem NaNP_I64 : I64 NaNP := by unfold I64 NaNP; omega
theorem plusP_I64 (na ia sa : Bool) (va : Int) (nb ib sb : Bool) (vb : Int) : I64 (plusP na ia sa va nb ib sb vb) := by
  unfold plusP
  split
  · exact NaNP_I64
  · split
    · exact pat_I64 (by decide)
    · split
      · exact pat_I64 (by decide)
      · exact pat_I64 (by have := rung_lt (va + vb).natAbs (-1074); omega)
theorem addP_I64 (a b : Int) : I64 (addP a b) := plusP_I64 _ _ _ _ _ _ _ _
theorem subP_I64 (a b : Int) : I64 (subP a b) := plusP_I64 _ _ _ _ _ _ _ _
theorem mulP_I64 (a b : Int) : I64 (mulP a b) := by
  unfold mulP timesP
  split
  · exact NaNP_I64
  · split
    · exact pat_I64 (by decide)
    · exact pat_I64 (by have := rung_lt (fW a * fW b).natAbs (-2148); omega)
theorem NumS.up {K : Nat} {neg : Bool} {p : Option Addr} {n : Nat} {e v : Int} (N : NumS K h neg p n e v) (d : Nat) : NumS (K + d) h neg p n e (v * ((2 ^ d : Nat) : Int)) := by
  obtain ⟨M, I, a1, a2⟩ := N
  refine ⟨M, I, by omega, ?_⟩
  rw [show (e + ((K + d : Nat) : Int)).toNat = (e + (K : Int)).toNat + d by omega, signed_add, a2]
/-- Are h and l together just x, in units of 2^-K? -/
def justP (K : Nat) (h l x : Int) : Bool := isFin h && isFin l && decide ((fV h + fV l) * ((2 ^ (K - 1074) : Nat) : Int) = x)
/-- The parts of a sum, and of a product, by single operations. -/
def sumH (a b : Int) : Int := addP a b
def sumL (a b : Int) : Int := addP (subP a (subP (addP a b) (subP (addP a b) a))) (subP b (subP (addP a b) a))
def sumOk (h l a b : Int) : Bool := isFin a && isFin b && justP 1074 h l (fV a + fV b)
abbrev FAC : Int := 4728779608772575232
def splH (a : Int) : Int := subP (mulP FAC a) (subP (mulP FAC a) a)
def splL (a : Int) : Int := subP a (splH a)
def prdH (a b : Int) : Int := mulP a b
def prdL (a b : Int) : Int :=
  subP (mulP (splL a) (splL b)) (subP (subP (subP (mulP a b) (mulP (splH a) (splH b))) (mulP (splL a) (splH b))) (mulP (splH a) (splL b)))
def prdOk (a b : Int) : Bool := isFin a && isFin b && justP 2148 (prdH a b) (prdL a b) (fV a * fV b)
end Go.Proofs
