import Derived.Test.YtoclhdcpjlcdiaaGreatFmtA19
/- Here stand lemmas: plumbref4: the cut. -/
set_option linter.unusedVariables false
namespace Go.Proofs
open Go Go.Eng
variable {B : World} {R : Ending → Heap → Prop} {h : Heap}
/-- A cell of a block that is known, stored. -/
theorem _root_.Go.Eng.Own.stL {h : Heap} {b o : Nat} {l : List Value} {v : Value} {K : Heap → Prop} (H : Own h b l.toArray) (ho : o < l.length) (hv : oneCell v = true)
    (k : ∀ h', Own h' b (l.set o v).toArray → Fr (fun x => x = b) h h' → K h') : stC h b o v K :=
  H.stC (by simpa using ho) hv fun O f => k _ (by simpa using O) f
end Go.Proofs
namespace Go.Proofs
open Go Go.Eng
variable {B : World} {R : Ending → Heap → Prop} {h : Heap}
theorem NaNP_I64 : I64 NaNP := by unfold I64 NaNP; omega
theorem NumS.up {K : Nat} {neg : Bool} {p : Option Addr} {n : Nat} {e v : Int} (N : NumS K h neg p n e v) (d : Nat) : NumS (K + d) h neg p n e (v * ((2 ^ d : Nat) : Int)) := by
  obtain ⟨M, I, a1, a2⟩ := N
  refine ⟨M, I, by omega, ?_⟩
  rw [show (e + ((K + d : Nat) : Int)).toNat = (e + (K : Int)).toNat + d by omega, signed_add, a2]
end Go.Proofs
