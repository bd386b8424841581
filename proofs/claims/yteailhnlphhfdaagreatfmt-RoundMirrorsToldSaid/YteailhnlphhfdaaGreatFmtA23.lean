import Derived.Test.YteailhnlphhfdaaGreatFmtA19
/- Here stand lemmas: plumbref4: the cut. -/
set_option linter.unusedVariables false
namespace Go.Proofs
open Go Go.Eng
variable {B : World} {R : Ending → Heap → Prop} {h : Heap}
/-- A cell of a block that is known, stored. -/
theorem _root_.Go.Eng.Own.stL {h : Heap} {b o : Nat} {l : List Value} {v : Value} {K : Heap → Prop} (H : Own h b l.toArray) (ho : o < l.length) (hv : oneCell v = true)
    (k : ∀ h', Own h' b (l.set o v).toArray → Fr (fun x => x = b) h h' → K h') : stC h b o v K :=
  H.stC (by simpa using ho) hv fun O f => k _ (by simpa using O) f
end Go.Proofs
namespace Go.Proofs
open Go Go.Eng
variable {B : World} {R : Ending → Heap → Prop} {h : Heap}
theorem NaNP_I64 : I64 NaNP := by unfold I64 NaNP; omega
end Go.Proofs
