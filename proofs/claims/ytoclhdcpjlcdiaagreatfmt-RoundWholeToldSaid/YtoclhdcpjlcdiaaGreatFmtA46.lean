import Derived.Test.YtoclhdcpjlcdiaaGreatFmtA24
import Derived.Test.YtoclhdcpjlcdiaaGreatFmtA22
import Derived.Test.YtoclhdcpjlcdiaaGreatFmtA03
/- Here stand lemmas: dyadic.Sub and dyadic.Sign. -/
set_option linter.unusedVariables false
set_option linter.unusedVariables false
namespace Go.Proofs
open Go Go.Eng
variable {B : World} {R : Ending → Heap → Prop} {h : Heap}
/-- A number laid into a variable of its own. -/
theorem lay3 {h : Heap} {neg : Bool} {q : Option Addr} {m c : Nat} {e : Int} {K : Nat → Heap → Prop} (k : ∀ r h', Ext h h' → h.size ≤ r → Own h' r #[.bool neg, .slice q m c, .int .i64 e] → K r h') :
    alW h (.cells #[.bool false, .slice none 0 0, .int .i64 0] 43) fun r h1 => isP (some ⟨r, 0, none⟩) fun b o => stC h1 b o (.bool neg) fun h2 => stC h2 b (o + 1) (.slice q m c) fun h3 => stC h3 b (o + 1 + 1) (.int .i64 e) fun h4 => K r h4 := by
  refine alK fun r h1 e1 f1 o1 z1 => ⟨r, 0, rfl, o1.stC (by simp) rfl fun oa fa => oa.stC (by simp) rfl fun ob fb => ob.stC (by simp) rfl fun oc fc => ?_⟩
  have fabc := Fr.trans (S := fun x => x = r) (Fr.trans (S := fun x => x = r) fa fb fun _ _ e => e) fc fun _ _ e => e
  exact k r _ (Fr.trans (S := fun _ => False) f1 fabc fun x hx e => by omega) (by omega) oc
end Go.Proofs
