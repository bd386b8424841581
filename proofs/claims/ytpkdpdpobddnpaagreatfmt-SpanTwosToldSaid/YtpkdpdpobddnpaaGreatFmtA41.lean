import Derived.Test.YtpkdpdpobddnpaaGreatFmtA40
/- Here stand lemmas: the walk of SpanLess, and words for it. -/
set_option linter.unusedVariables false
set_option linter.unusedVariables false
namespace Go.Eng
open Go
end Go.Eng
namespace Go.Proofs
open Go Go.Eng
variable {B : World} {R : Ending -> Heap -> Prop} {h : Heap}
theorem spK {h : Heap} {x y : Int} {e : TypeId} {K : Nat -> Heap -> Prop} (k : ∀ r h', h.size <= r -> Ext h h' -> Own h' r #[.int .i64 x, .int .i64 y] -> K r h') :
  alW h (.cells #[.int .i64 0, .int .i64 0] e) fun r h1 => iP r 0 fun b o => stC h1 b o (.int .i64 x) fun h2 => stC h2 b (o + 1) (.int .i64 y) fun h3 => K r h3 := by
 refine alK fun r1 h1 e1 f1 o1 z1 => ⟨r1, 0, rfl, o1.stC (by simp) rfl fun oa fa => oa.stC (by simp) rfl fun ob fb => ?_⟩
 have fab := Fr.trans (S := fun x => x = r1) fa fb fun _ _ e => e
 exact k r1 _ (by omega) (Fr.trans f1 fab fun x hx e => by omega) ob
end Go.Proofs
