import Derived.Test.YtobkdplpkgikhaaGreatFmtProg
import Derived.Test.YtobkdplpkgikhaaGreatFmtA08
import Derived.KernelRfl
/- Here stand lemmas and contracts, in the order in which they are used. -/
set_option linter.unusedVariables false
namespace Go.Proofs
open Go Go.Eng
theorem mixed : Tryz.prog.follows .mixedOrders = true := by kernel_rfl
abbrev Po := Ending → Heap → Prop
abbrev OA := Option Addr
abbrev Lp := Nat → List Value → Heap → Prop
abbrev Ec (B : World) (f : FuncId) (args : Array Value) (R : Po) (h : Heap) : Prop := Ent Tryz.prog B f args R h
abbrev Ev (B : World) (v : Value) (args : Array Value) (R : Po) (h : Heap) : Prop := EntV Tryz.prog B v args R h
abbrev pk (R : Po) : List PanicEntry → Heap → Prop := fun c h => R (.panicked c) h
abbrev iP (b o : Nat) (K : Nat → Nat → Prop) : Prop := isP (some ⟨b, o, none⟩) K
abbrev cS (h : Heap) (b o : Nat) (p : OA) (n c : Nat) : Prop := cell? h ⟨b, o, none⟩ = some (.slice p n c)
abbrev cI (h : Heap) (b o : Nat) (k : IntKind) (x : Int) : Prop := cell? h ⟨b, o, none⟩ = some (.int k x)
/-- A function's formula, in place of its text. -/
theorem Ek {B : World} {f : FuncId} {fn : Func} {args : Array Value} {R : Po} {h : Heap} {X : Prop}
    (hf : Tryz.prog.funcs[f]? = some fn) (hn : (fn.name == "runtime.NumGoroutine") = false) (hb : fn.body.isSome = true) (hs : Nat.ble args.size fn.ntmps = true) (L : Nat → List (Nat × TypeDesc)) (ids : List Nat)
    (e : W Tryz.prog B fn.ntmps L (prune ids (codeOf fn)) (endQ Tryz.prog fn R) (env0 args) h = X) (H : X) : Ent Tryz.prog B f args R h :=
  Ent_of_W mixed hf hn hb hs L ids (by rw [e]; exact H)
theorem Ed {B : World} {f : FuncId} {fn : Func} {args : Array Value} {R : Po} {h : Heap} {X : Prop}
    (hf : Tryz.prog.funcs[f]? = some fn) (hn : (fn.name == "runtime.NumGoroutine") = false) (hb : fn.body.isSome = true) (hs : Nat.ble args.size fn.ntmps = true) (L : Nat → List (Nat × TypeDesc)) (ids : List Nat)
    (e : W Tryz.prog B fn.ntmps L (prune ids (codeOf fn)) (endQD Tryz.prog B fn R) (env0 args) h = X) (H : X) : Ent Tryz.prog B f args R h :=
  Ent_of_WD mixed hf hn hb hs L ids (by rw [e]; exact H)
theorem Ej {B : World} {f : FuncId} {fn : Func} {args : Array Value} {R : Po} {h : Heap} {X : Prop}
    (hf : Tryz.prog.funcs[f]? = some fn) (hn : (fn.name == "runtime.NumGoroutine") = false) (hb : fn.body.isSome = true) (hs : Nat.ble args.size fn.ntmps = true) (L : Nat → List (Nat × TypeDesc)) (J : Nat → Option JT) (ids : List Nat)
    (o : Obl Tryz.prog B fn.ntmps L J (fun _ => true) (prune ids (codeOf fn)) [] (endQ Tryz.prog fn R) = Obl Tryz.prog B fn.ntmps L J (fun _ => false) (prune ids (codeOf fn)) [] (endQ Tryz.prog fn R))
    (e : WJ Tryz.prog B fn.ntmps L J (prune ids (codeOf fn)) [] (endQ Tryz.prog fn R) (env0 args) h = X) (H : X) : Ent Tryz.prog B f args R h :=
  Ent_of_WJ mixed hf hn hb hs L J ids (by rw [o]; exact obl_false _ _ _) (by rw [e]; exact H)
end Go.Proofs
