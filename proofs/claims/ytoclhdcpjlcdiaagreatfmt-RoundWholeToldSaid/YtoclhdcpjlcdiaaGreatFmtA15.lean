import Derived.Test.YtoclhdcpjlcdiaaGreatFmtA13
import Derived.Test.YtoclhdcpjlcdiaaGreatFmtA03
/- Here stand lemmas: plumbref2: contracts. -/
set_option linter.unusedVariables false
namespace Go.Eng
open Go
/-- A list that is being made, in blocks that h0 has not. -/
structure Lst (h0 h : Heap) (p : Option Addr) (n c : Nat) (ws : List Nat) : Prop where
  sl : Sl .i64 h p ws
  len : ws.length = n
  room : Room h p c (fun b => h0.size ≤ b)
  le : n ≤ c
  pt : Pt p
  fresh : Fresh h0 p
theorem Lst.nil {h0 h : Heap} : Lst h0 h none 0 0 [] := ⟨Sl.nil, rfl, .inl rfl, Nat.le_refl _, .inl rfl, Fresh.nil⟩
theorem Lst.fr {h0 h h' : Heap} {p : Option Addr} {n c : Nat} {ws : List Nat} (L : Lst h0 h p n c ws) (f : Ext h h') : Lst h0 h' p n c ws := ⟨L.sl.ext f, L.len, L.room.ext f, L.le, L.pt, L.fresh⟩
theorem i64_nat {x : Nat} (h : x < 9223372036854775808) : IntKind.i64.wrap (x : Int) = (x : Int) := wrap_i64_in (by omega) (by omega)
end Go.Eng
namespace Go.Proofs
open Go Go.Eng
variable {B : World} {R : Ending → Heap → Prop} {h : Heap}
/-- Digits to the base 2^30, perhaps with zeros on top. -/
structure DigU (h : Heap) (p : Option Addr) (n : Nat) (ds : List Nat) : Prop where
  pt : Pt p
  sl : Sl .i64 h p ds
  len : ds.length = n
  dig : Dig B30 ds
theorem DigI.u {p : Option Addr} {n : Nat} {ds : List Nat} (H : DigI h p n ds) : DigU h p n ds := ⟨H.pt, H.sl, H.len, H.dig⟩
theorem DigU.ext {h' : Heap} {p : Option Addr} {n : Nat} {ds : List Nat} (H : DigU h p n ds) (f : Ext h h') : DigU h' p n ds := ⟨H.pt, H.sl.ext f, H.len, H.dig⟩
theorem DigI.nil : DigI h none 0 [] := ⟨.inl rfl, Sl.nil, rfl, Dig.nil, by simp [Trim]⟩
end Go.Proofs
namespace Go.Proofs
open Go Go.Eng
variable {B : World} {R : Ending → Heap → Prop} {h : Heap}
theorem _root_.Go.Eng.Lst.u {h0 h : Heap} {p : Option Addr} {n c : Nat} {ws : List Nat} (L : Lst h0 h p n c ws) (d : Dig B30 ws) : DigU h p n ws := ⟨L.pt, L.sl, L.len, d⟩
end Go.Proofs
namespace Go.Eng
open Go
theorem Dig.set {b : Nat} {l : List Nat} (h : Dig b l) (k x : Nat) (hx : x < b) : Dig b (l.set k x) := fun w hw => by
  rcases List.mem_or_eq_of_mem_set hw with h1 | h1
  · exact h w h1
  · rw [h1]; exact hx
end Go.Eng
namespace Go.Proofs
open Go Go.Eng
variable {B : World} {R : Ending → Heap → Prop} {h : Heap}
end Go.Proofs
