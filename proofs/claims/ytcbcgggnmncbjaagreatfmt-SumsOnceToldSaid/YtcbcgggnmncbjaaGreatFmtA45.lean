import Derived.Test.YtcbcgggnmncbjaaGreatFmtA44
/- Here stand lemmas and contracts, in the order in which they are used. -/
set_option linter.unusedVariables false
set_option linter.unusedVariables false
/-! plumblaw5.SumsOnce. -/
namespace Go.Proofs
open Go Go.Eng
variable {B : World} {R : Ending → Heap → Prop} {h : Heap}
theorem sumV_dir (w : Int) (l : List Int) : sumV w l = pz (dirV w.toNat (sV l) (-((1074 : Nat) : Int))) := by
  obtain ⟨N, hN⟩ : ∃ N, N = 1074 := ⟨_, rfl⟩
  unfold sumV
  have h1 : ((2 ^ N : Nat) : Int) = (2 : Int) ^ N := by rw [Int.natCast_pow]; rfl
  rw [uw_pow hN, h1, (dirV_scale w.toNat (sV l) (-((2148 : Nat) : Int)) N).1]
  congr 2
  omega
/-- plumblaw5.SumsOnce. -/
theorem K1358 {p : Option Addr} {n c : Nat} {xs : List Int} {way : Int} (ht : TabH h) (I : IntsH h p xs) (hn : xs.length = n) (hm : n < 9223372036854775808)
    (H : ∀ h', Ext h h' → R (.returned (.bool true)) h') : Ent Tryz.prog B 4 #[.slice p n c, .int .i64 way] R h := by
  obtain ⟨w, hw, w0, w4⟩ := way_in way
  refine F1358_ok _ _ _ _ (K1359 (N := 300) (by decide) I hn hm fun p1 n1 c1 la h1 f1 L1 m1 g1 => ⟨_, _, _, rfl, ?_⟩)
  rw [hw]
  have len1 := L1.len
  have i1 : I64 P1 := by unfold I64 P1; omega
  refine ⟨fun m vs h' => match vs with
    | [.int _ ww, .slice q1 k1 d1, .slice q2 k2 d2, .int _ i] => w = ww ∧ p1 = q1 ∧ n1 = k1 ∧ c1 = d1 ∧ ∃ j : Nat, i = (j : Int) ∧ j ≤ n1 ∧ m = n1 - j ∧ j = k2 ∧ Ext h1 h' ∧ Lj h1 h' q2 k2 d2 (List.replicate j P1)
    | _ => False, n1, ⟨rfl, rfl, rfl, rfl, 0, rfl, by omega, by omega, rfl, Fr.rfl', Lj.nil⟩, ?_⟩
  rintro m h' _ _ _ _ p2 n2 c2 _ ⟨rfl, rfl, rfl, rfl, j, rfl, hj, rfl, rfl, E, L2⟩ _
  refine ⟨fun e2 => ?_, fun e2 => ?_⟩
  · have hjn : j < n1 := by have := of_decide_eq_true e2; omega
    refine alK fun r1 k1 e1 f3 o1 z1 => apJ2 (L2.ext f3) (Ext.trans E f3) (by omega) o1 i1 fun p4 c4 k2 L4 E4 => ?_
    refine ⟨n1 - (j + 1), by omega, rfl, rfl, rfl, rfl, j + 1, ?_, by omega, rfl, rfl, E4, ?_⟩
    · rw [i64_in (by omega) (by omega)]; rfl
    · rw [List.replicate_succ']; exact L4
  have hjn : j = n1 := by have := of_decide_eq_false e2; omega
  subst hjn
  have F := Ext.trans f1 E
  refine K1360 (ht.fr F id) (L1.ext E).ints len1 (by omega) g1 w0 w4 fun h2 f2 => ⟨_, _, rfl, ?_⟩
  have F2 := Ext.trans F f2
  refine K1362 (ht.fr F2 id) ((L1.ext E).ext f2).ints len1 (by omega) g1 fun ng q k c' e h3 f3 N => ⟨_, _, _, _, _, rfl, ?_⟩
  refine K1030 N w0 w4 fun h4 f4 => ⟨_, _, _, rfl, ?_⟩
  have E4 := Ext.trans (Ext.trans f2 f3) f4
  have F4 := Ext.trans F E4
  rw [← sumV_dir]
  refine K1363 (ht.fr F4 id) ((L1.ext E).ext E4).ints (L2.ext E4).ints len1 (by omega) g1 w0 w4 fun h5 f5 => ⟨_, _, rfl, ?_⟩
  have F5 := Ext.trans F4 f5
  refine K1361 (ht.fr F5 id) fun h6 f6 => ⟨_, rfl, fun _ => ⟨fun _ => ⟨fun _ => ⟨fun _ => ?_, fun e => ?_⟩, fun e => absurd e (by decide)⟩, fun e => absurd e (by decide)⟩, fun e => (by cases e)⟩
  · show R (.returned (.bool (decide (sumV w la = sumV w la)))) h6
    rw [decide_eq_true rfl]
    exact H h6 (Ext.trans F5 f6)
  · exact absurd rfl (of_decide_eq_false e)
end Go.Proofs
