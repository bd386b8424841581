import Derived.Test.YtkfafikejdhccaaGreatDoorA20
/- Here stand lemmas: what the functions of this file come to, third part (written by program). -/
set_option linter.unusedVariables false
namespace Go.Proofs
open Go Go.Eng
/-- plumb/plumbref6.TwoSum -/
def F69_j64 (B : World) (R : Ending → Heap → Prop) (y65 : Int) (y66 : Int) (y67 : Bool) (h68 : Heap) : Prop :=
  R (.returned (.tuple #[.int .i64 y65, .int .i64 y66, .bool y67])) h68
def F69 (B : World) (R : Ending → Heap → Prop) (a1 : Int) (a2 : Int) (h : Heap) : Prop :=
  Ent Tryz.prog B 132 #[.int .i64 a1, .int .i64 a2] (retE (fun v3 h4 => ∃ x7, v3 = .int .i64 x7 ∧
 Ent Tryz.prog B 110 #[.int .i64 x7, .int .i64 a1] (retE (fun v8 h9 => ∃ x12, v8 = .int .i64 x12 ∧
 Ent Tryz.prog B 110 #[.int .i64 x7, .int .i64 x12] (retE (fun v13 h14 => ∃ x17, v13 = .int .i64 x17 ∧
 Ent Tryz.prog B 110 #[.int .i64 a1, .int .i64 x17] (retE (fun v18 h19 => ∃ x22, v18 = .int .i64 x22 ∧
 Ent Tryz.prog B 110 #[.int .i64 a2, .int .i64 x12] (retE (fun v23 h24 => ∃ x27, v23 = .int .i64 x27 ∧
 Ent Tryz.prog B 132 #[.int .i64 x22, .int .i64 x27] (retE (fun v28 h29 => ∃ x32, v28 = .int .i64 x32 ∧
 Ent Tryz.prog B 111 #[.int .i64 a1, .int .i64 a2] (retE (fun v33 h34 => ∃ x37, v33 = .bool x37 ∧
(x37 = true →
 Ent Tryz.prog B 114 #[.int .i64 a1] (retE (fun v38 h39 => ∃ x42 x43 x43n x43c x44, v38 = .agg #[.bool x42, .slice x43 x43n x43c, .int .i64 x44] ∧
 Ent Tryz.prog B 114 #[.int .i64 a2] (retE (fun v45 h46 => ∃ x49 x50 x50n x50c x51, v45 = .agg #[.bool x49, .slice x50 x50n x50c, .int .i64 x51] ∧
 Ent Tryz.prog B 133 #[.agg #[.bool x42, .slice x43 x43n x43c, .int .i64 x44], .agg #[.bool x49, .slice x50 x50n x50c, .int .i64 x51]] (retE (fun v52 h53 => ∃ x56 x57 x57n x57c x58, v52 = .agg #[.bool x56, .slice x57 x57n x57c, .int .i64 x58] ∧
 Ent Tryz.prog B 112 #[.int .i64 x7, .int .i64 x32, .agg #[.bool x56, .slice x57 x57n x57c, .int .i64 x58]] (retE (fun v59 h60 => ∃ x63, v59 = .bool x63 ∧
 F69_j64 B R x7 x32 x63 h60)
 (fun ch61 h62 => R (.panicked ch61) h62)) h53)
 (fun ch54 h55 => R (.panicked ch54) h55)) h46)
 (fun ch47 h48 => R (.panicked ch47) h48)) h39)
 (fun ch40 h41 => R (.panicked ch40) h41)) h34) ∧
(x37 = false →
 F69_j64 B R x7 x32 false h34))
 (fun ch35 h36 => R (.panicked ch35) h36)) h29)
 (fun ch30 h31 => R (.panicked ch30) h31)) h24)
 (fun ch25 h26 => R (.panicked ch25) h26)) h19)
 (fun ch20 h21 => R (.panicked ch20) h21)) h14)
 (fun ch15 h16 => R (.panicked ch15) h16)) h9)
 (fun ch10 h11 => R (.panicked ch10) h11)) h4)
 (fun ch5 h6 => R (.panicked ch5) h6)) h
end Go.Proofs
