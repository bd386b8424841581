import Derived.Test.YtpkdpdpobddnpaaGreatFmtA03
/- Here stand lemmas: what further functions come to (written by program). -/
set_option linter.unusedVariables false
namespace Go.Proofs
open Go Go.Eng
def F143_j8 (B : World) (R : Po) (a0 : Lp) (b0 : Nat) (c0 : OA) (d0 e0 : Nat) (f0 : OA) (g0 i0 : Nat) (j0 : OA) (k0 l0 : Nat) (m0 n0 o0 p0 q0 r0 s0 : Int) (t0 : Heap) : Prop :=
 Ec B 160 #[.int .u64 q0, .int .u64 n0, .int .u64 (0 : Int)] (retE (fun u0 v0 => ∃ w0 x0, u0 = .tuple #[.int .u64 w0, .int .u64 x0] /\
 ixW c0 d0 o0 1 fun y0 z0 =>
 iP y0 z0 fun a1 b1 => stC v0 a1 b1 (.int .u64 w0) fun c1 =>
∃ d1, d1 < b0 /\ a0 d1 [.slice c0 d0 e0, .slice f0 g0 i0, .slice j0 k0 l0, .int .u64 m0, .int .u64 (IntKind.u64.wrap (x0 + p0)), .int .i64 r0, .int .i64 (IntKind.i64.wrap (s0 + (1 : Int)))] c1)
(pk R)) t0
def F143_j2 (B : World) (R : Po) (e1 : OA) (f1 g1 : Nat) (i1 : OA) (j1 k1 : Nat) (l1 : OA) (m1 n1 : Nat) (o1 p1 : Int) (q1 : Bool) (r1 : Heap) : Prop :=
(q1 = true ->
 R (.panicked [{ v := .iface 9 (.string ⟨#[97, 100, 100, 77, 117, 108, 86, 86, 87, 87, 32, 108, 101, 110]⟩), recovered := false }]) r1) /\
(q1 = false ->
 ∃ a0 : Lp, ∃ s1, a0 s1 [.slice e1 f1 g1, .slice i1 j1 k1, .slice l1 m1 n1, .int .u64 o1, .int .u64 p1, .int .i64 (f1 : Int), .int .i64 (0 : Int)] r1 /\
∀ (b0 : Nat) (t1 : Heap) (u1 : OA) (v1 w1 : Nat) (x1 : OA) (y1 z1 : Nat) (a2 : OA) (b2 c2 : Nat) (d2 e2 f2 g2 : Int), a0 b0 [.slice u1 v1 w1, .slice x1 y1 z1, .slice a2 b2 c2, .int .u64 d2, .int .u64 e2, .int .i64 f2, .int .i64 g2] t1 -> ∀ _r : Nat -> Value,
((decide (g2 < f2)) = true ->
 ixW a2 b2 g2 1 fun i2 j2 =>
 iP i2 j2 fun k2 l2 => ∃ m2, cI t1 k2 l2 .u64 m2 /\
 ixW x1 y1 g2 1 fun n2 o2 =>
 iP n2 o2 fun p2 q2 => ∃ r2, cI t1 p2 q2 .u64 r2 /\
 Ec B 220 #[.int .u64 m2, .int .u64 d2, .int .u64 r2] (retE (fun s2 t2 => ∃ u2 v2, s2 = .tuple #[.int .u64 u2, .int .u64 v2] /\
 F143_j8 B R a0 b0 u1 v1 w1 x1 y1 z1 a2 b2 c2 d2 e2 g2 u2 v2 f2 g2 t2)
(fun _ _ => False)) t1) /\
((decide (g2 < f2)) = false ->
 R (.returned (.int .u64 e2)) t1))
def F143 (B : World) (R : Po) (w2 : OA) (x2 y2 : Nat) (z2 : OA) (a3 b3 : Nat) (c3 : OA) (d3 e3 : Nat) (f3 g3 : Int) (h : Heap) : Prop :=
((!decide ((a3 : Int) = (x2 : Int))) = true ->
 F143_j2 B R w2 x2 y2 z2 a3 b3 c3 d3 e3 f3 g3 true h) /\
((!decide ((a3 : Int) = (x2 : Int))) = false ->
 F143_j2 B R w2 x2 y2 z2 a3 b3 c3 d3 e3 f3 g3 (!decide ((d3 : Int) = (x2 : Int))) h)
def F143_L : Nat -> List (Nat × TypeDesc) := fun i => match i with
  | 5 => [(0, .slice 0), (1, .slice 0), (2, .slice 0), (3, .int .u64), (10, .int .u64), (31, .int .i64), (32, .int .i64)]
  | _ => []
def F143_J (B : World) (R : Po) : Nat -> Option JT := fun i => match i with
  | 2 => some ⟨[(0, .slice 0), (1, .slice 0), (2, .slice 0), (3, .int .u64), (4, .int .u64), (27, .bool)], fun s v h => match s, v with
    | [], [.slice e1 f1 g1, .slice i1 j1 k1, .slice l1 m1 n1, .int _ o1, .int _ p1, .bool q1] => F143_j2 B R e1 f1 g1 i1 j1 k1 l1 m1 n1 o1 p1 q1 h
    | _, _ => False⟩
  | 8 => some ⟨[(0, .slice 0), (1, .slice 0), (2, .slice 0), (3, .int .u64), (10, .int .u64), (11, .int .i64), (12, .int .u64), (13, .int .u64), (31, .int .i64), (32, .int .i64)], fun s v h => match s, v with
    | [(a0, b0)], [.slice c0 d0 e0, .slice f0 g0 i0, .slice j0 k0 l0, .int _ m0, .int _ n0, .int _ o0, .int _ p0, .int _ q0, .int _ r0, .int _ s0] => F143_j8 B R a0 b0 c0 d0 e0 f0 g0 i0 j0 k0 l0 m0 n0 o0 p0 q0 r0 s0 h
    | _, _ => False⟩
  | _ => none
theorem F143_ok {B : World} {R : Ending -> Heap -> Prop} (w2 : OA) (x2 y2 : Nat) (z2 : OA) (a3 b3 : Nat) (c3 : OA) (d3 e3 : Nat) (f3 g3 : Int) {h : Heap} (H : F143 B R w2 x2 y2 z2 a3 b3 c3 d3 e3 f3 g3 h) : Ec B 122 #[.slice w2 x2 y2, .slice z2 a3 b3, .slice c3 d3 e3, .int .u64 f3, .int .u64 g3] R h :=
 Ej Tryz.func122 (by kernel_rfl) (by kernel_rfl) (by kernel_rfl) F143_L (F143_J B R) [] (by kernel_rfl) (by kernel_rfl) H

def F223_j6 (B : World) (R : Po) (a0 : Lp) (b0 : Nat) (c0 : OA) (d0 e0 : Nat) (f0 : OA) (g0 i0 : Nat) (j0 : OA) (k0 l0 : Nat) (m0 n0 : Int) (o0 : Heap) : Prop :=
 ∃ p0, p0 < b0 /\ a0 p0 [.slice c0 d0 e0, .slice f0 g0 i0, .slice j0 k0 l0, .int .i64 m0, .int .i64 (IntKind.i64.wrap (n0 + (1 : Int)))] o0
def F223 (B : World) (R : Po) (q0 : OA) (r0 s0 : Nat) (t0 : OA) (u0 v0 : Nat) (w0 : OA) (x0 y0 : Nat) (h : Heap) : Prop :=
 slW r0 s0 (some (.int .i64 (0 : Int))) (some (.int .i64 (IntKind.i64.wrap ((u0 : Int) + (x0 : Int))))) none fun z0 a1 b1 =>
 clW h (slP q0 z0 b1 1) (a1 - z0) 1 #[.int .u64 0] fun c1 =>
∃ a0 : Lp, ∃ d1, a0 d1 [.slice q0 r0 s0, .slice t0 u0 v0, .slice w0 x0 y0, .int .i64 (x0 : Int), .int .i64 (0 : Int)] c1 /\
∀ (b0 : Nat) (e1 : Heap) (f1 : OA) (g1 i1 : Nat) (j1 : OA) (k1 l1 : Nat) (m1 : OA) (n1 o1 : Nat) (p1 q1 : Int), a0 b0 [.slice f1 g1 i1, .slice j1 k1 l1, .slice m1 n1 o1, .int .i64 p1, .int .i64 q1] e1 -> ∀ _r : Nat -> Value,
((decide (q1 < p1)) = true ->
 ixW m1 n1 q1 1 fun r1 s1 =>
 iP r1 s1 fun t1 u1 => ∃ v1, cI e1 t1 u1 .u64 v1 /\
((!decide (v1 = (0 : Int))) = true ->
 slW g1 i1 (some (.int .i64 q1)) (some (.int .i64 (IntKind.i64.wrap (q1 + (k1 : Int))))) none fun w1 x1 y1 =>
 slW g1 i1 (some (.int .i64 q1)) (some (.int .i64 (IntKind.i64.wrap (q1 + (k1 : Int))))) none fun z1 a2 b2 =>
 Ec B 219 #[.slice (slP f1 w1 y1 1) (x1 - w1) (y1 - w1), .slice (slP f1 z1 b2 1) (a2 - z1) (b2 - z1), .slice j1 k1 l1, .int .u64 v1, .int .u64 (0 : Int)] (retE (fun c2 d2 => ∃ e2, c2 = .int .u64 e2 /\
 ixW f1 g1 (IntKind.i64.wrap ((k1 : Int) + q1)) 1 fun f2 g2 =>
 iP f2 g2 fun i2 j2 => stC d2 i2 j2 (.int .u64 e2) fun k2 =>
 F223_j6 B R a0 b0 f1 g1 i1 j1 k1 l1 m1 n1 o1 p1 q1 k2)
(fun _ _ => False)) e1) /\
((!decide (v1 = (0 : Int))) = false ->
 F223_j6 B R a0 b0 f1 g1 i1 j1 k1 l1 m1 n1 o1 p1 q1 e1)) /\
((decide (q1 < p1)) = false ->
 R (.returned (.tuple #[])) e1)
def F223_L : Nat -> List (Nat × TypeDesc) := fun i => match i with
  | 2 => [(0, .slice 0), (1, .slice 0), (15, .slice 0), (16, .int .i64), (17, .int .i64)]
  | _ => []
def F223_J (B : World) (R : Po) : Nat -> Option JT := fun i => match i with
  | 6 => some ⟨[(0, .slice 0), (1, .slice 0), (15, .slice 0), (16, .int .i64), (17, .int .i64)], fun s v h => match s, v with
    | [(a0, b0)], [.slice c0 d0 e0, .slice f0 g0 i0, .slice j0 k0 l0, .int _ m0, .int _ n0] => F223_j6 B R a0 b0 c0 d0 e0 f0 g0 i0 j0 k0 l0 m0 n0 h
    | _, _ => False⟩
  | _ => none
theorem F223_ok {B : World} {R : Ending -> Heap -> Prop} (q0 : OA) (r0 s0 : Nat) (t0 : OA) (u0 v0 : Nat) (w0 : OA) (x0 y0 : Nat) {h : Heap} (H : F223 B R q0 r0 s0 t0 u0 v0 w0 x0 y0 h) : Ec B 202 #[.slice q0 r0 s0, .slice t0 u0 v0, .slice w0 x0 y0] R h :=
 Ej Tryz.func202 (by kernel_rfl) (by kernel_rfl) (by kernel_rfl) F223_L (F223_J B R) [] (by kernel_rfl) (by kernel_rfl) H
end Go.Proofs
namespace Go.Proofs.Wide
open Go Go.Eng
def F208_j55 (B : World) (R : Po) (a0 : OA) (b0 c0 : Nat) (d0 e0 : OA) (f0 g0 : Nat) (i0 : OA) (j0 k0 : Nat) (l0 m0 : Int) (n0 : Heap) : Prop :=
 Ec B 155 #[.slice a0 b0 c0, .int .i64 (IntKind.i64.wrap (l0 + m0))] (retE (fun o0 p0 => ∃ q0 r0 s0, o0 = .slice q0 r0 s0 /\
 iP 5 0 fun t0 u0 => ∃ v0, cI p0 t0 u0 .i64 v0 /\
((decide (m0 < v0)) = true ->
 Ec B 202 #[.slice q0 r0 s0, .slice e0 f0 g0, .slice i0 j0 k0] (retE (fun w0 x0 => w0 = .tuple #[] /\
 Ec B 157 #[.slice q0 r0 s0] (retE (fun y0 z0 => ∃ a1 b1 c1, y0 = .slice a1 b1 c1 /\
 R (.returned (.slice a1 b1 c1)) z0)
(pk R)) x0)
(pk R)) p0) /\
((decide (m0 < v0)) = false ->
 pEq p0 d0 none fun d1 =>
(d1 = true ->
 Ec B 203 #[] (retE (fun e1 f1 => ∃ g1, e1 = .pointer g1 /\
 False)
(pk R)) p0) /\
(d1 = false ->
 False)))
(pk R)) n0
def F208_j46 (B : World) (R : Po) (i1 : OA) (j1 k1 : Nat) (l1 m1 : OA) (n1 o1 : Nat) (p1 : OA) (q1 r1 : Nat) (s1 t1 : Int) (u1 : Bool) (v1 : Heap) : Prop :=
(u1 = true ->
 F208_j55 B R none 0 0 l1 m1 n1 o1 p1 q1 r1 s1 t1 v1) /\
(u1 = false ->
 F208_j55 B R i1 j1 k1 l1 m1 n1 o1 p1 q1 r1 s1 t1 v1)
def F208_j19 (B : World) (R : Po) (w1 : OA) (x1 y1 : Nat) (z1 a2 : OA) (b2 c2 : Nat) (d2 : OA) (e2 f2 : Nat) (g2 i2 : Int) (j2 : Bool) (k2 : Heap) : Prop :=
(j2 = true ->
 slW x1 y1 none (some (.int .i64 (0 : Int))) none fun l2 m2 n2 =>
 R (.returned (.slice (slP w1 l2 n2 1) (m2 - l2) (n2 - l2))) k2) /\
(j2 = false ->
((decide (i2 = (1 : Int))) = true ->
 ixW d2 e2 (0 : Int) 1 fun o2 p2 =>
 iP o2 p2 fun q2 r2 => ∃ s2, cI k2 q2 r2 .u64 s2 /\
 Ec B 207 #[.slice w1 x1 y1, .slice a2 b2 c2, .int .u64 s2, .int .u64 (0 : Int)] (retE (fun t2 u2 => ∃ v2 w2 x2, t2 = .slice v2 w2 x2 /\
 R (.returned (.slice v2 w2 x2)) u2)
(pk R)) k2) /\
((decide (i2 = (1 : Int))) = false ->
 Ec B 154 #[.slice w1 x1 y1, .slice a2 b2 c2] (retE (fun y2 z2 => ∃ a3, y2 = .bool a3 /\
(a3 = true ->
 F208_j46 B R w1 x1 y1 z1 a2 b2 c2 d2 e2 f2 g2 i2 true z2) /\
(a3 = false ->
 Ec B 154 #[.slice w1 x1 y1, .slice d2 e2 f2] (retE (fun b3 c3 => ∃ d3, b3 = .bool d3 /\
 F208_j46 B R w1 x1 y1 z1 a2 b2 c2 d2 e2 f2 g2 i2 d3 c3)
(pk R)) z2))
(pk R)) k2))
def F208_j10 (B : World) (R : Po) (e3 : OA) (f3 g3 : Nat) (i3 j3 : OA) (k3 l3 : Nat) (m3 : OA) (n3 o3 : Nat) (p3 q3 : Int) (r3 : Bool) (s3 : Heap) : Prop :=
 F208_j19 B R e3 f3 g3 i3 j3 k3 l3 m3 n3 o3 p3 q3 r3 s3
def F208 (B : World) (R : Po) (t3 : OA) (u3 v3 : Nat) (w3 x3 : OA) (y3 z3 : Nat) (a4 : OA) (b4 c4 : Nat) (h : Heap) : Prop :=
((decide ((y3 : Int) < (b4 : Int))) = true ->
 Ec B 189 #[.slice t3 u3 v3, .pointer w3, .slice a4 b4 c4, .slice x3 y3 z3] (retE (fun d4 e4 => ∃ f4 g4 i4, d4 = .slice f4 g4 i4 /\
 R (.returned (.slice f4 g4 i4)) e4)
(pk R)) h) /\
((decide ((y3 : Int) < (b4 : Int))) = false ->
((decide ((y3 : Int) = (0 : Int))) = true ->
 F208_j10 B R t3 u3 v3 w3 x3 y3 z3 a4 b4 c4 (y3 : Int) (b4 : Int) true h) /\
((decide ((y3 : Int) = (0 : Int))) = false ->
 F208_j10 B R t3 u3 v3 w3 x3 y3 z3 a4 b4 c4 (y3 : Int) (b4 : Int) (decide ((b4 : Int) = (0 : Int))) h))
def F208_L : Nat -> List (Nat × TypeDesc) := fun _ => []
theorem F208_ok {B : World} {R : Ending -> Heap -> Prop} (t3 : OA) (u3 v3 : Nat) (w3 x3 : OA) (y3 z3 : Nat) (a4 : OA) (b4 c4 : Nat) {h : Heap} (H : F208 B R t3 u3 v3 w3 x3 y3 z3 a4 b4 c4 h) : Ec B 189 #[.slice t3 u3 v3, .pointer w3, .slice x3 y3 z3, .slice a4 b4 c4] R h :=
 Ek Tryz.func189 (by kernel_rfl) (by kernel_rfl) (by kernel_rfl) F208_L [17, 18, 19, 20, 21, 22, 23, 24, 25, 26, 27, 28] (by kernel_rfl) H
end Go.Proofs.Wide
namespace Go.Proofs
open Go Go.Eng
def F1020 (B : World) (R : Po) (a0 b0 c0 d0 : Int) (h : Heap) : Prop :=
 alW h (.cells #[.int .i64 a0, .int .i64 b0] 23) fun e0 f0 =>
 alW f0 (.cells #[.int .i64 c0, .int .i64 d0] 23) fun g0 i0 =>
 alW i0 (.cells #[.int .i64 0, .int .i64 0] 23) fun j0 k0 =>
 iP e0 0 fun l0 m0 =>
∃ n0, cI k0 l0 m0 .i64 n0 /\
∃ o0, cell? k0 ⟨l0, m0 + 1, none⟩ = some (.int .i64 o0) /\
 iP g0 0 fun p0 q0 =>
∃ r0, cI k0 p0 q0 .i64 r0 /\
∃ s0, cell? k0 ⟨p0, q0 + 1, none⟩ = some (.int .i64 s0) /\
 alW k0 (.cells #[.int .i64 n0, .int .i64 o0, .int .i64 r0, .int .i64 s0] 23) fun t0 u0 =>
 Ec B 36 #[.slice (some ⟨t0, 0, none⟩) 2 2] (retE (fun v0 w0 => ∃ x0, v0 = .int .i64 x0 /\
((!decide (x0 = (0 : Int))) = true ->
 iP 0 0 fun y0 z0 =>
∃ a1, cI w0 y0 z0 .i64 a1 /\
∃ b1, cell? w0 ⟨y0, z0 + 1, none⟩ = some (.int .i64 b1) /\
 iP j0 0 fun c1 d1 => stC w0 c1 d1 (.int .i64 a1) fun e1 =>
 stC e1 c1 (d1 + 1) (.int .i64 b1) fun f1 =>
 iP j0 0 fun g1 i1 =>
∃ j1, cI f1 g1 i1 .i64 j1 /\
∃ k1, cell? f1 ⟨g1, i1 + 1, none⟩ = some (.int .i64 k1) /\
 R (.returned (.tuple #[.agg #[.int .i64 j1, .int .i64 k1], .int .i64 x0])) f1) /\
((!decide (x0 = (0 : Int))) = false ->
 iP e0 0 fun l1 m1 =>
 iP l1 m1 fun n1 o1 => ∃ p1, cI w0 n1 o1 .i64 p1 /\
 iP g0 0 fun q1 r1 =>
 iP q1 r1 fun s1 t1 => ∃ u1, cI w0 s1 t1 .i64 u1 /\
 iP e0 0 fun v1 w1 =>
 iP v1 w1 fun x1 y1 => ∃ z1, cI w0 x1 y1 .i64 z1 /\
 iP g0 0 fun a2 b2 =>
 isP (some ⟨a2, b2 + 1, none⟩) fun c2 d2 => ∃ e2, cI w0 c2 d2 .i64 e2 /\
 iP e0 0 fun f2 g2 =>
 isP (some ⟨f2, g2 + 1, none⟩) fun i2 j2 => ∃ k2, cI w0 i2 j2 .i64 k2 /\
 iP g0 0 fun l2 m2 =>
 iP l2 m2 fun n2 o2 => ∃ p2, cI w0 n2 o2 .i64 p2 /\
 iP e0 0 fun q2 r2 =>
 isP (some ⟨q2, r2 + 1, none⟩) fun s2 t2 => ∃ u2, cI w0 s2 t2 .i64 u2 /\
 iP g0 0 fun v2 w2 =>
 isP (some ⟨v2, w2 + 1, none⟩) fun x2 y2 => ∃ z2, cI w0 x2 y2 .i64 z2 /\
 alW w0 (.cells #[.int .i64 0, .int .i64 0, .int .i64 0, .int .i64 0, .int .i64 0, .int .i64 0, .int .i64 0, .int .i64 0] 71) fun a3 b3 =>
 iP a3 0 fun c3 d3 => stC b3 c3 d3 (.int .i64 p1) fun e3 =>
 stC e3 c3 (d3 + 1) (.int .i64 u1) fun f3 =>
 stC f3 c3 (d3 + 1 + 1) (.int .i64 z1) fun g3 =>
 stC g3 c3 (d3 + 1 + 1 + 1) (.int .i64 e2) fun i3 =>
 stC i3 c3 (d3 + 1 + 1 + 1 + 1) (.int .i64 k2) fun j3 =>
 stC j3 c3 (d3 + 1 + 1 + 1 + 1 + 1) (.int .i64 p2) fun k3 =>
 stC k3 c3 (d3 + 1 + 1 + 1 + 1 + 1 + 1) (.int .i64 u2) fun l3 =>
 stC l3 c3 (d3 + 1 + 1 + 1 + 1 + 1 + 1 + 1) (.int .i64 z2) fun m3 =>
 Ec B 43 #[.int .i64 (1 : Int)] (retE (fun n3 o3 => ∃ p3, n3 = .float .f64 p3 /\
 Ec B 43 #[.int .i64 (-1 : Int)] (retE (fun q3 r3 => ∃ s3, q3 = .float .f64 s3 /\
 iP a3 0 fun t3 u3 =>
∃ v3, cI r3 t3 u3 .i64 v3 /\
∃ w3, cell? r3 ⟨t3, u3 + 1, none⟩ = some (.int .i64 w3) /\
∃ x3, cell? r3 ⟨t3, u3 + 1 + 1, none⟩ = some (.int .i64 x3) /\
∃ y3, cell? r3 ⟨t3, u3 + 1 + 1 + 1, none⟩ = some (.int .i64 y3) /\
∃ z3, cell? r3 ⟨t3, u3 + 1 + 1 + 1 + 1, none⟩ = some (.int .i64 z3) /\
∃ a4, cell? r3 ⟨t3, u3 + 1 + 1 + 1 + 1 + 1, none⟩ = some (.int .i64 a4) /\
∃ b4, cell? r3 ⟨t3, u3 + 1 + 1 + 1 + 1 + 1 + 1, none⟩ = some (.int .i64 b4) /\
∃ c4, cell? r3 ⟨t3, u3 + 1 + 1 + 1 + 1 + 1 + 1 + 1, none⟩ = some (.int .i64 c4) /\
∃ d4 : Lp, ∃ e4, d4 e4 [.pointer (some ⟨j0, 0, none⟩), .float .f64 p3, .float .f64 s3, .agg #[.int .i64 v3, .int .i64 w3, .int .i64 x3, .int .i64 y3, .int .i64 z3, .int .i64 a4, .int .i64 b4, .int .i64 c4], .int .i64 (0 : Int)] r3 /\
∀ (f4 : Nat) (g4 : Heap) (i4 : OA) (j4 k4 : Nat) (l4 m4 n4 o4 p4 q4 r4 s4 t4 : Int), d4 f4 [.pointer i4, .float .f64 j4, .float .f64 k4, .agg #[.int .i64 l4, .int .i64 m4, .int .i64 n4, .int .i64 o4, .int .i64 p4, .int .i64 q4, .int .i64 r4, .int .i64 s4], .int .i64 t4] g4 -> ∀ _r : Nat -> Value,
((decide (t4 < (4 : Int))) = true ->
 0 <= t4 /\ t4 < (4 : Int) /\ ∃ u4 v4, (some (.agg (Array.extract #[.int .i64 l4, .int .i64 m4, .int .i64 n4, .int .i64 o4, .int .i64 p4, .int .i64 q4, .int .i64 r4, .int .i64 s4] (Int.toNat t4 * 2) (Int.toNat t4 * 2 + 2))) : Option Value) = some (.agg #[.int .i64 u4, .int .i64 v4]) /\
 alW g4 (.cells #[.int .i64 0, .int .i64 0] 70) fun w4 x4 =>
 iP w4 0 fun y4 z4 => stC x4 y4 z4 (.int .i64 u4) fun a5 =>
 stC a5 y4 (z4 + 1) (.int .i64 v4) fun b5 =>
 ixW (some ⟨w4, 0, none⟩) 2 (0 : Int) 1 fun c5 d5 =>
 iP c5 d5 fun e5 f5 => ∃ g5, cI b5 e5 f5 .i64 g5 /\
 ixW (some ⟨w4, 0, none⟩) 2 (1 : Int) 1 fun i5 j5 =>
 iP i5 j5 fun k5 l5 => ∃ m5, cI b5 k5 l5 .i64 m5 /\
 Ec B 44 #[.int .i64 g5, .int .i64 m5, .int .i64 (1 : Int)] (retE (fun n5 o5 => ∃ p5, n5 = .float .f64 p5 /\
∃ q5, FloatKind.f64.format.order j4 p5 = some q5 /\
 ixW (some ⟨w4, 0, none⟩) 2 (0 : Int) 1 fun r5 s5 =>
 iP r5 s5 fun t5 u5 => ∃ v5, cI o5 t5 u5 .i64 v5 /\
 ixW (some ⟨w4, 0, none⟩) 2 (1 : Int) 1 fun w5 x5 =>
 iP w5 x5 fun y5 z5 => ∃ a6, cI o5 y5 z5 .i64 a6 /\
 Ec B 44 #[.int .i64 v5, .int .i64 a6, .int .i64 (2 : Int)] (retE (fun b6 c6 => ∃ d6, b6 = .float .f64 d6 /\
∃ e6, FloatKind.f64.format.order k4 d6 = some e6 /\
∃ f6, f6 < f4 /\ d4 f6 [.pointer i4, .float .f64 (minF .f64 j4 p5 q5), .float .f64 (maxF .f64 k4 d6 e6), .agg #[.int .i64 l4, .int .i64 m4, .int .i64 n4, .int .i64 o4, .int .i64 p4, .int .i64 q4, .int .i64 r4, .int .i64 s4], .int .i64 (IntKind.i64.wrap (t4 + (1 : Int)))] c6)
(pk R)) o5)
(pk R)) b5) /\
((decide (t4 < (4 : Int))) = false ->
 Ec B 45 #[.float .f64 j4] (retE (fun g6 i6 => ∃ j6, g6 = .int .i64 j6 /\
 Ec B 45 #[.float .f64 k4] (retE (fun k6 l6 => ∃ m6, k6 = .int .i64 m6 /\
 Ec B 38 #[.int .i64 j6, .int .i64 m6] (retE (fun n6 o6 => ∃ p6 q6 r6, n6 = .tuple #[.agg #[.int .i64 p6, .int .i64 q6], .int .i64 r6] /\
 isP i4 fun s6 t6 => stC o6 s6 t6 (.int .i64 p6) fun u6 =>
 stC u6 s6 (t6 + 1) (.int .i64 q6) fun v6 =>
 isP i4 fun w6 x6 =>
∃ y6, cI v6 w6 x6 .i64 y6 /\
∃ z6, cell? v6 ⟨w6, x6 + 1, none⟩ = some (.int .i64 z6) /\
 R (.returned (.tuple #[.agg #[.int .i64 y6, .int .i64 z6], .int .i64 r6])) v6)
(pk R)) l6)
(pk R)) i6)
(pk R)) g4))
(pk R)) o3)
(pk R)) m3))
(pk R)) u0
def F1020_L : Nat -> List (Nat × TypeDesc) := fun i => match i with
  | 7 => [(4, .pointer 0), (8, .float .f64), (9, .float .f64), (43, .array 8 0), (44, .int .i64)]
  | _ => []
theorem F1020_ok {B : World} {R : Ending -> Heap -> Prop} (a0 b0 c0 d0 : Int) {h : Heap} (H : F1020 B R a0 b0 c0 d0 h) : Ec B 13 #[.agg #[.int .i64 a0, .int .i64 b0], .agg #[.int .i64 c0, .int .i64 d0]] R h :=
 Ek Tryz.func13 (by kernel_rfl) (by kernel_rfl) (by kernel_rfl) F1020_L [] (by kernel_rfl) H

def F1046_j2 (B : World) (R : Po) (a0 b0 c0 : Int) (d0 : Bool) (e0 : Heap) : Prop :=
(d0 = true ->
 R (.returned (.float .f64 0)) e0) /\
(d0 = false ->
 Ec B 70 #[.int .i64 a0, .int .i64 b0, .int .i64 c0] (retE (fun f0 g0 => ∃ i0 j0, f0 = .tuple #[.int .i64 i0, .int .i64 j0] /\
 Ec B 39 #[.int .i64 i0] (retE (fun k0 l0 => ∃ m0, k0 = .float .f64 m0 /\
 R (.returned (.float .f64 m0)) l0)
(pk R)) g0)
(pk R)) e0)
def F1046 (B : World) (R : Po) (n0 o0 p0 : Int) (h : Heap) : Prop :=
 Ec B 51 #[.int .i64 n0] (retE (fun q0 r0 => ∃ s0, q0 = .int .i64 s0 /\
((decide (s0 = (0 : Int))) = true ->
 F1046_j2 B R n0 o0 p0 true r0) /\
((decide (s0 = (0 : Int))) = false ->
 Ec B 51 #[.int .i64 o0] (retE (fun t0 u0 => ∃ v0, t0 = .int .i64 v0 /\
 F1046_j2 B R n0 o0 p0 (decide (v0 = (0 : Int))) u0)
(pk R)) r0))
(pk R)) h
def F1046_L : Nat -> List (Nat × TypeDesc) := fun _ => []
def F1046_J (B : World) (R : Po) : Nat -> Option JT := fun i => match i with
  | 2 => some ⟨[(0, .int .i64), (1, .int .i64), (2, .int .i64), (16, .bool)], fun s v h => match s, v with
    | [], [.int _ a0, .int _ b0, .int _ c0, .bool d0] => F1046_j2 B R a0 b0 c0 d0 h
    | _, _ => False⟩
  | _ => none
theorem F1046_ok {B : World} {R : Ending -> Heap -> Prop} (n0 o0 p0 : Int) {h : Heap} (H : F1046 B R n0 o0 p0 h) : Ec B 44 #[.int .i64 n0, .int .i64 o0, .int .i64 p0] R h :=
 Ej Tryz.func44 (by kernel_rfl) (by kernel_rfl) (by kernel_rfl) F1046_L (F1046_J B R) [] (by kernel_rfl) (by kernel_rfl) H
end Go.Proofs
set_option linter.unusedVariables false
set_option maxRecDepth 100000
namespace Go.Proofs
open Go Go.Eng
def F1026 (B : World) (R : Po) (a0 b0 c0 d0 : Int) (h : Heap) : Prop :=
 alW h (.cells #[.int .i64 a0, .int .i64 b0] 23) fun e0 f0 =>
 alW f0 (.cells #[.int .i64 c0, .int .i64 d0] 23) fun g0 i0 =>
 alW i0 (.cells #[.int .i64 0, .int .i64 0] 23) fun j0 k0 =>
 iP e0 0 fun l0 m0 =>
∃ n0, cI k0 l0 m0 .i64 n0 /\
∃ o0, cell? k0 ⟨l0, m0 + 1, none⟩ = some (.int .i64 o0) /\
 iP g0 0 fun p0 q0 =>
∃ r0, cI k0 p0 q0 .i64 r0 /\
∃ s0, cell? k0 ⟨p0, q0 + 1, none⟩ = some (.int .i64 s0) /\
 alW k0 (.cells #[.int .i64 n0, .int .i64 o0, .int .i64 r0, .int .i64 s0] 23) fun t0 u0 =>
 Ec B 36 #[.slice (some ⟨t0, 0, none⟩) 2 2] (retE (fun v0 w0 => ∃ x0, v0 = .int .i64 x0 /\
((!decide (x0 = (0 : Int))) = true ->
 iP 0 0 fun y0 z0 =>
∃ a1, cI w0 y0 z0 .i64 a1 /\
∃ b1, cell? w0 ⟨y0, z0 + 1, none⟩ = some (.int .i64 b1) /\
 iP j0 0 fun c1 d1 => stC w0 c1 d1 (.int .i64 a1) fun e1 =>
 stC e1 c1 (d1 + 1) (.int .i64 b1) fun f1 =>
 iP j0 0 fun g1 i1 =>
∃ j1, cI f1 g1 i1 .i64 j1 /\
∃ k1, cell? f1 ⟨g1, i1 + 1, none⟩ = some (.int .i64 k1) /\
 R (.returned (.tuple #[.agg #[.int .i64 j1, .int .i64 k1], .int .i64 x0])) f1) /\
((!decide (x0 = (0 : Int))) = false ->
 iP g0 0 fun l1 m1 =>
∃ n1, cI w0 l1 m1 .i64 n1 /\
∃ o1, cell? w0 ⟨l1, m1 + 1, none⟩ = some (.int .i64 o1) /\
 Ec B 22 #[.agg #[.int .i64 n1, .int .i64 o1]] (retE (fun p1 q1 => ∃ r1 s1 t1, p1 = .tuple #[.agg #[.int .i64 r1, .int .i64 s1], .int .i64 t1] /\
 alW q1 (.cells #[.int .i64 0, .int .i64 0] 23) fun u1 v1 =>
 iP u1 0 fun w1 x1 => stC v1 w1 x1 (.int .i64 r1) fun y1 =>
 stC y1 w1 (x1 + 1) (.int .i64 s1) fun z1 =>
 iP e0 0 fun a2 b2 =>
∃ c2, cI z1 a2 b2 .i64 c2 /\
∃ d2, cell? z1 ⟨a2, b2 + 1, none⟩ = some (.int .i64 d2) /\
 iP u1 0 fun e2 f2 =>
∃ g2, cI z1 e2 f2 .i64 g2 /\
∃ i2, cell? z1 ⟨e2, f2 + 1, none⟩ = some (.int .i64 i2) /\
 Ec B 9 #[.agg #[.int .i64 c2, .int .i64 d2], .agg #[.int .i64 g2, .int .i64 i2]] (retE (fun j2 k2 => ∃ l2 m2 n2, j2 = .tuple #[.agg #[.int .i64 l2, .int .i64 m2], .int .i64 n2] /\
 iP j0 0 fun o2 p2 => stC k2 o2 p2 (.int .i64 l2) fun q2 =>
 stC q2 o2 (p2 + 1) (.int .i64 m2) fun r2 =>
 iP j0 0 fun s2 t2 =>
∃ u2, cI r2 s2 t2 .i64 u2 /\
∃ v2, cell? r2 ⟨s2, t2 + 1, none⟩ = some (.int .i64 v2) /\
 R (.returned (.tuple #[.agg #[.int .i64 u2, .int .i64 v2], .int .i64 n2])) r2)
(pk R)) z1)
(pk R)) w0))
(pk R)) u0
def F1026_L : Nat -> List (Nat × TypeDesc) := fun _ => []
theorem F1026_ok {B : World} {R : Ending -> Heap -> Prop} (a0 b0 c0 d0 : Int) {h : Heap} (H : F1026 B R a0 b0 c0 d0 h) : Ec B 12 #[.agg #[.int .i64 a0, .int .i64 b0], .agg #[.int .i64 c0, .int .i64 d0]] R h :=
 Ek Tryz.func12 (by kernel_rfl) (by kernel_rfl) (by kernel_rfl) F1026_L [] (by kernel_rfl) H

def F1027 (B : World) (R : Po) (a0 b0 : Int) (h : Heap) : Prop :=
 alW h (.cells #[.int .i64 a0, .int .i64 b0] 23) fun c0 d0 =>
 alW d0 (.cells #[.int .i64 0, .int .i64 0] 23) fun e0 f0 =>
 iP c0 0 fun g0 i0 =>
∃ j0, cI f0 g0 i0 .i64 j0 /\
∃ k0, cell? f0 ⟨g0, i0 + 1, none⟩ = some (.int .i64 k0) /\
 alW f0 (.cells #[.int .i64 j0, .int .i64 k0] 23) fun l0 m0 =>
 Ec B 36 #[.slice (some ⟨l0, 0, none⟩) 1 1] (retE (fun n0 o0 => ∃ p0, n0 = .int .i64 p0 /\
((!decide (p0 = (0 : Int))) = true ->
 iP 0 0 fun q0 r0 =>
∃ s0, cI o0 q0 r0 .i64 s0 /\
∃ t0, cell? o0 ⟨q0, r0 + 1, none⟩ = some (.int .i64 t0) /\
 iP e0 0 fun u0 v0 => stC o0 u0 v0 (.int .i64 s0) fun w0 =>
 stC w0 u0 (v0 + 1) (.int .i64 t0) fun x0 =>
 iP e0 0 fun y0 z0 =>
∃ a1, cI x0 y0 z0 .i64 a1 /\
∃ b1, cell? x0 ⟨y0, z0 + 1, none⟩ = some (.int .i64 b1) /\
 R (.returned (.tuple #[.agg #[.int .i64 a1, .int .i64 b1], .int .i64 p0])) x0) /\
((!decide (p0 = (0 : Int))) = false ->
 iP c0 0 fun c1 d1 =>
 isP (some ⟨c1, d1 + 1, none⟩) fun e1 f1 => ∃ g1, cI o0 e1 f1 .i64 g1 /\
 iP c0 0 fun i1 j1 =>
 iP i1 j1 fun k1 l1 => ∃ m1, cI o0 k1 l1 .i64 m1 /\
 Ec B 50 #[.int .i64 g1] (retE (fun n1 o1 => ∃ p1, n1 = .int .i64 p1 /\
 sameCells o0 o1 k1 l1 1 /\ Ec B 50 #[.int .i64 m1] (retE (fun q1 r1 => ∃ s1, q1 = .int .i64 s1 /\
 Ec B 38 #[.int .i64 p1, .int .i64 s1] (retE (fun t1 u1 => ∃ v1 w1 x1, t1 = .tuple #[.agg #[.int .i64 v1, .int .i64 w1], .int .i64 x1] /\
 iP e0 0 fun y1 z1 => stC u1 y1 z1 (.int .i64 v1) fun a2 =>
 stC a2 y1 (z1 + 1) (.int .i64 w1) fun b2 =>
 iP e0 0 fun c2 d2 =>
∃ e2, cI b2 c2 d2 .i64 e2 /\
∃ f2, cell? b2 ⟨c2, d2 + 1, none⟩ = some (.int .i64 f2) /\
 R (.returned (.tuple #[.agg #[.int .i64 e2, .int .i64 f2], .int .i64 x1])) b2)
(fun _ _ => False)) r1)
(fun _ _ => False)) o1)
(fun _ _ => False)) o0))
(pk R)) m0
def F1027_L : Nat -> List (Nat × TypeDesc) := fun _ => []
theorem F1027_ok {B : World} {R : Ending -> Heap -> Prop} (a0 b0 : Int) {h : Heap} (H : F1027 B R a0 b0 h) : Ec B 22 #[.agg #[.int .i64 a0, .int .i64 b0]] R h :=
 Ek Tryz.func22 (by kernel_rfl) (by kernel_rfl) (by kernel_rfl) F1027_L [] (by kernel_rfl) H
end Go.Proofs
