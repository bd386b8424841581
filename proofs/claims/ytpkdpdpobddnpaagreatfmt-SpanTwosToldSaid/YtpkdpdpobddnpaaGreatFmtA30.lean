import Derived.Test.YtpkdpdpobddnpaaGreatFmtA03
/- Here stand lemmas: span: what the functions come to (written by program). -/
set_option linter.unusedVariables false
namespace Go.Proofs
open Go Go.Eng
def F1011_j44 (B : World) (R : Po) (a0 : Bool) (b0 : Heap) : Prop :=
 R (.returned (.bool a0)) b0
def F1011_j40 (B : World) (R : Po) (c0 : Int) (d0 : Bool) (e0 : Heap) : Prop :=
(d0 = true ->
 F1011_j44 B R (decide (c0 = (0 : Int))) e0) /\
(d0 = false ->
 F1011_j44 B R false e0)
def F1011_j35 (B : World) (R : Po) (f0 : Bool) (g0 : Int) (i0 : Bool) (j0 : Heap) : Prop :=
(i0 = true ->
 F1011_j40 B R g0 f0 j0) /\
(i0 = false ->
 F1011_j40 B R g0 false j0)
def F1011_j29 (B : World) (R : Po) (k0 : Int) (l0 : Bool) (m0 : Int) (n0 : Bool) (o0 : Heap) : Prop :=
(n0 = true ->
 F1011_j35 B R l0 m0 (decide (k0 = (1 : Int))) o0) /\
(n0 = false ->
 F1011_j35 B R l0 m0 false o0)
def F1011 (B : World) (R : Po) (h : Heap) : Prop :=
 Ec B 9 #[.agg #[.int .i64 (4607182418800017408 : Int), .int .i64 (4607182418800017408 : Int)], .agg #[.int .i64 (4607182418800017408 : Int), .int .i64 (4611686018427387904 : Int)]] (retE (fun p0 q0 => ∃ r0 s0 t0, p0 = .tuple #[.agg #[.int .i64 r0, .int .i64 s0], .int .i64 t0] /\
 alW q0 (.cells #[.int .i64 0, .int .i64 0] 23) fun u0 v0 =>
 iP u0 0 fun w0 x0 => stC v0 w0 x0 (.int .i64 r0) fun y0 =>
 stC y0 w0 (x0 + 1) (.int .i64 s0) fun z0 =>
 iP u0 0 fun a1 b1 =>
∃ c1, cI z0 a1 b1 .i64 c1 /\
∃ d1, cell? z0 ⟨a1, b1 + 1, none⟩ = some (.int .i64 d1) /\
 Ec B 10 #[.agg #[.int .i64 c1, .int .i64 d1]] (retE (fun e1 f1 => ∃ g1 i1 j1, e1 = .tuple #[.int .i64 g1, .bool i1, .int .i64 j1] /\
((decide (t0 = (0 : Int))) = true ->
 iP u0 0 fun k1 l1 =>
∃ m1, cI f1 k1 l1 .i64 m1 /\
∃ n1, cell? f1 ⟨k1, l1 + 1, none⟩ = some (.int .i64 n1) /\
 F1011_j29 B R g1 i1 j1 (decide (m1 = (4611686018427387904 : Int)) && decide (n1 = (4613937818241073152 : Int))) f1) /\
((decide (t0 = (0 : Int))) = false ->
 F1011_j29 B R g1 i1 j1 false f1))
(pk R)) z0)
(pk R)) h
def F1011_L : Nat -> List (Nat × TypeDesc) := fun _ => []
theorem F1011_ok {B : World} {R : Ending -> Heap -> Prop} {h : Heap} (H : F1011 B R h) : Ec B 6 #[] R h :=
 Ek Tryz.func6 (by kernel_rfl) (by kernel_rfl) (by kernel_rfl) F1011_L [] (by kernel_rfl) H

def F1013_j6 (B : World) (R : Po) (a0 : OA) (b0 c0 : Nat) (d0 : Heap) : Prop :=
((FloatKind.f64.format.order b0 c0 == some .gt) = true ->
 iP 0 0 fun e0 f0 =>
∃ g0, cI d0 e0 f0 .i64 g0 /\
∃ i0, cell? d0 ⟨e0, f0 + 1, none⟩ = some (.int .i64 i0) /\
 isP a0 fun j0 k0 => stC d0 j0 k0 (.int .i64 g0) fun l0 =>
 stC l0 j0 (k0 + 1) (.int .i64 i0) fun m0 =>
 isP a0 fun n0 o0 =>
∃ p0, cI m0 n0 o0 .i64 p0 /\
∃ q0, cell? m0 ⟨n0, o0 + 1, none⟩ = some (.int .i64 q0) /\
 R (.returned (.tuple #[.agg #[.int .i64 p0, .int .i64 q0], .bool false, .int .i64 (0 : Int)])) m0) /\
((FloatKind.f64.format.order b0 c0 == some .gt) = false ->
 Ec B 45 #[.float .f64 b0] (retE (fun r0 s0 => ∃ t0, r0 = .int .i64 t0 /\
 Ec B 45 #[.float .f64 c0] (retE (fun u0 v0 => ∃ w0, u0 = .int .i64 w0 /\
 Ec B 38 #[.int .i64 t0, .int .i64 w0] (retE (fun x0 y0 => ∃ z0 a1 b1, x0 = .tuple #[.agg #[.int .i64 z0, .int .i64 a1], .int .i64 b1] /\
 alW y0 (.cells #[.int .i64 0, .int .i64 0] 23) fun c1 d1 =>
 iP c1 0 fun e1 f1 => stC d1 e1 f1 (.int .i64 z0) fun g1 =>
 stC g1 e1 (f1 + 1) (.int .i64 a1) fun i1 =>
 iP c1 0 fun j1 k1 =>
∃ l1, cI i1 j1 k1 .i64 l1 /\
∃ m1, cell? i1 ⟨j1, k1 + 1, none⟩ = some (.int .i64 m1) /\
 isP a0 fun n1 o1 => stC i1 n1 o1 (.int .i64 l1) fun p1 =>
 stC p1 n1 (o1 + 1) (.int .i64 m1) fun q1 =>
 isP a0 fun r1 s1 =>
∃ t1, cI q1 r1 s1 .i64 t1 /\
∃ u1, cell? q1 ⟨r1, s1 + 1, none⟩ = some (.int .i64 u1) /\
 R (.returned (.tuple #[.agg #[.int .i64 t1, .int .i64 u1], .bool true, .int .i64 b1])) q1)
(pk R)) v0)
(pk R)) s0)
(pk R)) d0)
def F1013_j5 (B : World) (R : Po) (v1 w1 x1 : OA) (y1 : Nat) (z1 : Heap) : Prop :=
 isP v1 fun a2 b2 =>
 isP (some ⟨a2, b2 + 1, none⟩) fun c2 d2 => ∃ e2, cI z1 c2 d2 .i64 e2 /\
 isP w1 fun f2 g2 =>
 isP (some ⟨f2, g2 + 1, none⟩) fun i2 j2 => ∃ k2, cI z1 i2 j2 .i64 k2 /\
 Ec B 39 #[.int .i64 e2] (retE (fun l2 m2 => ∃ n2, l2 = .float .f64 n2 /\
 sameCells z1 m2 i2 j2 1 /\ Ec B 39 #[.int .i64 k2] (retE (fun o2 p2 => ∃ q2, o2 = .float .f64 q2 /\
∃ r2, FloatKind.f64.format.order n2 q2 = some r2 /\
 F1013_j6 B R x1 y1 (minF .f64 n2 q2 r2) p2)
(fun _ _ => False)) m2)
(fun _ _ => False)) z1
def F1013 (B : World) (R : Po) (s2 t2 u2 v2 : Int) (h : Heap) : Prop :=
 alW h (.cells #[.int .i64 s2, .int .i64 t2] 23) fun w2 x2 =>
 alW x2 (.cells #[.int .i64 u2, .int .i64 v2] 23) fun y2 z2 =>
 alW z2 (.cells #[.int .i64 0, .int .i64 0] 23) fun a3 b3 =>
 iP w2 0 fun c3 d3 =>
∃ e3, cI b3 c3 d3 .i64 e3 /\
∃ f3, cell? b3 ⟨c3, d3 + 1, none⟩ = some (.int .i64 f3) /\
 iP y2 0 fun g3 i3 =>
∃ j3, cI b3 g3 i3 .i64 j3 /\
∃ k3, cell? b3 ⟨g3, i3 + 1, none⟩ = some (.int .i64 k3) /\
 alW b3 (.cells #[.int .i64 e3, .int .i64 f3, .int .i64 j3, .int .i64 k3] 23) fun l3 m3 =>
 Ec B 36 #[.slice (some ⟨l3, 0, none⟩) 2 2] (retE (fun n3 o3 => ∃ p3, n3 = .int .i64 p3 /\
((!decide (p3 = (0 : Int))) = true ->
 iP 0 0 fun q3 r3 =>
∃ s3, cI o3 q3 r3 .i64 s3 /\
∃ t3, cell? o3 ⟨q3, r3 + 1, none⟩ = some (.int .i64 t3) /\
 iP a3 0 fun u3 v3 => stC o3 u3 v3 (.int .i64 s3) fun w3 =>
 stC w3 u3 (v3 + 1) (.int .i64 t3) fun x3 =>
 iP a3 0 fun y3 z3 =>
∃ a4, cI x3 y3 z3 .i64 a4 /\
∃ b4, cell? x3 ⟨y3, z3 + 1, none⟩ = some (.int .i64 b4) /\
 R (.returned (.tuple #[.agg #[.int .i64 a4, .int .i64 b4], .bool false, .int .i64 p3])) x3) /\
((!decide (p3 = (0 : Int))) = false ->
 iP w2 0 fun c4 d4 =>
 iP c4 d4 fun e4 f4 => ∃ g4, cI o3 e4 f4 .i64 g4 /\
 iP y2 0 fun i4 j4 =>
 iP i4 j4 fun k4 l4 => ∃ m4, cI o3 k4 l4 .i64 m4 /\
 Ec B 39 #[.int .i64 g4] (retE (fun n4 o4 => ∃ p4, n4 = .float .f64 p4 /\
 sameCells o3 o4 k4 l4 1 /\ Ec B 39 #[.int .i64 m4] (retE (fun q4 r4 => ∃ s4, q4 = .float .f64 s4 /\
∃ t4, FloatKind.f64.format.order p4 s4 = some t4 /\
 F1013_j5 B R (some ⟨w2, 0, none⟩) (some ⟨y2, 0, none⟩) (some ⟨a3, 0, none⟩) (maxF .f64 p4 s4 t4) r4)
(fun _ _ => False)) o4)
(fun _ _ => False)) o3))
(pk R)) m3
def F1013_L : Nat -> List (Nat × TypeDesc) := fun _ => []
def F1013_J (B : World) (R : Po) : Nat -> Option JT := fun i => match i with
  | 5 => some ⟨[(2, .pointer 0), (3, .pointer 0), (4, .pointer 0), (8, .float .f64)], fun s v h => match s, v with
    | [], [.pointer v1, .pointer w1, .pointer x1, .float _ y1] => F1013_j5 B R v1 w1 x1 y1 h
    | _, _ => False⟩
  | 6 => some ⟨[(4, .pointer 0), (8, .float .f64), (9, .float .f64)], fun s v h => match s, v with
    | [], [.pointer a0, .float _ b0, .float _ c0] => F1013_j6 B R a0 b0 c0 h
    | _, _ => False⟩
  | _ => none
theorem F1013_ok {B : World} {R : Ending -> Heap -> Prop} (s2 t2 u2 v2 : Int) {h : Heap} (H : F1013 B R s2 t2 u2 v2 h) : Ec B 14 #[.agg #[.int .i64 s2, .int .i64 t2], .agg #[.int .i64 u2, .int .i64 v2]] R h :=
 Ej Tryz.func14 (by kernel_rfl) (by kernel_rfl) (by kernel_rfl) F1013_L (F1013_J B R) [] (by kernel_rfl) (by kernel_rfl) H

def F1014_j42 (B : World) (R : Po) (a0 : Bool) (b0 : Heap) : Prop :=
 R (.returned (.bool a0)) b0
def F1014_j33 (B : World) (R : Po) (c0 : Nat) (d0 : Bool) (e0 : Heap) : Prop :=
(d0 = true ->
 Ec B 55 #[.float .f64 c0, .int .i64 (-1 : Int)] (retE (fun f0 g0 => ∃ i0, f0 = .bool i0 /\
 F1014_j42 B R (!i0) g0)
(pk R)) e0) /\
(d0 = false ->
 F1014_j42 B R false e0)
def F1014_j2 (B : World) (R : Po) (j0 k0 : Nat) (l0 : Heap) : Prop :=
((FloatKind.f64.format.order j0 k0 == some .lt || FloatKind.f64.format.order j0 k0 == some .eq) = true ->
 Ec B 55 #[.float .f64 j0, .int .i64 (1 : Int)] (retE (fun m0 n0 => ∃ o0, m0 = .bool o0 /\
 F1014_j33 B R k0 (!o0) n0)
(pk R)) l0) /\
((FloatKind.f64.format.order j0 k0 == some .lt || FloatKind.f64.format.order j0 k0 == some .eq) = false ->
 F1014_j33 B R k0 false l0)
def F1014 (B : World) (R : Po) (p0 q0 : Int) (h : Heap) : Prop :=
 alW h (.cells #[.int .i64 p0, .int .i64 q0] 23) fun r0 s0 =>
 iP r0 0 fun t0 u0 =>
 iP t0 u0 fun v0 w0 => ∃ x0, cI s0 v0 w0 .i64 x0 /\
 iP r0 0 fun y0 z0 =>
 isP (some ⟨y0, z0 + 1, none⟩) fun a1 b1 => ∃ c1, cI s0 a1 b1 .i64 c1 /\
 Ec B 39 #[.int .i64 x0] (retE (fun d1 e1 => ∃ f1, d1 = .float .f64 f1 /\
 sameCells s0 e1 a1 b1 1 /\ Ec B 39 #[.int .i64 c1] (retE (fun g1 i1 => ∃ j1, g1 = .float .f64 j1 /\
 F1014_j2 B R f1 j1 i1)
(fun _ _ => False)) e1)
(fun _ _ => False)) s0
def F1014_L : Nat -> List (Nat × TypeDesc) := fun _ => []
def F1014_J (B : World) (R : Po) : Nat -> Option JT := fun i => match i with
  | 2 => some ⟨[(3, .float .f64), (4, .float .f64)], fun s v h => match s, v with
    | [], [.float _ j0, .float _ k0] => F1014_j2 B R j0 k0 h
    | _, _ => False⟩
  | _ => none
theorem F1014_ok {B : World} {R : Ending -> Heap -> Prop} (p0 q0 : Int) {h : Heap} (H : F1014 B R p0 q0 h) : Ec B 27 #[.agg #[.int .i64 p0, .int .i64 q0]] R h :=
 Ej Tryz.func27 (by kernel_rfl) (by kernel_rfl) (by kernel_rfl) F1014_L (F1014_J B R) [] (by kernel_rfl) (by kernel_rfl) H

def F1016 (B : World) (R : Po) (a0 b0 c0 d0 : Int) (h : Heap) : Prop :=
 alW h (.cells #[.int .i64 a0, .int .i64 b0] 23) fun e0 f0 =>
 alW f0 (.cells #[.int .i64 c0, .int .i64 d0] 23) fun g0 i0 =>
 alW i0 (.cells #[.int .i64 0, .int .i64 0] 23) fun j0 k0 =>
 iP e0 0 fun l0 m0 =>
∃ n0, cI k0 l0 m0 .i64 n0 /\
∃ o0, cell? k0 ⟨l0, m0 + 1, none⟩ = some (.int .i64 o0) /\
 iP g0 0 fun p0 q0 =>
∃ r0, cI k0 p0 q0 .i64 r0 /\
∃ s0, cell? k0 ⟨p0, q0 + 1, none⟩ = some (.int .i64 s0) /\
 alW k0 (.cells #[.int .i64 n0, .int .i64 o0, .int .i64 r0, .int .i64 s0] 23) fun t0 u0 =>
 Ec B 36 #[.slice (some ⟨t0, 0, none⟩) 2 2] (retE (fun v0 w0 => ∃ x0, v0 = .int .i64 x0 /\
((!decide (x0 = (0 : Int))) = true ->
 iP 0 0 fun y0 z0 =>
∃ a1, cI w0 y0 z0 .i64 a1 /\
∃ b1, cell? w0 ⟨y0, z0 + 1, none⟩ = some (.int .i64 b1) /\
 iP j0 0 fun c1 d1 => stC w0 c1 d1 (.int .i64 a1) fun e1 =>
 stC e1 c1 (d1 + 1) (.int .i64 b1) fun f1 =>
 iP j0 0 fun g1 i1 =>
∃ j1, cI f1 g1 i1 .i64 j1 /\
∃ k1, cell? f1 ⟨g1, i1 + 1, none⟩ = some (.int .i64 k1) /\
 R (.returned (.tuple #[.agg #[.int .i64 j1, .int .i64 k1], .int .i64 x0])) f1) /\
((!decide (x0 = (0 : Int))) = false ->
 iP e0 0 fun l1 m1 =>
 iP l1 m1 fun n1 o1 => ∃ p1, cI w0 n1 o1 .i64 p1 /\
 iP g0 0 fun q1 r1 =>
 iP q1 r1 fun s1 t1 => ∃ u1, cI w0 s1 t1 .i64 u1 /\
 iP e0 0 fun v1 w1 =>
 isP (some ⟨v1, w1 + 1, none⟩) fun x1 y1 => ∃ z1, cI w0 x1 y1 .i64 z1 /\
 iP g0 0 fun a2 b2 =>
 isP (some ⟨a2, b2 + 1, none⟩) fun c2 d2 => ∃ e2, cI w0 c2 d2 .i64 e2 /\
 Ec B 39 #[.int .i64 p1] (retE (fun f2 g2 => ∃ i2, f2 = .float .f64 i2 /\
 sameCells w0 g2 c2 d2 1 /\ sameCells w0 g2 x1 y1 1 /\ sameCells w0 g2 s1 t1 1 /\ Ec B 39 #[.int .i64 u1] (retE (fun j2 k2 => ∃ l2, j2 = .float .f64 l2 /\
 sameCells g2 k2 c2 d2 1 /\ sameCells g2 k2 x1 y1 1 /\ ∃ m2, FloatKind.f64.format.order i2 l2 = some m2 /\
 Ec B 45 #[.float .f64 (minF .f64 i2 l2 m2)] (retE (fun n2 o2 => ∃ p2, n2 = .int .i64 p2 /\
 sameCells k2 o2 c2 d2 1 /\ sameCells k2 o2 x1 y1 1 /\ Ec B 39 #[.int .i64 z1] (retE (fun q2 r2 => ∃ s2, q2 = .float .f64 s2 /\
 sameCells o2 r2 c2 d2 1 /\ Ec B 39 #[.int .i64 e2] (retE (fun t2 u2 => ∃ v2, t2 = .float .f64 v2 /\
∃ w2, FloatKind.f64.format.order s2 v2 = some w2 /\
 Ec B 45 #[.float .f64 (maxF .f64 s2 v2 w2)] (retE (fun x2 y2 => ∃ z2, x2 = .int .i64 z2 /\
 Ec B 38 #[.int .i64 p2, .int .i64 z2] (retE (fun a3 b3 => ∃ c3 d3 e3, a3 = .tuple #[.agg #[.int .i64 c3, .int .i64 d3], .int .i64 e3] /\
 iP j0 0 fun f3 g3 => stC b3 f3 g3 (.int .i64 c3) fun i3 =>
 stC i3 f3 (g3 + 1) (.int .i64 d3) fun j3 =>
 iP j0 0 fun k3 l3 =>
∃ m3, cI j3 k3 l3 .i64 m3 /\
∃ n3, cell? j3 ⟨k3, l3 + 1, none⟩ = some (.int .i64 n3) /\
 R (.returned (.tuple #[.agg #[.int .i64 m3, .int .i64 n3], .int .i64 e3])) j3)
(fun _ _ => False)) y2)
(fun _ _ => False)) u2)
(fun _ _ => False)) r2)
(fun _ _ => False)) o2)
(fun _ _ => False)) k2)
(fun _ _ => False)) g2)
(fun _ _ => False)) w0))
(pk R)) u0
def F1016_L : Nat -> List (Nat × TypeDesc) := fun _ => []
theorem F1016_ok {B : World} {R : Ending -> Heap -> Prop} (a0 b0 c0 d0 : Int) {h : Heap} (H : F1016 B R a0 b0 c0 d0 h) : Ec B 15 #[.agg #[.int .i64 a0, .int .i64 b0], .agg #[.int .i64 c0, .int .i64 d0]] R h :=
 Ek Tryz.func15 (by kernel_rfl) (by kernel_rfl) (by kernel_rfl) F1016_L [] (by kernel_rfl) H

def F1019 (B : World) (R : Po) (a0 b0 c0 d0 : Int) (h : Heap) : Prop :=
 alW h (.cells #[.int .i64 a0, .int .i64 b0] 23) fun e0 f0 =>
 alW f0 (.cells #[.int .i64 c0, .int .i64 d0] 23) fun g0 i0 =>
 alW i0 (.cells #[.int .i64 0, .int .i64 0] 23) fun j0 k0 =>
 iP e0 0 fun l0 m0 =>
∃ n0, cI k0 l0 m0 .i64 n0 /\
∃ o0, cell? k0 ⟨l0, m0 + 1, none⟩ = some (.int .i64 o0) /\
 iP g0 0 fun p0 q0 =>
∃ r0, cI k0 p0 q0 .i64 r0 /\
∃ s0, cell? k0 ⟨p0, q0 + 1, none⟩ = some (.int .i64 s0) /\
 alW k0 (.cells #[.int .i64 n0, .int .i64 o0, .int .i64 r0, .int .i64 s0] 23) fun t0 u0 =>
 Ec B 36 #[.slice (some ⟨t0, 0, none⟩) 2 2] (retE (fun v0 w0 => ∃ x0, v0 = .int .i64 x0 /\
((!decide (x0 = (0 : Int))) = true ->
 iP 0 0 fun y0 z0 =>
∃ a1, cI w0 y0 z0 .i64 a1 /\
∃ b1, cell? w0 ⟨y0, z0 + 1, none⟩ = some (.int .i64 b1) /\
 iP j0 0 fun c1 d1 => stC w0 c1 d1 (.int .i64 a1) fun e1 =>
 stC e1 c1 (d1 + 1) (.int .i64 b1) fun f1 =>
 iP j0 0 fun g1 i1 =>
∃ j1, cI f1 g1 i1 .i64 j1 /\
∃ k1, cell? f1 ⟨g1, i1 + 1, none⟩ = some (.int .i64 k1) /\
 R (.returned (.tuple #[.agg #[.int .i64 j1, .int .i64 k1], .int .i64 x0])) f1) /\
((!decide (x0 = (0 : Int))) = false ->
 iP e0 0 fun l1 m1 =>
 iP l1 m1 fun n1 o1 => ∃ p1, cI w0 n1 o1 .i64 p1 /\
 iP g0 0 fun q1 r1 =>
 iP q1 r1 fun s1 t1 => ∃ u1, cI w0 s1 t1 .i64 u1 /\
 Ec B 37 #[.int .i64 p1, .int .i64 u1, .int .i64 (1 : Int)] (retE (fun v1 w1 => ∃ x1 y1, v1 = .tuple #[.int .i64 x1, .int .i64 y1] /\
 iP e0 0 fun z1 a2 =>
 isP (some ⟨z1, a2 + 1, none⟩) fun b2 c2 => ∃ d2, cI w1 b2 c2 .i64 d2 /\
 iP g0 0 fun e2 f2 =>
 isP (some ⟨e2, f2 + 1, none⟩) fun g2 i2 => ∃ j2, cI w1 g2 i2 .i64 j2 /\
 Ec B 37 #[.int .i64 d2, .int .i64 j2, .int .i64 (2 : Int)] (retE (fun k2 l2 => ∃ m2 n2, k2 = .tuple #[.int .i64 m2, .int .i64 n2] /\
 Ec B 38 #[.int .i64 x1, .int .i64 m2] (retE (fun o2 p2 => ∃ q2 r2 s2, o2 = .tuple #[.agg #[.int .i64 q2, .int .i64 r2], .int .i64 s2] /\
 iP j0 0 fun t2 u2 => stC p2 t2 u2 (.int .i64 q2) fun v2 =>
 stC v2 t2 (u2 + 1) (.int .i64 r2) fun w2 =>
 iP j0 0 fun x2 y2 =>
∃ z2, cI w2 x2 y2 .i64 z2 /\
∃ a3, cell? w2 ⟨x2, y2 + 1, none⟩ = some (.int .i64 a3) /\
 R (.returned (.tuple #[.agg #[.int .i64 z2, .int .i64 a3], .int .i64 s2])) w2)
(pk R)) l2)
(pk R)) w1)
(pk R)) w0))
(pk R)) u0
def F1019_L : Nat -> List (Nat × TypeDesc) := fun _ => []
theorem F1019_ok {B : World} {R : Ending -> Heap -> Prop} (a0 b0 c0 d0 : Int) {h : Heap} (H : F1019 B R a0 b0 c0 d0 h) : Ec B 9 #[.agg #[.int .i64 a0, .int .i64 b0], .agg #[.int .i64 c0, .int .i64 d0]] R h :=
 Ek Tryz.func9 (by kernel_rfl) (by kernel_rfl) (by kernel_rfl) F1019_L [] (by kernel_rfl) H

def F1029 (B : World) (R : Po) (a0 b0 : Int) (h : Heap) : Prop :=
 alW h (.cells #[.int .i64 a0, .int .i64 b0] 23) fun c0 d0 =>
 iP c0 0 fun e0 f0 =>
∃ g0, cI d0 e0 f0 .i64 g0 /\
∃ i0, cell? d0 ⟨e0, f0 + 1, none⟩ = some (.int .i64 i0) /\
 alW d0 (.cells #[.int .i64 g0, .int .i64 i0] 23) fun j0 k0 =>
 Ec B 36 #[.slice (some ⟨j0, 0, none⟩) 1 1] (retE (fun l0 m0 => ∃ n0, l0 = .int .i64 n0 /\
((!decide (n0 = (0 : Int))) = true ->
 R (.returned (.tuple #[.int .i64 (0 : Int), .bool false, .int .i64 n0])) m0) /\
((!decide (n0 = (0 : Int))) = false ->
 iP c0 0 fun o0 p0 =>
 iP o0 p0 fun q0 r0 => ∃ s0, cI m0 q0 r0 .i64 s0 /\
 iP c0 0 fun t0 u0 =>
 isP (some ⟨t0, u0 + 1, none⟩) fun v0 w0 => ∃ x0, cI m0 v0 w0 .i64 x0 /\
 Ec B 38 #[.int .i64 s0, .int .i64 x0] (retE (fun y0 z0 => ∃ a1 b1 c1, y0 = .tuple #[.agg #[.int .i64 a1, .int .i64 b1], .int .i64 c1] /\
 alW z0 (.cells #[.int .i64 0, .int .i64 0] 23) fun d1 e1 =>
 iP d1 0 fun f1 g1 => stC e1 f1 g1 (.int .i64 a1) fun i1 =>
 stC i1 f1 (g1 + 1) (.int .i64 b1) fun j1 =>
 iP d1 0 fun k1 l1 =>
 iP k1 l1 fun m1 n1 => ∃ o1, cI j1 m1 n1 .i64 o1 /\
 Ec B 39 #[.int .i64 o1] (retE (fun p1 q1 => ∃ r1, p1 = .float .f64 r1 /\
((FloatKind.f64.format.order r1 0 == some .gt) = true ->
 R (.returned (.tuple #[.int .i64 (1 : Int), .bool true, .int .i64 (0 : Int)])) q1) /\
((FloatKind.f64.format.order r1 0 == some .gt) = false ->
 iP d1 0 fun s1 t1 =>
 isP (some ⟨s1, t1 + 1, none⟩) fun u1 v1 => ∃ w1, cI q1 u1 v1 .i64 w1 /\
 Ec B 39 #[.int .i64 w1] (retE (fun x1 y1 => ∃ z1, x1 = .float .f64 z1 /\
((FloatKind.f64.format.order z1 0 == some .lt) = true ->
 R (.returned (.tuple #[.int .i64 (-1 : Int), .bool true, .int .i64 (0 : Int)])) y1) /\
((FloatKind.f64.format.order z1 0 == some .lt) = false ->
 iP d1 0 fun a2 b2 =>
∃ c2, cI y1 a2 b2 .i64 c2 /\
∃ d2, cell? y1 ⟨a2, b2 + 1, none⟩ = some (.int .i64 d2) /\
 iP 0 0 fun e2 f2 =>
∃ g2, cI y1 e2 f2 .i64 g2 /\
∃ i2, cell? y1 ⟨e2, f2 + 1, none⟩ = some (.int .i64 i2) /\
 R (.returned (.tuple #[.int .i64 (0 : Int), .bool (decide (c2 = g2) && decide (d2 = i2)), .int .i64 (0 : Int)])) y1))
(pk R)) q1))
(pk R)) j1)
(pk R)) m0))
(pk R)) k0
def F1029_L : Nat -> List (Nat × TypeDesc) := fun _ => []
theorem F1029_ok {B : World} {R : Ending -> Heap -> Prop} (a0 b0 : Int) {h : Heap} (H : F1029 B R a0 b0 h) : Ec B 10 #[.agg #[.int .i64 a0, .int .i64 b0]] R h :=
 Ek Tryz.func10 (by kernel_rfl) (by kernel_rfl) (by kernel_rfl) F1029_L [] (by kernel_rfl) H

def F1040 (B : World) (R : Po) (a0 : OA) (b0 c0 : Nat) (h : Heap) : Prop :=
 ∃ d0 : Lp, ∃ e0, d0 e0 [.slice a0 b0 c0, .int .i64 (b0 : Int), .int .i64 (0 : Int)] h /\
∀ (f0 : Nat) (g0 : Heap) (i0 : OA) (j0 k0 : Nat) (l0 m0 : Int), d0 f0 [.slice i0 j0 k0, .int .i64 l0, .int .i64 m0] g0 -> ∀ _r : Nat -> Value,
((decide (m0 < l0)) = true ->
 ixW i0 j0 m0 2 fun n0 o0 =>
 iP n0 o0 fun p0 q0 =>
∃ r0, cI g0 p0 q0 .i64 r0 /\
∃ s0, cell? g0 ⟨p0, q0 + 1, none⟩ = some (.int .i64 s0) /\
 alW g0 (.cells #[.int .i64 0, .int .i64 0] 23) fun t0 u0 =>
 iP t0 0 fun v0 w0 => stC u0 v0 w0 (.int .i64 r0) fun x0 =>
 stC x0 v0 (w0 + 1) (.int .i64 s0) fun y0 =>
 iP t0 0 fun z0 a1 =>
∃ b1, cI y0 z0 a1 .i64 b1 /\
∃ c1, cell? y0 ⟨z0, a1 + 1, none⟩ = some (.int .i64 c1) /\
 Ec B 27 #[.agg #[.int .i64 b1, .int .i64 c1]] (retE (fun d1 e1 => ∃ f1, d1 = .bool f1 /\
((!f1) = true ->
 R (.returned (.int .i64 (1 : Int))) e1) /\
((!f1) = false ->
 ∃ g1, g1 < f0 /\ d0 g1 [.slice i0 j0 k0, .int .i64 l0, .int .i64 (IntKind.i64.wrap (m0 + (1 : Int)))] e1))
(pk R)) y0) /\
((decide (m0 < l0)) = false ->
 R (.returned (.int .i64 (0 : Int))) g0)
def F1040_L : Nat -> List (Nat × TypeDesc) := fun i => match i with
  | 2 => [(5, .slice 0), (6, .int .i64), (7, .int .i64)]
  | _ => []
theorem F1040_ok {B : World} {R : Ending -> Heap -> Prop} (a0 : OA) (b0 c0 : Nat) {h : Heap} (H : F1040 B R a0 b0 c0 h) : Ec B 36 #[.slice a0 b0 c0] R h :=
 Ek Tryz.func36 (by kernel_rfl) (by kernel_rfl) (by kernel_rfl) F1040_L [] (by kernel_rfl) H

def F1041 (B : World) (R : Po) (a0 b0 : Int) (h : Heap) : Prop :=
 alW h (.cells #[.int .i64 0, .int .i64 0] 23) fun c0 d0 =>
 Ec B 64 #[.int .i64 a0] (retE (fun e0 f0 => ∃ g0, e0 = .int .i64 g0 /\
 Ec B 64 #[.int .i64 b0] (retE (fun i0 j0 => ∃ k0, i0 = .int .i64 k0 /\
 iP c0 0 fun l0 m0 => stC j0 l0 m0 (.int .i64 g0) fun n0 =>
 stC n0 l0 (m0 + 1) (.int .i64 k0) fun o0 =>
 iP c0 0 fun p0 q0 =>
∃ r0, cI o0 p0 q0 .i64 r0 /\
∃ s0, cell? o0 ⟨p0, q0 + 1, none⟩ = some (.int .i64 s0) /\
 R (.returned (.tuple #[.agg #[.int .i64 r0, .int .i64 s0], .int .i64 (0 : Int)])) o0)
(pk R)) f0)
(pk R)) d0
def F1041_L : Nat -> List (Nat × TypeDesc) := fun _ => []
theorem F1041_ok {B : World} {R : Ending -> Heap -> Prop} (a0 b0 : Int) {h : Heap} (H : F1041 B R a0 b0 h) : Ec B 38 #[.int .i64 a0, .int .i64 b0] R h :=
 Ek Tryz.func38 (by kernel_rfl) (by kernel_rfl) (by kernel_rfl) F1041_L [] (by kernel_rfl) H

def F1059 (B : World) (R : Po) (a0 : Int) (h : Heap) : Prop :=
 Ec B 39 #[.int .i64 a0] (retE (fun b0 c0 => ∃ d0, b0 = .float .f64 d0 /\
 flW .f64 (FloatKind.f64.format.add d0 0) d0 0 fun e0 =>
 Ec B 45 #[.float .f64 e0] (retE (fun f0 g0 => ∃ i0, f0 = .int .i64 i0 /\
 R (.returned (.int .i64 i0)) g0)
(pk R)) c0)
(pk R)) h
def F1059_L : Nat -> List (Nat × TypeDesc) := fun _ => []
theorem F1059_ok {B : World} {R : Ending -> Heap -> Prop} (a0 : Int) {h : Heap} (H : F1059 B R a0 h) : Ec B 64 #[.int .i64 a0] R h :=
 Ek Tryz.func64 (by kernel_rfl) (by kernel_rfl) (by kernel_rfl) F1059_L [] (by kernel_rfl) H
end Go.Proofs
