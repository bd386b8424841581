import Derived.Test.YtpkdpdpobddnpaaGreatFmtA25
import Derived.Test.YtpkdpdpobddnpaaGreatFmtA22
import Derived.WalkKit
import Derived.Test.YtpkdpdpobddnpaaGreatFmtA07
import Derived.Test.YtpkdpdpobddnpaaGreatFmtA35
/- Here stand lemmas: products of long numbers. -/
set_option linter.unusedVariables false
set_option linter.unusedVariables false
namespace Go.Eng
open Go
theorem Wrote.over {k : IntKind} {h0 h h2 : Heap} {b o i : Nat} {zs ws : List Nat} (W : Wrote k h0 h b o zs) (W2 : Wrote k h h2 b (o + i) ws) (hi : i + ws.length <= zs.length) :
  Wrote k h0 h2 b o (zs.take i ++ ws ++ zs.drop (i + ws.length)) := by
 obtain ⟨c0, c1, e, a1, a2, a3, a4, a5⟩ := W.blk
 obtain ⟨c1', c2, e', b1, b2, b3, b4, b5⟩ := W2.blk
 rw [a2] at b1
 cases b1
 have hl : (zs.take i ++ ws ++ zs.drop (i + ws.length)).length = zs.length := by
  simp only [List.length_append, List.length_take, List.length_drop]; omega
 refine ⟨W2.size.trans W.size, fun x hx => (W2.same x hx).trans (W.same x hx), c0, c2, e, a1, b2, by omega, fun j hj => ?_, fun j hj => ?_⟩
 ·rw [hl] at hj
  rw [b4 j (by omega), a4 j hj]
 ·have hj2 : j < zs.length := by omega
  have ht : (zs.take i).length = i := by rw [List.length_take]; omega
  by_cases c : j < i
  ·rw [b4 (o + j) (by omega), a5 j hj2, List.getElem_append_left (by simp only [List.length_append]; omega), List.getElem_append_left (by omega), List.getElem_take]
  ·by_cases d : j < i + ws.length
   ·have := b5 (j - i) (by omega)
    rw [show o + i + (j - i) = o + j by omega] at this
    rw [this, List.getElem_append_left (by simp only [List.length_append]; omega), List.getElem_append_right (by omega)]
    simp only [ht]
   ·rw [b4 (o + j) (by omega), a5 j hj2, List.getElem_append_right (by simp only [List.length_append]; omega), List.getElem_drop]
    have e : i + ws.length + (j - (zs.take i ++ ws).length) = j := by simp only [List.length_append, ht]; omega
    simp only [e]
theorem wrote_row {k : IntKind} {b : Nat} {ws : List Nat} : ∀ {h : Heap} {o : Nat} {cs : Array Value}, Own h b cs -> o + ws.length <= cs.size -> Wrote k h (setRow h b o (ws.map fun w : Nat => Value.int k (w : Int))) b o ws := by
 induction ws with
 | nil => intro h o cs O _; exact Wrote.nil O
 | cons w r ih =>
  intro h o cs O hl
  rw [List.length_cons] at hl
  have W1 := (Wrote.nil (k := k) (o := o) O).snoc w O (by rw [List.length_nil]; omega)
  have O1 := own_set (v := Value.int k (w : Int)) (o := o) O
  have W2 := ih (o := o + 1) O1 (by rw [Array.size_setIfInBounds]; omega)
  exact W1.append W2 rfl
theorem putRow_own {k : IntKind} {h : Heap} {b o : Nat} {ws : List Nat} {cs : Array Value} {K : Heap -> Prop} (O : Own h b cs) (hl : o + ws.length <= cs.size) (g : ∀ h', Wrote k h h' b o ws -> K h') :
  putRow h (some ⟨b, o, none⟩) 0 (ws.map fun w : Nat => Value.int k (w : Int)) K := by
 refine ⟨b, o, rfl, fun x hx => ?_, fun i hi => ⟨⟨_, by rw [O.cell, Nat.add_zero, Array.getElem?_eq_getElem (by rw [List.length_map] at hi; omega)]⟩, O.frozen _⟩, g _ (wrote_row O hl)⟩
 obtain ⟨w, _, rfl⟩ := List.mem_map.1 hx
 rfl
theorem zerosL_u64 (n : Nat) : zerosL #[.int .u64 0] n = (List.replicate n 0).map fun w : Nat => Value.int .u64 (w : Int) := by
 unfold zerosL
 apply List.ext_getElem
 ·simp
 ·intro i h1 h2
  simp [Nat.mod_one]
end Go.Eng
namespace Go.Proofs
open Go Go.Eng
variable {B : World} {R : Ending -> Heap -> Prop} {h : Heap}
theorem E241 {args : Array Value} (H : Ent Tryz.prog B 122 args R h) : Ent Tryz.prog B 219 args R h :=
 Ent.of_twin (twin := "math/big.addMulVVWW_g") Tryz.func219 (by kernel_rfl) (by kernel_rfl) (by kernel_rfl) (by kernel_rfl) Tryz.func122 (by kernel_rfl) (by kernel_rfl) (by kernel_rfl) (by kernel_rfl) H
theorem K143 {px py : Option Addr} {bz oz n zc xc yc d : Nat} {xs ys : List Nat} {cs : Array Value}
  (hO : Own h bz cs) (hn : oz + n <= cs.size) (hx : Sl .u64 h px xs) (hy : Sl .u64 h py ys) (lx : xs.length = n) (ly : ys.length = n) (hlim : n < 9223372036854775807)
  (dx : Dig B64 xs) (dy : Dig B64 ys) (nx : ∀ b o, px = some ⟨b, o, none⟩ -> b ≠ bz \/ oz <= o) (ny : ∀ b o, py = some ⟨b, o, none⟩ -> b ≠ bz \/ oz <= o) (hd : d < B64)
  (H : ∀ (zs : List Nat) (c : Nat) (h' : Heap), Wrote .u64 h h' bz oz zs -> zs.length = n -> Dig B64 zs -> c < B64 -> val B64 zs + B64 ^ n * c = val B64 xs + val B64 ys * d -> R (.returned (.int .u64 (c : Int))) h') :
  Ent Tryz.prog B 122 #[.slice (some ⟨bz, oz, none⟩) n zc, .slice px n xc, .slice py n yc, .int .u64 (d : Int), .int .u64 (0 : Int)] R h := by
 refine F143_ok _ _ _ _ _ _ _ _ _ _ _ ⟨fun e => by simp at e, fun _ => ⟨fun e => by simp at e, fun _ => ?_⟩⟩
 refine ⟨fun m vs h' => match vs with
  | [.slice p1 n1 _, .slice p2 n2 _, .slice p3 n3 _, .int _ d', .int _ c, .int _ nn, .int _ i] => some ⟨bz, oz, none⟩ = p1 /\ n = n1 /\ px = p2 /\ n = n2 /\ py = p3 /\ n = n3 /\ (d : Int) = d' /\ (n : Int) = nn /\ ∃ (zs : List Nat) (cc : Nat),
    Wrote .u64 h h' bz oz zs /\ i = (zs.length : Int) /\ c = (cc : Int) /\ zs.length <= n /\ m = n - zs.length /\ Dig B64 zs /\ cc < B64 /\ val B64 zs + B64 ^ zs.length * cc = val B64 (xs.take zs.length) + val B64 (ys.take zs.length) * d
  | _ => False, n, ⟨rfl, rfl, rfl, rfl, rfl, rfl, rfl, rfl, [], 0, Wrote.nil hO, rfl, rfl, by simp, by simp, Dig.nil, by decide, by simp [val]⟩, ?_⟩
 rintro m h' _ _ _ _ _ _ _ _ _ _ _ _ _ ⟨rfl, rfl, rfl, rfl, rfl, rfl, rfl, rfl, zs, c, W, rfl, rfl, hle, rfl, dz, hc, hv⟩ _
 refine ⟨fun e => ?_, fun e => ?_⟩
 ·have hlt : zs.length < n := by simp at e; omega
  have hxl : zs.length < xs.length := by omega
  have hyl : zs.length < ys.length := by omega
  refine hy.getW W zs.length rfl hyl (by omega) (fun b o hb => by have := ny b o hb; omega) ?_
  refine hx.getW W zs.length rfl hxl (by omega) (fun b o hb => by have := nx b o hb; omega) ?_
  have d1 : xs[zs.length] < B64 := dx.get hxl
  have d2 : ys[zs.length] < B64 := dy.get hyl
  refine K242 d2 hd d1 ⟨_, _, rfl, ?_⟩
  have hB : B64 = 18446744073709551616 := rfl
  have hm : ys[zs.length] * d <= 18446744073709551615 * 18446744073709551615 := Nat.mul_le_mul (by omega) (by omega)
  have key := Nat.mod_add_div (ys[zs.length] * d + xs[zs.length]) B64
  have q1 := Nat.mod_lt (ys[zs.length] * d + xs[zs.length]) (by decide : 0 < B64)
  generalize hhi : (ys[zs.length] * d + xs[zs.length]) / B64 = hi at *
  generalize hlo : (ys[zs.length] * d + xs[zs.length]) % B64 = lo at *
  refine K204 (c := 0) (by decide) ⟨_, _, rfl, ?_⟩
  have key2 := Nat.mod_add_div (lo + c + 0) B64
  have q2 := Nat.mod_lt (lo + c + 0) (by decide : 0 < B64)
  have q3 : (lo + c + 0) / B64 < 2 := Nat.div_lt_of_lt_mul (by omega)
  generalize (lo + c + 0) / B64 = c1 at *
  generalize (lo + c + 0) % B64 = l1 at *
  have hcar : c1 + hi < B64 := by
   have k1 := key; have k2 := key2; have k3 := q1; have k4 := q2; have k5 := hc; have k6 := d1
   rw [hB] at k1 k2 k3 k4 k5 k6 ⊢
   clear key key2 q1 q2 hc d1 d2 hd hB hv H
   generalize ys[zs.length] * d = Y at *
   omega
  refine W.put hO _ rfl rfl (by omega) hn fun W' => ?_
  have wrp : IntKind.u64.wrap ((c1 : Int) + (hi : Int)) = ((c1 + hi : Nat) : Int) := by
   rw [wrap_u64_in (by omega) (by rw [hB] at hcar; omega)]; omega
  rw [wrp]
  refine ⟨n - (zs.length + 1), by omega, rfl, rfl, rfl, rfl, rfl, rfl, rfl, rfl, _, _, W', by rw [i64_in (by omega) (by omega)]; simp, rfl, by simp; omega, by simp, dz.snoc q2, hcar, ?_⟩
  simp only [List.length_append, List.length_singleton]
  rw [val_snoc, val_take_succ _ _ hxl, val_take_succ _ _ hyl, Nat.pow_succ, Nat.add_mul]
  have e1 : B64 ^ zs.length * (l1 + B64 * c1) = B64 ^ zs.length * (lo + c) := by rw [key2, Nat.add_zero]
  have e2 : B64 ^ zs.length * (lo + B64 * hi) = B64 ^ zs.length * (ys[zs.length] * d + xs[zs.length]) := by rw [key]
  rw [Nat.mul_add, Nat.mul_add] at e1 e2
  rw [Nat.mul_assoc (B64 ^ zs.length) B64, Nat.mul_add B64, Nat.mul_add (B64 ^ zs.length), Nat.mul_assoc (B64 ^ zs.length) ys[zs.length]]
  omega
 ·have hl : zs.length = n := by simp at e; omega
  exact H zs c h' W hl dz hc (by rw [List.take_of_length_le (by omega), List.take_of_length_le (by omega), hl] at hv; exact hv)
end Go.Proofs
set_option linter.unusedVariables false
namespace Go.Eng
open Go
theorem val_hi {b : Nat} {xs : List Nat} {i : Nat} (hi : i <= xs.length) (h : val b xs < b ^ i) : val b (xs.drop i) = 0 := by
 have e := val_split b xs hi
 rcases Nat.eq_zero_or_pos (val b (xs.drop i)) with c | c
 ·exact c
 ·have : b ^ i * 1 <= b ^ i * val b (xs.drop i) := Nat.mul_le_mul_left _ c
  omega
theorem val_step {b X Y d j n c : Nat} {zs ws : List Nat} (hb0 : 0 < b) (hz : val b zs = X * Y) (hX : X < b ^ n) (hY : Y < b ^ j) (hl : j + n < zs.length) (lw : ws.length = n) (hv : val b ws + b ^ n * c = val b ((zs.drop j).take n) + X * d) :
  val b (zs.take j ++ (ws ++ [c]) ++ zs.drop (j + (ws ++ [c]).length)) = X * (Y + b ^ j * d) := by
 have hb : 0 < b ^ n := by omega
 have hlt : val b zs < b ^ (j + n) := by
  rw [hz, Nat.pow_add, Nat.mul_comm (b ^ j)]
  exact Nat.mul_lt_mul_of_lt_of_le hX (Nat.le_of_lt hY) (by omega)
 have z1 := val_hi (Nat.le_of_lt hl) hlt
 have e1 := val_split b zs (i := j) (by omega)
 have e2 := val_split b (zs.drop j) (i := n) (by rw [List.length_drop]; omega)
 rw [List.drop_drop, z1, Nat.mul_zero, Nat.add_zero] at e2
 have z2 : val b (zs.drop (j + (n + 1))) = 0 := by
  have := val_drop b zs hl
  rw [z1] at this
  have h2 : b * val b (zs.drop (j + n + 1)) = 0 := by omega
  rcases Nat.mul_eq_zero.1 h2 with h3 | h3
  ·omega
  ·exact h3
 rw [val_append, val_append, val_snoc, List.length_append, List.length_append, List.length_singleton, List.length_take, lw, z2, Nat.mul_zero, Nat.add_zero, Nat.min_eq_left (by omega), hv, <- e2, Nat.mul_add, Nat.mul_add, <- hz, e1]
 rw [Nat.mul_left_comm X, Nat.add_assoc]
end Go.Eng
namespace Go.Proofs
open Go Go.Eng
variable {B : World} {R : Ending -> Heap -> Prop} {h : Heap}
theorem K223 {px py : Option Addr} {bz oz n m zc xc yc : Nat} {xs ys : List Nat} {cs : Array Value} (hO : Own h bz cs) (hn : oz + (n + m) <= cs.size) (hx : Sl .u64 h px xs) (hy : Sl .u64 h py ys) (lx : xs.length = n) (ly : ys.length = m) (hlim : n + m < 1099511627776)
  (dx : Dig B64 xs) (dy : Dig B64 ys) (nx : ∀ b o, px = some ⟨b, o, none⟩ -> b ≠ bz) (ny : ∀ b o, py = some ⟨b, o, none⟩ -> b ≠ bz) (hzc : n + m <= zc)
  (H : ∀ (zs : List Nat) (h' : Heap), Wrote .u64 h h' bz oz zs -> zs.length = n + m -> Dig B64 zs -> val B64 zs = val B64 xs * val B64 ys -> R (.returned (.tuple #[])) h') :
  Ent Tryz.prog B 202 #[.slice (some ⟨bz, oz, none⟩) (n + m) zc, .slice px n xc, .slice py m yc] R h := by
 refine F223_ok _ _ _ _ _ _ _ _ _ (sl_ft (l := 0) (m := n + m) rfl (by rw [i64_in (by omega) (by omega)]; omega) (by omega) hzc ?_)
 rw [slP0 pt_some, Nat.sub_zero]
 unfold clW
 rw [zerosL_u64]
 refine putRow_own hO (by rw [List.length_replicate]; exact hn) fun h1 W1 => ?_
 refine ⟨fun k vs h' => match vs with
  | [.slice p1 n1 c1, .slice p2 n2 _, .slice p3 n3 _, .int _ nn, .int _ i] => some ⟨bz, oz, none⟩ = p1 /\ n + m = n1 /\ zc = c1 /\ px = p2 /\ n = n2 /\ py = p3 /\ m = n3 /\ (m : Int) = nn /\ ∃ (j : Nat) (zs : List Nat),
    i = (j : Int) /\ j <= m /\ k = m - j /\ Wrote .u64 h h' bz oz zs /\ zs.length = n + m /\ Dig B64 zs /\ val B64 zs = val B64 xs * val B64 (ys.take j)
  | _ => False, m, ⟨rfl, rfl, rfl, rfl, rfl, rfl, rfl, rfl, 0, _, rfl, by omega, by omega, W1, by rw [List.length_replicate], fun w hw => by rw [(List.mem_replicate.1 hw).2]; decide, by rw [val_zeros]; simp [val]⟩, ?_⟩
 rintro k h' _ _ _ _ _ _ _ _ _ _ _ ⟨rfl, rfl, rfl, rfl, rfl, rfl, rfl, rfl, j, zs, rfl, hj, rfl, W, lz, dz, hv⟩ _
 refine ⟨fun e => ?_, fun e => ?_⟩
 ·have hlt : j < m := by simp at e; omega
  have hyl : j < ys.length := by omega
  refine hy.getW W j rfl hyl (by omega) (fun b o hb => .inl (ny b o hb)) ?_
  have d2 : ys[j] < B64 := dy.get hyl
  have ht := val_take_succ B64 ys hyl
  have wj : IntKind.i64.wrap ((j : Int) + (1 : Int)) = ((j + 1 : Nat) : Int) := by rw [i64_in (by omega) (by omega)]; rfl
  refine ⟨fun e2 => ?_, fun e2 => ?_⟩
  ·refine sl_ft (l := j) (m := j + n) rfl (by rw [i64_in (by omega) (by omega)]; omega) (by omega) (by omega) (sl_ft (l := j) (m := j + n) rfl (by rw [i64_in (by omega) (by omega)]; omega) (by omega) (by omega) ?_)
   rw [slP_some (by omega : j < zc), Nat.add_sub_cancel_left]
   obtain ⟨cs', O', sz, g1, g2⟩ := W.own hO
   have hmid : Sl .u64 h' (some ⟨bz, oz + j, none⟩) ((zs.drop j).take n) := Sl.of_own O' fun i hi => by
    rw [List.length_take, List.length_drop] at hi
    rw [Nat.add_assoc, g2 (j + i) (by omega), List.getElem_take, List.getElem_drop]
   refine E241 (K143 O' (by omega) hmid (hx.fr W.fr fun b o e _ => nx b o e) (by rw [List.length_take, List.length_drop]; omega) lx (by omega) ((dz.drop _).take _) dx (fun b o e => .inr (by cases e; exact Nat.le_refl _)) (fun b o e => .inl (nx b o e)) d2 fun ws c h2 W2 lw dw hc hw => ⟨_, rfl, ?_⟩)
   have wn : IntKind.i64.wrap ((n : Int) + (j : Int)) = ((n + j : Nat) : Int) := by rw [i64_in (by omega) (by omega)]; rfl
   rw [wn]
   refine ⟨bz, oz, rfl, by omega, by omega, bz, _, rfl, ?_⟩
   have ea : oz + ((n + j : Nat) : Int).toNat * 1 = oz + j + ws.length := by rw [Int.toNat_natCast, lw]; omega
   rw [ea]
   obtain ⟨cs2, O2, sz2, _, _⟩ := W2.own O'
   refine O2.stC (by omega) rfl fun O3 f3 => ?_
   have W3 := W2.snoc c O' (by omega)
   have W4 := W.over W3 (by rw [List.length_append, List.length_singleton]; omega)
   have hX := val_lt dx
   have hY := val_lt (dy.take j)
   rw [lx] at hX
   rw [List.length_take, Nat.min_eq_left (by omega)] at hY
   have hs := val_step (by decide) hv hX hY (by omega) lw hw
   refine ⟨m - (j + 1), by omega, rfl, rfl, rfl, rfl, rfl, rfl, rfl, rfl, j + 1, _, wj, by omega, rfl, W4, ?_, ?_, by rw [hs, ht]⟩
   ·simp only [List.length_append, List.length_take, List.length_drop, List.length_singleton, lw]; omega
   ·exact ((dz.take _).append (dw.snoc hc)).append (dz.drop _)
  ·have h0 : ys[j] = 0 := by simp at e2; omega
   refine ⟨m - (j + 1), by omega, rfl, rfl, rfl, rfl, rfl, rfl, rfl, rfl, j + 1, zs, wj, by omega, rfl, W, lz, dz, ?_⟩
   rw [ht, h0, Nat.mul_zero, Nat.add_zero, hv]
 ·have hjm : j = m := by simp at e; omega
  rw [List.take_of_length_le (by omega)] at hv
  exact H zs h' W lz dz hv
end Go.Proofs
set_option linter.unusedVariables false
namespace Go.Proofs
open Go Go.Eng
variable {B : World} {R : Ending -> Heap -> Prop} {h : Heap}
def TabK (h : Heap) : Prop := 5 < h.size /\ cell? h ⟨5, 0, none⟩ = some (.int .i64 40)
theorem TabK.ext {h h' : Heap} (H : TabK h) (f : Ext h h') : TabK h' :=
 ⟨Nat.lt_of_lt_of_le H.1 f.size, by have e := H.2; unfold cell? at e ⊢; rw [f.same _ H.1 id]; exact e⟩
theorem K208g {ps px py : Option Addr} {n xc m yc vx vy : Nat} (hk : TabK h) (hx : NatI h px n vx) (hy : NatI h py m vy) (ln : n < 40) (lm : m < 40) (H : NatK R h (fun _ => False) (vx * vy)) :
  Ent Tryz.prog B 189 #[.slice none 0 0, .pointer ps, .slice px n xc, .slice py m yc] R h := by
 by_cases h1 : n <= 1 \/ m <= 1
 ·exact K208 hx hy (by omega) (by omega) h1 H
 have main : ∀ {R : Ending -> Heap -> Prop} {px py : Option Addr} {n m xc yc vx vy : Nat}, NatI h px n vx -> NatI h py m vy -> n < 40 -> m <= n -> 1 < m -> NatK R h (fun _ => False) (vx * vy) ->
   Ent Tryz.prog B 189 #[.slice none 0 0, .pointer ps, .slice px n xc, .slice py m yc] R h := by
  intro R px py n m xc yc vx vy hx hy ln hle hm1 H
  obtain ⟨xs, x1, x2, x3, x4, x5⟩ := hx.ex
  obtain ⟨ys, y1, y2, y3, y4, y5⟩ := hy.ex
  have x5 : val B64 xs = vx := x5
  have y5 : val B64 ys = vy := y5
  have xne : xs ≠ [] := fun e => by rw [e] at x2; simp at x2; omega
  have yne : ys ≠ [] := fun e => by rw [e] at y2; simp at y2; omega
  refine Wide.F208_ok _ _ _ _ _ _ _ _ _ _ ⟨fun e => by simp at e; omega, fun _ => ⟨fun e => by simp at e; omega, fun _ => ⟨fun e => by simp at e; omega, fun _ => ⟨fun e => by simp at e; omega, fun _ => ?_⟩⟩⟩⟩
  refine K200n ⟨_, rfl, nofun, fun _ => K200n ⟨_, rfl, nofun, fun _ => ?_⟩⟩
  refine K194' (n := n + m) (S := fun _ => False) Dst.none (by rw [i64_in (by omega) (by omega)]; omega) (by omega) (by omega) fun b o c cs h1 fE hO hl hc hlim hb => ⟨_, _, _, rfl, ?_⟩
  have nex := fresh_ne (S := fun _ => False) x1 xne hb
  have ney := fresh_ne (S := fun _ => False) y1 yne hb
  refine ⟨_, 0, rfl, _, (hk.ext fE).2, fun _ => ?_, fun e => by simp at e; omega⟩
  refine K223 hO (by omega) (x1.ext fE) (y1.ext fE) x2 y2 (by omega) x3 y3 nex ney hc fun zs h2 W lz dz hv => ⟨rfl, ?_⟩
  exact natEnd fE.to W (Dst.inS hb) hO hl lz hc hlim dz (by rw [hv, x5, y5]) H
 rcases Nat.lt_or_ge n m with c | c
 ·refine Wide.F208_ok _ _ _ _ _ _ _ _ _ _ ⟨fun _ => ?_, fun e => by simp at e; omega⟩
  refine main hy hx lm (by omega) (by omega) ?_
  rw [Nat.mul_comm]
  exact fun p' n' c' h' f1 f2 f3 f4 => ⟨_, _, _, rfl, H p' n' c' h' f1 f2 f3 f4⟩
 ·exact main hx hy ln c (by omega) H
end Go.Proofs
set_option linter.unusedVariables false
namespace Go.Proofs
open Go Go.Eng
variable {B : World} {R : Ending -> Heap -> Prop} {h : Heap}
theorem K131g {rz r q ry qy : Nat} {v w : Int} (hk : TabK h) (hz : ZeroAt h rz) (hx : IntAt h r q v) (hy : IntAt h ry qy w) (hr : rz ≠ r) (hry : rz ≠ ry) (hxy : r ≠ ry) (hb : bl v.natAbs <= 1000000) (hb2 : bl w.natAbs <= 1000000)
  (h64 : bl v.natAbs <= 2400 /\ bl w.natAbs <= 2400) (H : IntK R h rz (fun _ => False) (v * w)) :
  Ent Tryz.prog B 131 #[.pointer (some ⟨rz, 0, none⟩), .pointer (some ⟨r, 0, none⟩), .pointer (some ⟨ry, 0, none⟩)] R h := by
 obtain ⟨p, n, c, h1, h2, h3, h4⟩ := hx.ex
 obtain ⟨py, m, cy, y1, y2, y3, y4⟩ := hy.ex
 have hl := h2.len hb
 have hl2 := y2.len hb2
 have h11 := h2.len h64.1
 have h12 := y2.len h64.2
 refine F131_ok _ _ _ (F176_ok _ _ _ _ (.inr (.inr ⟨_, _, _, _, rfl, rfl, .inr ⟨hxy, let ⟨e, he⟩ := h1; ⟨_, e, he⟩, let ⟨e, he⟩ := y1; ⟨_, e, he⟩, ?_⟩⟩)))
 refine ⟨nofun, fun _ => ldS hz (ldS h1 (ldS y1 (K208g hk h2 y2 (by omega) (by omega) fun p' n' c' h' f1 f2 f3 f4 => ⟨_, _, _, rfl, ?_⟩)))⟩
 have hva : (v * w).natAbs = v.natAbs * w.natAbs := Int.natAbs_mul _ _
 have z := f3.zero
 refine stS (hz.fr f1 id) fun h2' o2 fr2 => ldS o2 ⟨fun e => ?_, fun e => stB o2 fun h3' o3 fr3 => ?_⟩
 ·have fr2' : Fr (fun b => b = rz) h h2' := Fr.trans (Ext.to f1) fr2 fun _ _ e => e
  refine ldB (h1.fr fr2' fun e => hr e.symm) (ldB (y1.fr fr2' fun e => hry e.symm) (stB o2 fun h3' o3 fr3 => ⟨rfl, ?_⟩))
  refine intEnd f1 (Fr.trans fr2 fr3 fun _ _ e => e) hz.lt id f2 (by rw [hva]; exact f3) f4 o3 ?_ H
  have hne : v.natAbs * w.natAbs ≠ 0 := by simp at e; omega
  have hv0 : v ≠ 0 := fun e => hne (by rw [e]; simp)
  have hw0 : w ≠ 0 := fun e => hne (by rw [e]; simp)
  by_cases a : v < 0 <;> by_cases b : w < 0
  ·have : 0 < v * w := Int.mul_pos_of_neg_of_neg a b
   simp [a, b]; omega
  ·have : v * w < 0 := Int.mul_neg_of_neg_of_pos a (by omega)
   simp [a, b, this]
  ·have : v * w < 0 := Int.mul_neg_of_pos_of_neg (by omega) b
   simp [a, b, this]
  ·have : 0 < v * w := Int.mul_pos (by omega) (by omega)
   simp [a, b]; omega
 ·have : v * w = 0 := by
   have : (v * w).natAbs = 0 := by simp at e; rw [hva]; omega
   omega
  exact ⟨rfl, intEnd f1 (Fr.trans fr2 fr3 fun _ _ e => e) hz.lt id f2 (by rw [hva]; exact f3) f4 o3 (by rw [this]; rfl) H⟩
end Go.Proofs
