import Derived.Test.YtkfafikejdhccaaGreatDoorA31
import Derived.Test.YtkfafikejdhccaaGreatDoorA33
/- Here stand lemmas: the walk of ExpansionPairs. -/
set_option linter.unusedVariables false
set_option linter.unusedVariables false
namespace Go.Proofs
open Go Go.Eng
variable {B : World} {R : Ending → Heap → Prop} {h : Heap}
def diffAns (xs ys : List Int) : List Int × Int := if validP xs && validP ys then ansOf (sumP xs (ys.map negP)) else ([], 1)
/-- expansion.Diff. -/
theorem K43 {p q : Option Addr} {n c m d : Nat} {xs ys : List Int} (ht : TabH h) (I : IntsH h p xs) (hn : xs.length = n) (hc : n ≤ c) (hp : Pt p) (J : IntsH h q ys) (hm : ys.length = m)
    (H : ∀ q m c' h', Ext h h' → Lj h h' q m c' (diffAns xs ys).1 → R (.returned (.tuple #[.slice q m c', .int .i64 (diffAns xs ys).2])) h') : Ent Tryz.prog B 43 #[.slice p n c, .slice q m d] R h := by
  refine F43_ok _ _ _ _ _ _ (alK fun r3 h4 e4 f4 o4 z4 => alK fun r5 h6 e6 f6 o6 z6 => alK fun r7 h8 e8 f8 o8 z8 => ?_)
  have F8 := Ext.trans f4 (Ext.trans f6 f8)
  have O3 := (o4.ext f6).ext f8
  have O5 := o6.ext f8
  have hne : r5 ≠ r3 := by omega
  refine K87 (ss := [(p, n, c, xs), (q, m, d, ys)]) o8 rfl (by decide) (fun s hs => ?_) ⟨_, rfl, ?_⟩
  · rcases List.mem_cons.1 hs with e | hs
    · rw [e]; exact ⟨I.ext F8, hn⟩
    · rw [List.mem_singleton.1 hs]; exact ⟨J.ext F8, hm⟩
  have hall : (([(p, n, c, xs), (q, m, d, ys)] : List (Option Addr × Nat × Nat × List Int)).all fun s => validP s.2.2.2) = (validP xs && validP ys) := by simp
  rw [hall]
  unfold diffAns at H
  cases hv : (validP xs && validP ys)
  · rw [hv] at H
    exact ⟨fun _ => expEnd O3 O5 hne fun h' f => H none 0 0 h' (Fr.trans F8 f fun x hx e => by omega) Lj.nil, fun e => absurd e (by decide)⟩
  rw [hv] at H
  have hv2 := Bool.and_eq_true_iff.1 hv
  have l1 := validP_len hv2.1
  have l2 := validP_len hv2.2
  refine ⟨fun e => absurd e (by decide), fun _ => ⟨by omega, by omega, by omega, by omega, ?_⟩⟩
  rw [Int.toNat_natCast, Nat.mul_one]
  refine alK fun r42 h43 e43 f43 o43 z43 => ?_
  have ms : (mkCells #[Value.int .i64 0] m).size = m := by simp [mkCells]
  refine ⟨fun k vs h' => match vs with
    | [.slice p1 n1 c1, .slice q1 m1 d1, .pointer a, .pointer b, .slice g gn gc, .int _ y, .int _ i] => p = p1 ∧ n = n1 ∧ c = c1 ∧ q = q1 ∧ m = m1 ∧ d = d1 ∧ a = some (⟨r3, 0, none⟩ : Addr) ∧ b = some (⟨r5, 0, none⟩ : Addr) ∧ g = some (⟨r42, 0, none⟩ : Addr) ∧ m = gn ∧ m = gc ∧ y = (m : Int) ∧
        ∃ j : Nat, i = (j : Int) ∧ j ≤ m ∧ k = m - j ∧ Fr (fun x => x = r42) h43 h' ∧ ∃ cs, Own h' r42 cs ∧ cs.size = m ∧ ∀ k (hk : k < ys.length), k < j → cs[k]? = some (.int .i64 (negP ys[k]))
    | _ => False, m, ⟨rfl, rfl, rfl, rfl, rfl, rfl, rfl, rfl, rfl, rfl, rfl, rfl, 0, rfl, by omega, by omega, Fr.rfl', _, o43, ms, fun k _ h0 => absurd h0 (by omega)⟩, ?_⟩
  rintro k h1 _ _ _ _ _ _ _ _ _ _ _ _ _ ⟨rfl, rfl, rfl, rfl, rfl, rfl, rfl, rfl, rfl, rfl, rfl, hy, j, rfl, hj, rfl, F, cs, O, hcs, hg⟩ _
  subst hy
  have F43 := Ext.trans F8 f43
  have s43 := F43.size
  have hr42 : h.size ≤ r42 := by have := F8.size; omega
  have F1 : Ext h h1 := Fr.trans (S := fun _ => False) F43 F fun x hx e => by omega
  refine ⟨fun e => ?_, fun e => ?_⟩
  · have hjn : j < ys.length := by have := of_decide_eq_true e; omega
    have hI : I64 ys[j] := J.1 _ (List.getElem_mem hjn)
    refine (J.ext F1).get hm hjn (K99 hI ⟨_, rfl, r42, 0, rfl, by omega, by omega, r42, _, rfl, O.stC (by rw [Int.toNat_natCast]; omega) rfl fun a g => ⟨rfl, m - (j + 1), by omega, rfl, rfl, rfl, rfl, rfl, rfl, rfl, rfl, rfl, rfl, rfl, rfl, j + 1, ?_, by omega, rfl, Fr.trans F g fun _ _ e => e, _, a, by rw [Array.size_setIfInBounds]; exact hcs, fun k hk hkj => ?_⟩⟩)
    · rw [i64_in (by omega) (by omega)]; rfl
    · rw [Int.toNat_natCast, Nat.mul_one, Nat.zero_add]
      by_cases hkj2 : k = j
      · subst hkj2
        rw [Array.getElem?_setIfInBounds_self_of_lt (by omega)]
      · rw [Array.getElem?_setIfInBounds_ne (by omega)]
        exact hg k hk (by omega)
  · have hjn : j = m := by have := of_decide_eq_false e; omega
    have JN : IntsH h1 (some ⟨r42, 0, none⟩) (ys.map negP) := by
      refine ⟨fun x hx => ?_, .inr ⟨r42, 0, rfl, O.lt, fun i hi => ?_⟩⟩
      · obtain ⟨y, hy, rfl⟩ := List.mem_map.1 hx
        exact negP_I64 (J.1 y hy)
      · rw [List.length_map] at hi
        rw [O.cell, Nat.zero_add, hg i hi (by omega), List.getElem_map]
    have s6 := f6.size
    have s8 := f8.size
    have O31 : Own h1 r3 #[.slice none 0 0] := (O3.ext f43).fr F (by omega)
    have O51 : Own h1 r5 #[.int .i64 0] := (O5.ext f43).fr F (by omega)
    refine K92 (ht.ext F1) (I.ext F1) hn hc hp JN (by rw [List.length_map]; exact hm) (by omega) (fun l hl q' m' c' h' F' L => ⟨_, _, _, rfl, ?_⟩) fun hl h' F' => ?_
    · rw [hl] at H
      have s1 := F1.size
      have sF := F.size
      exact K89e (O31.ext F') (O51.ext F') hne L (by omega) (by omega) fun q m c' h2 f2 L2 => H q m c' h2 (Fr.trans (Ext.trans F1 F') f2 fun x hx e => by omega) (L2.base F1.size)
    · rw [hl] at H
      exact expDie (O31.ext F') (O51.ext F') hne fun h2 f2 => H none 0 0 h2 (Fr.trans (Ext.trans F1 F') f2 fun x hx e => by omega) Lj.nil
def prodAns (xs ys : List Int) : List Int × Int := if validP xs && validP ys then ansOf (prodP xs [] ys) else ([], 1)
theorem scaleTop_len {xs : List Int} {b : Int} {l : List Int} (h : scaleTop xs b = some l) : l.length ≤ 2 * xs.length := by
  have h1 := scaleTopR_law xs b
  rw [h] at h1
  have h1 : scaleTopR xs b false = (l, false) := h1
  have := scaleTopR_len xs b false
  rw [h1] at this; exact this
theorem sumP_len {xs ys l : List Int} (h : sumP xs ys = some l) : l.length ≤ xs.length + ys.length := by
  have h1 := @sumR_law ys xs
  rw [h] at h1
  have h1 : sumR xs false ys = (l, false) := h1
  have := @sumR_len ys xs false
  rw [h1] at this; exact this
/-- expansion.Product. -/
theorem K40 {p q : Option Addr} {n c m d : Nat} {xs ys : List Int} (ht : TabH h) (I : IntsH h p xs) (hn : xs.length = n) (hc : n ≤ c) (J : IntsH h q ys) (hm : ys.length = m) (hlim : n * m ≤ 100000)
    (H : ∀ q m c' h', Ext h h' → Lj h h' q m c' (prodAns xs ys).1 → R (.returned (.tuple #[.slice q m c', .int .i64 (prodAns xs ys).2])) h') : Ent Tryz.prog B 40 #[.slice p n c, .slice q m d] R h := by
  refine F40_ok _ _ _ _ _ _ (alK fun r3 h4 e4 f4 o4 z4 => alK fun r5 h6 e6 f6 o6 z6 => alK fun r7 h8 e8 f8 o8 z8 => ?_)
  have F8 := Ext.trans f4 (Ext.trans f6 f8)
  have O3 := (o4.ext f6).ext f8
  have O5 := o6.ext f8
  have hne : r5 ≠ r3 := by omega
  refine K87 (ss := [(p, n, c, xs), (q, m, d, ys)]) o8 rfl (by decide) (fun s hs => ?_) ⟨_, rfl, ?_⟩
  · rcases List.mem_cons.1 hs with e | hs
    · rw [e]; exact ⟨I.ext F8, hn⟩
    · rw [List.mem_singleton.1 hs]; exact ⟨J.ext F8, hm⟩
  have hall : (([(p, n, c, xs), (q, m, d, ys)] : List (Option Addr × Nat × Nat × List Int)).all fun s => validP s.2.2.2) = (validP xs && validP ys) := by simp
  rw [hall]
  unfold prodAns at H
  cases hv : (validP xs && validP ys)
  · rw [hv] at H
    exact ⟨fun _ => expEnd O3 O5 hne fun h' f => H none 0 0 h' (Fr.trans F8 f fun x hx e => by omega) Lj.nil, fun e => absurd e (by decide)⟩
  rw [hv] at H
  have hv2 := Bool.and_eq_true_iff.1 hv
  have l1 := validP_len hv2.1
  have l2 := validP_len hv2.2
  refine ⟨fun e => absurd e (by decide), fun _ => ?_⟩
  refine ⟨fun k vs h' => match vs with
    | [.slice p1 n1 c1, .pointer a, .pointer b, .slice g gn gc, .slice q1 m1 d1, .int _ y, .int _ i] => p = p1 ∧ n = n1 ∧ c = c1 ∧ q = q1 ∧ m = m1 ∧ d = d1 ∧ a = some (⟨r3, 0, none⟩ : Addr) ∧ b = some (⟨r5, 0, none⟩ : Addr) ∧ y = (m : Int) ∧
        ∃ j : Nat, i = (j : Int) ∧ j ≤ m ∧ k = m - j ∧ Ext h8 h' ∧ ∃ hs, Lj h8 h' g gn gc hs ∧ gn ≤ 2 * (n * j) ∧ prodP xs hs (ys.drop j) = prodP xs [] ys
    | _ => False, m, ⟨rfl, rfl, rfl, rfl, rfl, rfl, rfl, rfl, rfl, 0, rfl, by omega, by omega, Fr.rfl', [], Lj.nil, by omega, rfl⟩, ?_⟩
  rintro k h1 _ _ _ _ _ g gn gc _ _ _ _ _ ⟨rfl, rfl, rfl, rfl, rfl, rfl, rfl, rfl, rfl, j, rfl, hj, rfl, F, hs, L, hgn, hg⟩ _
  have F1 := Ext.trans F8 F
  have sF := F.size
  refine ⟨fun e => ?_, fun e => ?_⟩
  · have hjn : j < ys.length := by have := of_decide_eq_true e; omega
    have hI : I64 ys[j] := J.1 _ (List.getElem_mem hjn)
    have hd : ys.drop j = ys[j] :: ys.drop (j + 1) := List.drop_eq_getElem_cons hjn
    rw [hd] at hg
    have hnj : n * (j + 1) ≤ n * m := Nat.mul_le_mul_left n (by omega)
    rw [Nat.mul_succ] at hnj
    have e2 : prodP xs hs (ys[j] :: ys.drop (j + 1)) = match scaleTop xs ys[j] with | some s => (match sumP hs s with | some l => prodP xs l (ys.drop (j + 1)) | none => none) | none => none := rfl
    rw [e2] at hg
    refine (J.ext F1).get hm hjn (K91 (ht.ext F1) (I.ext F1) hn hc (by omega) hI (fun s hs1 q1 m1 c1 h2 f2 L2 => ⟨_, _, _, rfl, ?_⟩) fun hs1 h2 f2 => ?_)
    · rw [hs1] at hg
      have ls := scaleTop_len hs1
      have F2 := Ext.trans F1 f2
      refine K92 (ht.ext F2) (L.ext f2).ints L.len L.le L.pt L2.ints L2.len (by have := L2.len; omega) (fun l hl q3 m3 c3 h3 f3 L3 => ⟨_, _, _, rfl, rfl, m - (j + 1), by omega, rfl, rfl, rfl, rfl, rfl, rfl, rfl, rfl, rfl, j + 1, ?_, by omega, rfl, Ext.trans F (Ext.trans f2 f3), l, L3.base (Nat.le_trans F.size f2.size), ?_, ?_⟩) fun hl h3 f3 => ?_
      · rw [i64_in (by omega) (by omega)]; rfl
      · have := sumP_len hl
        have := L.len
        have := L2.len
        have := L3.len
        rw [Nat.mul_succ]; omega
      · rw [← hg]
        show _ = (match sumP hs s with | some l => prodP xs l (ys.drop (j + 1)) | none => none)
        rw [hl]
      · have hnone : prodP xs [] ys = none := by
          rw [← hg]
          show (match sumP hs s with | some l => prodP xs l (ys.drop (j + 1)) | none => none) = none
          rw [hl]
        rw [hnone] at H
        have F3 := Ext.trans F (Ext.trans f2 f3)
        exact expDie (O3.ext F3) (O5.ext F3) hne fun h4' f4' => H none 0 0 h4' (Fr.trans (Ext.trans F8 F3) f4' fun x hx e => by omega) Lj.nil
    · have hnone : prodP xs [] ys = none := by rw [← hg, hs1]
      rw [hnone] at H
      have F3 := Ext.trans F f2
      exact expDie (O3.ext F3) (O5.ext F3) hne fun h4' f4' => H none 0 0 h4' (Fr.trans (Ext.trans F8 F3) f4' fun x hx e => by omega) Lj.nil
  · have hjn : j = m := by have := of_decide_eq_false e; omega
    rw [List.drop_of_length_le (by omega)] at hg
    have hsome : prodP xs [] ys = some hs := by rw [← hg]; rfl
    rw [hsome] at H
    have s6 := f6.size
    have s8 := f8.size
    exact K89e (O3.ext F) (O5.ext F) hne L (by omega) (by omega) fun q m c' h2 f2 L2 => H q m c' h2 (Fr.trans (Ext.trans F8 F) f2 fun x hx e => by omega) (L2.base F8.size)
end Go.Proofs
set_option linter.unusedVariables false
namespace Go.Proofs
open Go Go.Eng
variable {B : World} {R : Ending → Heap → Prop} {h : Heap}
/-- Three answers that are kept. -/
theorem add3 {X1 X2 X3 : List PanicEntry → Heap → Prop} {G1 G2 : Heap → Prop} {f0 : Int} {r cL cW a0 a1 a2 a3 : Nat} {pL pW : Option Addr} {es : List En} {po pl pm qp qq qs : Option Addr} {no co nl cl nm cm np cp nq cq ns cs : Nat} {wo wl wm : List Int} {i j : Int} {hS : Heap} (K : Kept h r pL cL pW cW es) (hl : es.length ≤ 390)
    (Lo : Out h (Off a0 a1) po no co wo) (Ll : Out h (Off a1 a2) pl nl cl wl) (Lm : Out h (Off a2 a3) pm nm cm wm) (h0 : hS.size ≤ a0) (h1 : a3 ≤ h.size) (h01 : a0 ≤ a1) (h12 : a1 ≤ a2) (h23 : a2 ≤ a3) (low : ∀ b, KT r pL pW es b → b < a0) (F : Ext hS h)
    (Js : Rd h (KB r pL pW) qs wo) (ms : wo.length = ns) (ts : Pt qs) (Jp : Rd h (KB r pL pW) qp wl) (mp : wl.length = np) (tp : Pt qp) (Jq : Rd h (KB r pL pW) qq wm) (mq : wm.length = nq) (tq : Pt qq)
    (l1 : no ≤ 1000000) (l2 : nl ≤ 1000000) (l3 : nm ≤ 1000000) (H : KeepK R hS r pL pW es 3) :
    Ent Tryz.prog B 85 #[.pointer (some ⟨r, 0, none⟩), .slice po no co, .int .i64 f0, .int .i64 (0 : Int), .slice qs ns cs, .int .i64 f0] (retE (fun v1 h1 => ∃ x1, v1 = .bool x1 ∧ (x1 = true →
      Ent Tryz.prog B 85 #[.pointer (some ⟨r, 0, none⟩), .slice pl nl cl, .int .i64 i, .int .i64 (0 : Int), .slice qp np cp, .int .i64 i] (retE (fun v2 h2 => ∃ x2, v2 = .bool x2 ∧ (x2 = true →
        Ent Tryz.prog B 85 #[.pointer (some ⟨r, 0, none⟩), .slice pm nm cm, .int .i64 j, .int .i64 (0 : Int), .slice qq nq cq, .int .i64 j] (retE (fun v3 h3 => ∃ x3, v3 = .bool x3 ∧ R (.returned (.bool x3)) h3) X3) h2) ∧ (x2 = false → G2 h2)) X2) h1) ∧ (x1 = false → G1 h1)) X1) h := by
  have sS := F.size
  have kb : ∀ b, KB r pL pW b → b < a0 := fun b k => low b (.inl k)
  refine K85b K (by omega) Lo (fun b h1 h2 k => by have := low b k; omega) Js ms ts l1 fun pL1 cL1 pW1 cW1 e1 hA KA FA BA ZA => ⟨_, rfl, fun _ => ?_, fun e => (by cases e)⟩
  have sA := FA.size
  have LlA : Out hA (Off a1 a2) pl nl cl wl := Ll.off FA fun b b1 b2 k => by have := kb b k; omega
  have LmA : Out hA (Off a2 a3) pm nm cm wm := Lm.off FA fun b b1 b2 k => by have := kb b k; omega
  refine K85b KA (by simp; omega) LlA (fun b b1 b2 k => by
    rcases ZA b k with k | k | k
    · have := low b k; omega
    · omega
    · omega) (Jp.fr FA (fun _ _ k => k) BA) mp tp l2 fun pL2 cL2 pW2 cW2 e2 hB KB2 FB BB ZB => ⟨_, rfl, fun _ => ?_, fun e => (by cases e)⟩
  have sB := FB.size
  have kA : ∀ b, b < h.size → KB r pL1 pW1 b → b < a0 := fun b hb k => kb b (BA b hb k)
  have LmB : Out hB (Off a2 a3) pm nm cm wm := LmA.off FB fun b b1 b2 k => by have := kA b (by omega) k; omega
  refine K85b KB2 (by simp; omega) LmB (fun b b1 b2 k => by
    rcases ZB b k with k | k | k
    · rcases ZA b k with k | k | k
      · have := low b k; omega
      · omega
      · omega
    · omega
    · omega) ((Jq.fr FA (fun _ _ k => k) BA).fr FB (fun _ _ k => k) fun b hb k => BB b hb k) mq tq l3 fun pL3 cL3 pW3 cW3 e3 hC KC FC BC ZC => ⟨_, rfl, ?_⟩
  have sC := FC.size
  have KC' : Kept hC r pL3 cL3 pW3 cW3 (es ++ [e1, e2, e3]) := by
    have := KC
    simp only [List.append_assoc, List.cons_append, List.nil_append] at this
    exact this
  have FS1 : Fr (KB r pL pW) hS hA := Fr.trans F.to FA fun _ _ k => k
  have FS2 : Fr (KB r pL pW) hS hB := Fr.trans FS1 FB fun b hb k => BA b (by omega) k
  have FS3 : Fr (KB r pL pW) hS hC := Fr.trans FS2 FC fun b hb k => BA b (by omega) (BB b (by omega) k)
  refine H pL3 cL3 pW3 cW3 [e1, e2, e3] hC KC' (by simp) FS3 (fun b hb k => BA b (by omega) (BB b (by omega) (BC b (by omega) k))) fun b k => ?_
  have k' : KT r pL3 pW3 (es ++ [e1] ++ [e2] ++ [e3]) b := by
    simp only [List.append_assoc, List.cons_append, List.nil_append]
    exact k
  rcases ZC b k' with k | k | k
  · rcases ZB b k with k | k | k
    · rcases ZA b k with k | k | k
      · exact .inl k
      · exact .inr (by omega)
      · exact .inr (by omega)
    · exact .inr (by omega)
    · exact .inr (by omega)
  · exact .inr (by omega)
  · exact .inr (by omega)

/-- plumblaw7.pairs. -/
theorem K42 {r cL cW n c m d : Nat} {pL pW p q : Option Addr} {es : List En} {xs ys : List Int} (ht : TabH h) (I : IntsH h p xs) (hn : xs.length = n) (hpt : PtB h p) (hpT : ∀ x, Blk p x → ¬ KB r pL pW x)
    (J : IntsH h q ys) (hm : ys.length = m) (hqt : PtB h q) (hqT : ∀ x, Blk q x → ¬ KB r pL pW x) (hln : n ≤ 120) (hlm : m ≤ 120)
    (K : Kept h r pL cL pW cW es) (hl : es.length ≤ 390) (H : KeepK R h r pL pW es 3) :
    Ent Tryz.prog B 42 #[.pointer (some ⟨r, 0, none⟩), .slice p n c, .slice q m d] R h := by
  refine F42_ok _ _ _ _ _ _ _ (K77 I hn hpt.pt (by omega) fun qc mc cc h1 f1 Lc => ⟨_, _, _, rfl, K77 (J.ext f1) hm hqt.pt (by omega) fun qd md cd h2 f2 Ld => ⟨_, _, _, rfl, ?_⟩⟩)
  have hmc : mc = n + 3 := by have := Lc.len; simp [hn] at this; omega
  have hmd : md = m + 3 := by have := Ld.len; simp [hm] at this; omega
  subst hmc hmd
  have lc := Lc.le
  have ld := Ld.le
  have Lc2 := Lc.ext f2
  have F2 := Ext.trans f1 f2
  have pc : Pt (slP qc 0 cc 1) := Lc.pt.slP _ _
  refine ⟨by omega, by omega, ?_⟩
  rw [Int.toNat_natCast]
  refine ⟨by omega, by omega, ?_⟩
  rw [Int.toNat_natCast]
  have Ix : ∀ {g}, Ext h2 g → IntsH g (slP qc 0 cc 1) xs := fun e => (lent_ints Lc2).ext e
  have Iy : ∀ {g}, Ext h2 g → IntsH g (slP qd 0 cd 1) ys := fun e => (lent_ints Ld).ext e
  refine K36 (ht.ext F2) (Ix Fr.rfl') hn (by omega) pc (Iy Fr.rfl') hm fun ps ns cs h3 f3 Ls => ⟨_, _, _, _, rfl, ?_⟩
  refine ⟨by omega, by omega, ?_⟩
  rw [Int.toNat_natCast]
  refine ⟨by omega, by omega, ?_⟩
  rw [Int.toNat_natCast]
  refine K43 ((ht.ext F2).ext f3) (Ix f3) hn (by omega) pc (Iy f3) hm fun pt nt ct h4 f4 Lt => ⟨_, _, _, _, rfl, ?_⟩
  refine ⟨by omega, by omega, ?_⟩
  rw [Int.toNat_natCast]
  refine ⟨by omega, by omega, ?_⟩
  rw [Int.toNat_natCast]
  have hnm : n * m ≤ 120 * 120 := Nat.mul_le_mul hln hlm
  refine K40 (((ht.ext F2).ext f3).ext f4) (Ix (Ext.trans f3 f4)) hn (by omega) (Iy (Ext.trans f3 f4)) hm (show n * m ≤ 100000 by omega) fun pu nu cu h5 f5 Lu => ⟨_, _, _, _, rfl, ?_⟩
  have F25 := Ext.trans f3 (Ext.trans f4 f5)
  have F5 := Ext.trans F2 F25
  have s1 := f1.size
  have s2 := f2.size
  have s3 := f3.size
  have s4 := f4.size
  have s5 := f5.size
  have hcb : ∀ x, Blk qc x → h.size ≤ x := fun x ⟨o, e⟩ => Lc.fresh x o e
  have hcl : ∀ x, Blk qc x → x < h1.size := fun x hx => (Lc.room.ptB (by omega)).lt hx
  have hdb : ∀ x, Blk qd x → h1.size ≤ x := fun x ⟨o, e⟩ => Ld.fresh x o e
  have hdl : ∀ x, Blk qd x → x < h2.size := fun x hx => (Ld.room.ptB (by omega)).lt hx
  refine K81 (Lc2.ext F25) (I.ext F5) hn (by omega) fun h6 f6 => ⟨_, rfl, fun e => (by cases e), fun _ => ?_⟩
  have Ld6 : Lj h1 h6 qd (m + 3) cd (ys ++ [-71, -72, -73]) := (Ld.ext F25).frS f6 fun x hx k => by have := hcl x k; omega
  have F6 : Ext h h6 := Fr.trans (S := fun _ => False) F5 f6 fun x hx k => by have := hcb x k; omega
  refine K81 Ld6 (J.ext F6) hm (by omega) fun h7 f7 => ⟨_, rfl, fun e => (by cases e), fun _ => ?_⟩
  have F7 : Ext h h7 := Fr.trans (S := fun _ => False) F6 f7 fun x hx k => by have := hdb x k; omega
  have s6 := f6.size
  have s7 := f7.size
  have K7 := K.ext F7
  have off : ∀ {lo hi : Nat} {pz : Option Addr} {nz cz : Nat} {wz : List Int}, h2.size ≤ lo → Out h5 (Off lo hi) pz nz cz wz → Out h7 (Off lo hi) pz nz cz wz := fun hlo L =>
    (L.off f6 fun x b1 b2 k => by have := hcl x k; omega).off f7 fun x b1 b2 k => by have := hdl x k; omega
  have Ls7 : Out h7 (Off h2.size h3.size) ps ns cs (sumAns xs ys).1 := off (Nat.le_refl _) ((Ls.off.ext f4).ext f5)
  have Lt7 : Out h7 (Off h3.size h4.size) pt nt ct (diffAns xs ys).1 := off (by omega) (Lt.off.ext f5)
  have Lu7 : Out h7 (Off h4.size h5.size) pu nu cu (prodAns xs ys).1 := off (by omega) Lu.off
  have low : ∀ x, KT r pL pW es x → x < h2.size := fun x k => by have := K.lt k; omega
  have I7 := I.ext F7
  have J7 := J.ext F7
  -- invalid
  have bad : ∀ g, Ext h7 g → (validP xs && validP ys) = false → F42_j105 B R (some ⟨r, 0, none⟩) p n c q m d ps ns cs (sumAns xs ys).2 pt nt ct (diffAns xs ys).2 pu nu cu (prodAns xs ys).2 true g := by
    intro g fg hv
    have e1 : sumAns xs ys = ([], 1) := by unfold sumAns; rw [hv]; rfl
    have e2 : diffAns xs ys = ([], 1) := by unfold diffAns; rw [hv]; rfl
    have e3 : prodAns xs ys = ([], 1) := by unfold prodAns; rw [hv]; rfl
    rw [e1] at Ls7 ⊢
    rw [e2] at Lt7 ⊢
    rw [e3] at Lu7 ⊢
    have n1 : ns = 0 := Ls7.len.symm
    have n2 : nt = 0 := Lt7.len.symm
    have n3 : nu = 0 := Lu7.len.symm
    subst n1 n2 n3
    refine ⟨fun _ => K85a (by decide) ⟨_, rfl, fun _ => K85a (by decide) ⟨_, rfl, fun _ => K85a (by decide) ⟨_, rfl, ?_⟩, fun e => (by cases e)⟩, fun e => (by cases e)⟩, fun e => (by cases e)⟩
    have Kg := K7.ext fg
    have Fg := Ext.trans F7 fg
    exact H pL cL pW cW [] g (by rw [List.append_nil]; exact Kg) (by simp) Fg.to (fun _ _ k => k) fun b k => by rw [List.append_nil] at k; exact .inl k
  have good : ∀ g, Ext h7 g → (validP xs && validP ys) = true → F42_j105 B R (some ⟨r, 0, none⟩) p n c q m d ps ns cs (sumAns xs ys).2 pt nt ct (diffAns xs ys).2 pu nu cu (prodAns xs ys).2 false g := by
    intro g fg hv
    have e1 : sumAns xs ys = ansOf (sumP xs ys) := by unfold sumAns; rw [hv]; rfl
    have e2 : diffAns xs ys = ansOf (sumP xs (ys.map negP)) := by unfold diffAns; rw [hv]; rfl
    have e3 : prodAns xs ys = ansOf (prodP xs [] ys) := by unfold prodAns; rw [hv]; rfl
    rw [e1] at Ls7 ⊢
    rw [e2] at Lt7 ⊢
    rw [e3] at Lu7 ⊢
    have sg := fg.size
    have Pg : PtB g p := hpt.mono (by omega)
    have Qg : PtB g q := hqt.mono (by omega)
    refine ⟨fun e => (by cases e), fun _ => K96 (I7.ext fg) hn Pg (J7.ext fg) hm Qg (by omega) fun q1 m1 c1 h8 f8 L8 => ⟨_, _, _, _, rfl, ?_⟩⟩
    refine K97 ((I7.ext fg).ext f8) hn (Pg.mono f8.size) ((J7.ext fg).ext f8) hm (by omega) fun q2 m2 c2 h9 f9 L9 => ⟨_, _, _, _, rfl, ?_⟩
    refine K98 (((I7.ext fg).ext f8).ext f9) hn ((Pg.mono f8.size).mono f9.size) (((J7.ext fg).ext f8).ext f9) hm ((Qg.mono f8.size).mono f9.size) (by omega) (by omega) (by omega) fun q3 m3 c3 h10 f10 L10 => ⟨_, _, _, _, rfl, ?_⟩
    have G := Ext.trans (Ext.trans fg f8) (Ext.trans f9 f10)
    have s8 := f8.size
    have s9 := f9.size
    have s10 := f10.size
    have out : ∀ {g0 g1 : Heap} {pz : Option Addr} {nz cz : Nat} {wz : List Int}, h2.size ≤ g0.size → Lj g0 g1 pz nz cz wz → Rd g1 (KB r pL pW) pz wz := fun hlo L =>
      (L.out (T := KB r pL pW) fun x b1 b2 k => by have := low x (.inl k); omega).rd
    have R8 : Rd h10 (KB r pL pW) q1 _ := ((out (by omega) L8).fr f9 (fun _ _ k => k.elim) fun _ _ k => k).fr f10 (fun _ _ k => k.elim) fun _ _ k => k
    have R9 : Rd h10 (KB r pL pW) q2 _ := (out (by omega) L9).fr f10 (fun _ _ k => k.elim) fun _ _ k => k
    have R10 : Rd h10 (KB r pL pW) q3 _ := out (by omega) L10
    have b1 := ansOf_len (sumP xs ys)
    have b2 := ansOf_len (sumP xs (ys.map negP))
    have b3 := ansOf_len (prodP xs [] ys)
    have n1 := Ls7.len
    have n2 := Lt7.len
    have n3 := Lu7.len
    exact add3 (K7.ext G) hl (Ls7.ext G) (Lt7.ext G) (Lu7.ext G) (by omega) (by omega) (by omega) (by omega) (by omega) low (Ext.trans F7 G) R8 L8.len L8.pt R9 L9.len L9.pt R10 L10.len L10.pt (by omega) (by omega) (by omega) H
  refine K78 I7 hn fun h8 f8 => ⟨_, rfl, fun e => ?_, fun e => ?_⟩
  · have hv : validP xs = false := by revert e; cases validP xs <;> simp
    exact bad h8 f8 (by rw [hv]; rfl)
  · have hv : validP xs = true := by revert e; cases validP xs <;> simp
    refine K78 (J7.ext f8) hm fun h9 f9 => ⟨_, rfl, ?_⟩
    cases hw : validP ys
    · exact bad h9 (Ext.trans f8 f9) (by rw [hv, hw]; rfl)
    · exact good h9 (Ext.trans f8 f9) (by rw [hv, hw]; rfl)
end Go.Proofs
set_option linter.unusedVariables false
namespace Go.Proofs
open Go Go.Eng
variable {B : World} {R : Ending → Heap → Prop} {h : Heap}
/-- plumblaw7.ExpansionPairs. -/
theorem K11 {p q : Option Addr} {n c m d : Nat} (ht : TabH h) (hs1 : SlH h p n c) (hs2 : SlH h q m d) (H : ∀ h', Ext h h' → R (.returned (.bool true)) h') : Ent Tryz.prog B 11 #[.slice p n c, .slice q m d] R h := by
  obtain ⟨xs, I, hn, hpt, hc⟩ := hs1
  obtain ⟨ys, J, hm, hqt, hd⟩ := hs2
  refine F11_ok _ _ _ _ _ _ (alK fun r h4 e4 f4 o4 z4 => ?_)
  have j5t : F11_j5 B R p n c q m d (some ⟨r, 0, none⟩) true h4 := ⟨fun _ => K29 (ht.ext f4) fun h6 f6 => ⟨_, rfl, H h6 (Ext.trans f4 f6)⟩, fun e => (by cases e)⟩
  have j5f : n ≤ 120 → m ≤ 120 → F11_j5 B R p n c q m d (some ⟨r, 0, none⟩) false h4 := by
    intro hn1 hm1
    refine ⟨fun e => (by cases e), fun _ => K29 (ht.ext f4) fun h6 f6 => ⟨_, rfl, fun _ => ?_, fun e => (by cases e)⟩⟩
    have F6 := Ext.trans f4 f6
    have K0 : Kept h6 r none 0 none 0 [] := (Kept.new o4).ext f6
    have s6 := F6.size
    have s4 := f4.size
    refine K42 (ht.ext F6) (I.ext F6) hn (hpt.mono s6) (fun x hx k => by have := KB0 k; have := hpt.lt hx; omega) (J.ext F6) hm (hqt.mono s6) (fun x hx k => by have := KB0 k; have := hqt.lt hx; omega) hn1 hm1 K0 (by decide) fun pL cL pW cW es h7 K7 l7 F7 B7 Z7 => ⟨_, rfl, fun _ => ?_, fun e => (by cases e)⟩
    rw [List.nil_append] at K7
    have G7 : Ext h h7 := Fr.trans (S := fun _ => False) F6 F7 fun x hx k => by have := KB0 k; omega
    have s7 := F7.size
    have lowZ : ∀ x, KT r pL pW es x → h.size ≤ x := fun x k => by
      rcases Z7 x k with k | k
      · have := KT0 k; omega
      · omega
    refine K42 (ht.ext G7) (J.ext G7) hm (hqt.mono G7.size) (fun x hx k => by have := lowZ x (.inl k); have := hqt.lt hx; omega) (I.ext G7) hn (hpt.mono G7.size) (fun x hx k => by have := lowZ x (.inl k); have := hpt.lt hx; omega) hm1 hn1 K7 (by omega) fun pL2 cL2 pW2 cW2 es2 h8 K8 l8 F8 B8 Z8 => ⟨_, rfl, fun _ => ?_, fun e => (by cases e)⟩
    have G8 : Ext h h8 := Fr.trans (S := fun _ => False) G7 F8 fun x hx k => by have := lowZ x (.inl k); omega
    refine K31 K8 (by rw [List.length_append]; omega) fun h9 F9 => ⟨_, rfl, H h9 ?_⟩
    refine Fr.trans (S := fun _ => False) G8 F9 fun x hx k => ?_
    rcases Z8 x k with k | k
    · have := lowZ x k; omega
    · omega
  refine ⟨fun _ => ⟨fun _ => j5t, fun e => (by cases e)⟩, fun e => ⟨fun _ => j5t, fun e1 => ?_⟩⟩
  have hn1 : n ≤ 120 := by have := of_decide_eq_false e1; omega
  by_cases hm1 : m ≤ 120
  · rw [decide_eq_false (by omega)]
    exact j5f hn1 hm1
  · rw [decide_eq_true (by omega)]
    exact j5t
end Go.Proofs
