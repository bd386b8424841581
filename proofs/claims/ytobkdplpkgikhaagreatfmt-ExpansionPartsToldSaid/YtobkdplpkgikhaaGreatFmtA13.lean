import Derived.Test.YtobkdplpkgikhaaGreatFmtA10
import Derived.Test.YtobkdplpkgikhaaGreatFmtA11
import Derived.Test.YtobkdplpkgikhaaGreatFmtA12
import Derived.Test.YtobkdplpkgikhaaGreatFmtA01
import Derived.Laws.Externs
import Derived.Laws.Twins
/- Here stand lemmas and contracts, in the order in which they are used. -/
set_option linter.unusedVariables false
namespace Go.Proofs
open Go Go.Eng

variable {B : World} {R : Ending → Heap → Prop} {h : Heap}
/-- A function without a body here that the model answers. -/
theorem Ent.of_ext {P : Program} {f : FuncId} {fn : Func} {e : Array Value → Sem Value} {args : Array Value} {v : Value} (hf : P.funcs[f]? = some fn) (hname : (fn.name == "runtime.NumGoroutine") = false)
    (hb : fn.body.isNone = true) (hn : Extern.findNext fn = none) (he : Extern.find fn = some e) (hr : e args = pure v) (H : R (.returned v) h) : Ent P B f args R h :=
  Ent.of_run (fun w => by rw [run_callFunc_extern hf hname hb hn he, hr]; rfl) H
theorem Ent.of_twin {P : Program} {f g : FuncId} {fn tw : Func} {twin : String} {args : Array Value} (hf : P.funcs[f]? = some fn) (hname : (fn.name == "runtime.NumGoroutine") = false)
    (hb : fn.body.isNone = true) (hn : Extern.findNext fn = some (Extern.Twins.call twin fn.params fn.resultTypes))
    (hw : P.funcs.findIdx? (·.name == twin) = some g) (hg : P.funcs[g]? = some tw) (hp : tw.params = fn.params) (hr : tw.resultTypes = fn.resultTypes) (hbt : tw.body.isNone = false) (hnt : (tw.name == "runtime.NumGoroutine") = false)
    (H : Ent P B g args R h) : Ent P B f args R h := by
  have hrun := run_callFunc_twin hf hname hb hn hw hg hp hr hbt args
  rcases H with ⟨g', h1, h2⟩ | H
  · have hE : Enters P g := enters_of hg hnt hbt
    have : g' = g := by
      have a := h1 (mk B h 0); rw [hE] at a
      cases a; rfl
    subst this
    exact .inl ⟨_, hrun, h2⟩
  · exfalso
    have hE : Enters P g := enters_of hg hnt hbt
    obtain ⟨v, h', n', h1, _⟩ := H 0
    rw [hE] at h1; cases h1

theorem E202 {args : Array Value} (H : Ent Tryz.prog B 92 args R h) : Ent Tryz.prog B 167 args R h :=
  Ent.of_twin (twin := "math/big.addVV_g") Tryz.func167 (by kernel_rfl) (by kernel_rfl) (by kernel_rfl) (by kernel_rfl) Tryz.func92 (by kernel_rfl) (by kernel_rfl) (by kernel_rfl) (by kernel_rfl) H
theorem E195 {args : Array Value} (H : Ent Tryz.prog B 93 args R h) : Ent Tryz.prog B 160 args R h :=
  Ent.of_twin (twin := "math/big.subVV_g") Tryz.func160 (by kernel_rfl) (by kernel_rfl) (by kernel_rfl) (by kernel_rfl) Tryz.func93 (by kernel_rfl) (by kernel_rfl) (by kernel_rfl) (by kernel_rfl) H
theorem E206 {args : Array Value} (H : Ent Tryz.prog B 94 args R h) : Ent Tryz.prog B 154 args R h :=
  Ent.of_twin (twin := "math/big.lshVU_g") Tryz.func154 (by kernel_rfl) (by kernel_rfl) (by kernel_rfl) (by kernel_rfl) Tryz.func94 (by kernel_rfl) (by kernel_rfl) (by kernel_rfl) (by kernel_rfl) H
theorem E201 {args : Array Value} (H : Ent Tryz.prog B 95 args R h) : Ent Tryz.prog B 166 args R h :=
  Ent.of_twin (twin := "math/big.rshVU_g") Tryz.func166 (by kernel_rfl) (by kernel_rfl) (by kernel_rfl) (by kernel_rfl) Tryz.func95 (by kernel_rfl) (by kernel_rfl) (by kernel_rfl) (by kernel_rfl) H
theorem E247 {args : Array Value} (H : Ent Tryz.prog B 96 args R h) : Ent Tryz.prog B 217 args R h :=
  Ent.of_twin (twin := "math/big.mulAddVWW_g") Tryz.func217 (by kernel_rfl) (by kernel_rfl) (by kernel_rfl) (by kernel_rfl) Tryz.func96 (by kernel_rfl) (by kernel_rfl) (by kernel_rfl) (by kernel_rfl) H

theorem E219 {x y c : Nat} (hc : c ≤ 1) (H : R (.returned (.tuple #[.int .u64 (((x + y + c) % 18446744073709551616 : Nat) : Int), .int .u64 (((x + y + c) / 18446744073709551616 : Nat) : Int)])) h) :
    Ent Tryz.prog B 183 #[.int .u64 (x : Int), .int .u64 (y : Int), .int .u64 (c : Int)] R h :=
  Ent.of_ext (e := fun args => do
    let (x, y, c) ← Extern.MathBitsCarry.three "Add64" args
    pure (Extern.MathBitsCarry.pair ((x + y + c) % Extern.MathBitsCarry.m64) ((x + y + c) / Extern.MathBitsCarry.m64))) Tryz.func183 (by kernel_rfl) (by kernel_rfl) (by kernel_rfl) (by kernel_rfl) (by
      rcases (by omega : c = 0 ∨ c = 1) with rfl | rfl <;> rfl) H
theorem E217 {x y c : Nat} (hc : c ≤ 1) (H : R (.returned (.tuple #[.int .u64 (((x + 18446744073709551616 - y - c) % 18446744073709551616 : Nat) : Int), .int .u64 (((if x < y + c then 1 else 0) : Nat) : Int)])) h) :
    Ent Tryz.prog B 181 #[.int .u64 (x : Int), .int .u64 (y : Int), .int .u64 (c : Int)] R h :=
  Ent.of_ext (e := fun args => do
    let (x, y, b) ← Extern.MathBitsCarry.three "Sub64" args
    pure (Extern.MathBitsCarry.pair ((x + Extern.MathBitsCarry.m64 - y - b) % Extern.MathBitsCarry.m64) (if x < y + b then 1 else 0))) Tryz.func181 (by kernel_rfl) (by kernel_rfl) (by kernel_rfl) (by kernel_rfl) (by
      rcases (by omega : c = 0 ∨ c = 1) with rfl | rfl <;> rfl) H
theorem E116 {n : Nat} (H : R (.returned (.float .f64 n)) h) : Ent Tryz.prog B 46 #[.int .u64 (n : Int)] R h :=
  Ent.of_ext (e := Extern.MathFloatBits.float64frombits) Tryz.func46 (by kernel_rfl) (by kernel_rfl) (by kernel_rfl) (by kernel_rfl) rfl H
theorem E117 {n : Nat} (H : R (.returned (.int .u64 (n : Int))) h) : Ent Tryz.prog B 47 #[.float .f64 n] R h :=
  Ent.of_ext (e := Extern.MathFloatBits.float64bits) Tryz.func47 (by kernel_rfl) (by kernel_rfl) (by kernel_rfl) (by kernel_rfl) rfl H
end Go.Proofs
namespace Go.Proofs
open Go Go.Eng
variable {B : World} {R : Ending → Heap → Prop} {h : Heap}
abbrev B64 : Nat := 18446744073709551616
theorem K204 {x y c : Nat} (hc : c ≤ 1) (H : R (.returned (.tuple #[.int .u64 (((x + y + c) % B64 : Nat) : Int), .int .u64 (((x + y + c) / B64 : Nat) : Int)])) h) :
    Ent Tryz.prog B 169 #[.int .u64 (x : Int), .int .u64 (y : Int), .int .u64 (c : Int)] R h :=
  F204_ok _ _ _ ⟨fun e => Bool.noConfusion e, fun _ => E219 hc ⟨_, _, rfl, H⟩⟩
theorem K198 {x y c : Nat} (hc : c ≤ 1) (H : R (.returned (.tuple #[.int .u64 (((x + B64 - y - c) % B64 : Nat) : Int), .int .u64 (((if x < y + c then 1 else 0) : Nat) : Int)])) h) :
    Ent Tryz.prog B 163 #[.int .u64 (x : Int), .int .u64 (y : Int), .int .u64 (c : Int)] R h :=
  F198_ok _ _ _ ⟨fun e => Bool.noConfusion e, fun _ => E217 hc ⟨_, _, rfl, H⟩⟩

theorem i64_in {x : Int} (h1 : -9223372036854775808 ≤ x) (h2 : x < 9223372036854775808) : IntKind.i64.wrap x = x := wrap_i64_in h1 h2

/-- addVV: z (n words from bz, oz on) becomes x + y. -/
theorem K138 {pz px py : Option Addr} {bz oz n zc xc yc : Nat} {xs ys : List Nat} {cs : Array Value}
    (hz : pz = some ⟨bz, oz, none⟩) (hO : Own h bz cs) (hn : oz + n ≤ cs.size) (hx : Sl .u64 h px xs) (hy : Sl .u64 h py ys) (lx : xs.length = n) (ly : ys.length = n) (hlim : n < 9223372036854775807)
    (dx : Dig B64 xs) (dy : Dig B64 ys) (nx : ∀ b o, px = some ⟨b, o, none⟩ → b ≠ bz ∨ oz ≤ o) (ny : ∀ b o, py = some ⟨b, o, none⟩ → b ≠ bz ∨ oz ≤ o)
    (H : ∀ (zs : List Nat) (c : Nat) (h' : Heap), Wrote .u64 h h' bz oz zs → zs.length = n → Dig B64 zs → c ≤ 1 → val B64 zs + B64 ^ n * c = val B64 xs + val B64 ys → R (.returned (.int .u64 (c : Int))) h') :
    Ent Tryz.prog B 92 #[.slice pz n zc, .slice px n xc, .slice py n yc] R h := by
  refine F138_ok _ _ _ _ _ _ _ _ _ ⟨fun e => by simp at e, fun _ => ⟨fun e => by simp at e, fun _ => ?_⟩⟩
  refine ⟨fun m vs h' => match vs with
    | [.slice p1 n1 _, .slice p2 n2 _, .slice p3 n3 _, .int _ c, .int _ nn, .int _ i] => p1 = pz ∧ n1 = n ∧ p2 = px ∧ n2 = n ∧ p3 = py ∧ n3 = n ∧ nn = (n : Int) ∧ ∃ (zs : List Nat) (cc : Nat),
        Wrote .u64 h h' bz oz zs ∧ i = (zs.length : Int) ∧ c = (cc : Int) ∧ zs.length ≤ n ∧ m = n - zs.length ∧ Dig B64 zs ∧ cc ≤ 1 ∧ val B64 zs + B64 ^ zs.length * cc = val B64 (xs.take zs.length) + val B64 (ys.take zs.length)
    | _ => False, n, ⟨rfl, rfl, rfl, rfl, rfl, rfl, rfl, [], 0, Wrote.nil hO, rfl, rfl, by simp, by simp, Dig.nil, by omega, by simp [val]⟩, ?_⟩
  rintro m h' _ n2 _ _ _ _ _ _ _ _ _ _ ⟨rfl, rfl, rfl, e2, rfl, e3, rfl, zs, c, W, rfl, rfl, hle, rfl, dz, hc, hv⟩ _
  subst e2 e3 hz
  refine ⟨fun e => ?_, fun e => ?_⟩
  · have hlt : zs.length < xs.length := by simp at e; omega
    refine hx.getW W zs.length rfl hlt (by omega) (fun b o hb => by have := nx b o hb; omega) ?_
    refine hy.getW W zs.length rfl (by omega) (by omega) (fun b o hb => by have := ny b o hb; omega) ?_
    have bx := dx.get hlt
    have by' := dy.get (i := zs.length) (by omega)
    refine K204 hc ⟨_, _, rfl, ?_⟩
    refine W.put hO _ rfl rfl (by omega) hn fun W' => ?_
    refine ⟨_, ?_, rfl, rfl, rfl, by omega, rfl, by omega, rfl, _, _, W', ?_, rfl, by simp; omega, rfl, dz.snoc (Nat.mod_lt _ (by decide)), ?_, ?_⟩
    · simp; omega
    · rw [i64_in (by omega) (by omega)]; simp
    · have : (xs[zs.length] + ys[zs.length] + c) / B64 < 2 := Nat.div_lt_of_lt_mul (by omega)
      omega
    · simp only [List.length_append, List.length_singleton]
      rw [val_snoc, val_take_succ _ _ hlt, val_take_succ _ _ (by omega : zs.length < ys.length), Nat.pow_succ]
      have key := Nat.mod_add_div (xs[zs.length] + ys[zs.length] + c) B64
      have e2 : B64 ^ zs.length * ((xs[zs.length] + ys[zs.length] + c) % B64) + B64 ^ zs.length * (B64 * ((xs[zs.length] + ys[zs.length] + c) / B64)) = B64 ^ zs.length * xs[zs.length] + B64 ^ zs.length * ys[zs.length] + B64 ^ zs.length * c := by
        rw [← Nat.mul_add, key, Nat.mul_add, Nat.mul_add]
      rw [Nat.mul_assoc]
      omega
  · have hl : zs.length = xs.length := by simp at e; omega
    exact H zs c h' W (by omega) dz hc (by rw [← lx, ← hl, hv, List.take_of_length_le (by omega), List.take_of_length_le (by omega)])
end Go.Proofs
namespace Go.Eng
open Go
theorem fdiv_pow {x s : Nat} (hs : s < 64) : Int.fdiv (x : Int) (2 ^ min (Int.toNat (s : Int)) IntKind.u64.bits) = ((x / 2 ^ s : Nat) : Int) := by
  have : min (Int.toNat (s : Int)) IntKind.u64.bits = s := by
    rw [Int.toNat_natCast]; exact Nat.min_eq_left (by have : IntKind.u64.bits = 64 := rfl; omega)
  rw [this]
  have e : ((2 : Int) ^ s) = ((2 ^ s : Nat) : Int) := by rw [Int.natCast_pow]; rfl
  rw [e, Int.fdiv_eq_ediv_of_nonneg _ (Int.natCast_nonneg _)]; rfl
theorem wrap_u64_nat (x : Nat) : IntKind.u64.wrap (x : Int) = ((x % 18446744073709551616 : Nat) : Int) := by
  have h : IntKind.u64.wrap (x : Int) = (x : Int) % 18446744073709551616 := by
    rfl
  rw [h]; rfl
theorem shl_pow {x s : Nat} (hs : s < 64) : IntKind.u64.wrap ((x : Int) * 2 ^ min (Int.toNat (s : Int)) IntKind.u64.bits) = ((x * 2 ^ s % 18446744073709551616 : Nat) : Int) := by
  have : min (Int.toNat (s : Int)) IntKind.u64.bits = s := by
    rw [Int.toNat_natCast]; exact Nat.min_eq_left (by have : IntKind.u64.bits = 64 := rfl; omega)
  rw [this]
  have e : ((x : Int) * (2 : Int) ^ s) = ((x * 2 ^ s : Nat) : Int) := by rw [Int.natCast_mul, Int.natCast_pow]; rfl
  rw [e, wrap_u64_nat]
theorem ofInt_nat (n x : Nat) : BitVec.ofInt n (x : Int) = BitVec.ofNat n x := BitVec.ofInt_natCast _ _
theorem bitsI_and {a b : Nat} (ha : a < 18446744073709551616) : bitsI .and .u64 (a : Int) (b : Int) = ((a &&& (b % 18446744073709551616) : Nat) : Int) := by
  unfold bitsI
  simp only [ofInt_nat]
  rw [wrap_u64_nat]
  show (((BitVec.ofNat 64 a &&& BitVec.ofNat 64 b).toNat % 18446744073709551616 : Nat) : Int) = _
  rw [BitVec.toNat_and, BitVec.toNat_ofNat, BitVec.toNat_ofNat]
  have h1 : a % 2 ^ 64 = a := Nat.mod_eq_of_lt (by omega)
  rw [h1]
  have : a &&& (b % 2 ^ 64) < 18446744073709551616 := Nat.lt_of_le_of_lt Nat.and_le_left ha
  rw [Nat.mod_eq_of_lt this]
theorem bitsI_or {a b : Nat} (ha : a < 18446744073709551616) (hb : b < 18446744073709551616) : bitsI .or .u64 (a : Int) (b : Int) = ((a ||| b : Nat) : Int) := by
  unfold bitsI
  simp only [ofInt_nat]
  rw [wrap_u64_nat]
  show (((BitVec.ofNat 64 a ||| BitVec.ofNat 64 b).toNat % 18446744073709551616 : Nat) : Int) = _
  rw [BitVec.toNat_or, BitVec.toNat_ofNat, BitVec.toNat_ofNat]
  rw [Nat.mod_eq_of_lt (by omega : a < 2 ^ 64), Nat.mod_eq_of_lt (by omega : b < 2 ^ 64)]
  have : a ||| b < 2 ^ 64 := Nat.or_lt_two_pow (by omega) (by omega)
  rw [Nat.mod_eq_of_lt (by omega)]
theorem bitsI_and63 {s : Nat} (hs : s < 64) : bitsI .and .u64 (s : Int) (63 : Int) = (s : Int) := by
  have := bitsI_and (a := s) (b := 63) (by omega)
  rw [show ((63 : Nat) : Int) = 63 from rfl] at this
  rw [this, show s &&& (63 % 18446744073709551616) = s % 2 ^ 6 from Nat.and_two_pow_sub_one_eq_mod s 6, Nat.mod_eq_of_lt (by omega)]
theorem sub64 {s : Nat} (h0 : 0 < s) (hs : s < 64) : bitsI .and .u64 (IntKind.u64.wrap ((64 : Int) - (s : Int))) (63 : Int) = ((64 - s : Nat) : Int) := by
  rw [show ((64 : Int) - (s : Int)) = ((64 - s : Nat) : Int) from by omega, wrap_u64_nat, Nat.mod_eq_of_lt (by omega), bitsI_and63 (by omega)]
/-- What is shifted up and what comes from below do not meet. -/
theorem or_add {a b s : Nat} (hb : b < 2 ^ s) : a * 2 ^ s ||| b = a * 2 ^ s + b := by
  rw [Nat.mul_comm]; exact (Nat.two_pow_add_eq_or_of_lt hb a).symm
end Go.Eng
namespace Go.Proofs
open Go Go.Eng
variable {B : World} {R : Ending → Heap → Prop} {h : Heap}
/-- lshVU, s below 64. -/
theorem K140 {pz px : Option Addr} {bz oz n zc xc s : Nat} {xs : List Nat} {cs : Array Value}
    (hz : pz = some ⟨bz, oz, none⟩) (hO : Own h bz cs) (hn : oz + n ≤ cs.size) (hx : Sl .u64 h px xs) (ppx : Pt px) (lx : xs.length = n) (hlim : n < 9223372036854775807)
    (dx : Dig B64 xs) (nx : ∀ b o, px = some ⟨b, o, none⟩ → b ≠ bz ∨ o ≤ oz) (hs : s < 64)
    (H : ∀ (zs : List Nat) (c : Nat) (h' : Heap), Wrote .u64 h h' bz oz zs → zs.length = n → Dig B64 zs → c < B64 → val B64 zs + B64 ^ n * c = val B64 xs * 2 ^ s → R (.returned (.int .u64 (c : Int))) h') :
    Ent Tryz.prog B 94 #[.slice pz n zc, .slice px n xc, .int .u64 (s : Int)] R h := by
  have hB : B64 = 18446744073709551616 := rfl
  refine F140_ok _ _ _ _ _ _ _ ⟨fun e => by simp at e, fun _ => ⟨fun e => ?_, fun e => ⟨fun e2 => ?_, fun e2 => ?_⟩⟩⟩
  · have e : s = 0 := by simpa using e
    subst e hz
    refine copyK hx lx ppx hO hn fun h' W => ?_
    have hm : Nat.min n n = n := Nat.min_self n
    rw [hm, List.take_of_length_le (by omega)] at W
    exact H xs 0 h' W lx dx (by decide) (by simp)
  · have e2 : n = 0 := by simpa using e2
    subst e2 hz
    have : xs = [] := List.eq_nil_of_length_eq_zero lx
    subst this
    exact H [] 0 h (Wrote.nil hO) rfl Dig.nil (by decide) (by simp [val])
  · have h0 : 0 < s := by simp at e; omega
    have hn0 : 0 < n := by simp at e2; omega
    have hp : 2 ^ s * 2 ^ (64 - s) = B64 := by rw [← Nat.pow_add, show s + (64 - s) = 64 by omega]
    rw [i64_in (by omega) (by omega), bitsI_and63 hs, sub64 h0 hs]
    refine hx.get (n - 1) (by omega) (by omega) (by omega) ⟨by omega, ?_⟩
    rw [fdiv_pow (by omega)]
    have hlast : xs[n - 1]'(by omega) < B64 := dx.get (by omega)
    refine ⟨fun m vs h' => match vs with
      | [.slice p1 n1 _, .slice p2 n2 _, .int _ s', .int _ c, .int _ s2, .int _ i] => p1 = pz ∧ n1 = n ∧ p2 = px ∧ n2 = n ∧ s' = (s : Int) ∧ s2 = ((64 - s : Nat) : Int) ∧ c = ((xs[n - 1]'(by omega) / 2 ^ (64 - s) : Nat) : Int) ∧
        ∃ zs : List Nat, Wrote .u64 h h' bz (oz + m + 1) zs ∧ i = (m : Int) ∧ m < n ∧ zs.length = n - 1 - m ∧ Dig B64 zs ∧
          val B64 zs + B64 ^ (n - 1 - m) * (xs[n - 1]'(by omega) / 2 ^ (64 - s)) = val B64 (xs.drop (m + 1)) * 2 ^ s + (if h : m < xs.length then xs[m] / 2 ^ (64 - s) else 0)
      | _ => False, n - 1, ⟨rfl, rfl, rfl, rfl, rfl, rfl, rfl, [], ?_, by omega, by omega, by simp, Dig.nil, ?_⟩, ?_⟩
    · rw [show oz + (n - 1) + 1 = oz + n by omega]; exact Wrote.nil hO
    · rw [dif_pos (by omega : n - 1 < xs.length), show n - 1 + 1 = n by omega, List.drop_of_length_le (by omega)]; simp [val]
    rintro m h' _ n1 _ _ n2 _ _ _ _ _ ⟨rfl, e3, rfl, e4, rfl, rfl, rfl, zs, W, rfl, hm, hzl, dz, hv⟩ _
    rw [dif_pos (by omega : m < xs.length)] at hv
    have e3 := e3.symm
    have e4 := e4.symm
    subst hz e3 e4
    have hps : 0 < 2 ^ s := Nat.pow_pos (by decide)
    refine ⟨fun e => ?_, fun e => ?_⟩
    · have hm0 : 0 < m := by simp at e; omega
      refine hx.getW W m rfl (by omega) (by omega) (fun b o hb => by have := nx b o hb; omega) ⟨by omega, ?_⟩
      rw [i64_in (by omega) (by omega)]
      refine hx.getW W (m - 1) (by omega) (by omega) (by omega) (fun b o hb => by have := nx b o hb; omega) ⟨by omega, ?_⟩
      rw [fdiv_pow (by omega), shl_pow hs]
      have d1 : xs[m]'(by omega) < B64 := dx.get (by omega)
      have d2 : xs[m - 1]'(by omega) < B64 := dx.get (by omega)
      have q1 : xs[m - 1]'(by omega) / 2 ^ (64 - s) < 2 ^ s := Nat.div_lt_of_lt_mul (by rw [Nat.mul_comm, hp]; exact d2)
      have q2 : xs[m]'(by omega) * 2 ^ s % B64 = xs[m]'(by omega) % 2 ^ (64 - s) * 2 ^ s := by rw [← hp, Nat.mul_comm (2 ^ s), Nat.mul_mod_mul_right]
      have q3 : xs[m]'(by omega) % 2 ^ (64 - s) * 2 ^ s + 2 ^ s ≤ B64 := by
        have : xs[m]'(by omega) % 2 ^ (64 - s) + 1 ≤ 2 ^ (64 - s) := Nat.mod_lt _ (Nat.pow_pos (by decide))
        have := Nat.mul_le_mul_right (2 ^ s) this
        rw [Nat.add_mul, Nat.one_mul, Nat.mul_comm (2 ^ (64 - s)), hp] at this
        exact this
      rw [q2, bitsI_or (by omega) (by omega), or_add q1]
      refine W.putd hO _ rfl rfl (by omega) hn fun W' => ?_
      refine ⟨m - 1, by omega, rfl, rfl, rfl, rfl, rfl, rfl, rfl, _, by rw [show oz + (m - 1) + 1 = oz + m by omega]; exact W', ?_, by omega, by simp; omega, dz.cons (by omega), ?_⟩
      · rw [i64_in (by omega) (by omega)]; omega
      · rw [dif_pos (by omega : m - 1 < xs.length), show m - 1 + 1 = m by omega, val_drop _ _ (by omega : m < xs.length), val, show n - 1 - (m - 1) = (n - 1 - m) + 1 by omega, Nat.pow_succ]
        have key := Nat.mod_add_div (xs[m]'(by omega)) (2 ^ (64 - s))
        have k2 : xs[m]'(by omega) * 2 ^ s = xs[m]'(by omega) % 2 ^ (64 - s) * 2 ^ s + B64 * (xs[m]'(by omega) / 2 ^ (64 - s)) := by
          conv => lhs; rw [← key]
          rw [Nat.add_mul, ← hp, Nat.mul_comm (2 ^ s) (2 ^ (64 - s)), Nat.mul_right_comm]
        rw [Nat.add_mul, k2]
        have k3 : B64 * val B64 zs + B64 ^ (n - 1 - m) * B64 * (xs[n - 1]'(by omega) / 2 ^ (64 - s)) = B64 * (val B64 (xs.drop (m + 1)) * 2 ^ s) + B64 * (xs[m]'(by omega) / 2 ^ (64 - s)) := by
          rw [← Nat.mul_add, ← hv, Nat.mul_add, Nat.mul_comm (B64 ^ (n - 1 - m)) B64, Nat.mul_assoc]
        have k4 : B64 * (val B64 (xs.drop (m + 1)) * 2 ^ s) = B64 * val B64 (xs.drop (m + 1)) * 2 ^ s := by rw [Nat.mul_assoc]
        omega
    · have hm0 : m = 0 := by simp at e; omega
      subst hm0
      refine hx.getW W 0 rfl (by omega) (by omega) (fun b o hb => by have := nx b o hb; omega) ⟨by omega, ?_⟩
      rw [shl_pow hs]
      refine W.putd hO _ rfl rfl (by omega) hn fun W' => ?_
      have q2 : xs[0]'(by omega) * 2 ^ s % B64 = xs[0]'(by omega) % 2 ^ (64 - s) * 2 ^ s := by rw [← hp, Nat.mul_comm (2 ^ s), Nat.mul_mod_mul_right]
      refine H _ _ _ W' (by simp; omega) (dz.cons (Nat.mod_lt _ (by decide))) (Nat.lt_of_le_of_lt (Nat.div_le_self _ _) hlast) ?_
      have key := Nat.mod_add_div (xs[0]'(by omega)) (2 ^ (64 - s))
      have k2 : xs[0]'(by omega) * 2 ^ s = xs[0]'(by omega) % 2 ^ (64 - s) * 2 ^ s + B64 * (xs[0]'(by omega) / 2 ^ (64 - s)) := by
        conv => lhs; rw [← key]
        rw [Nat.add_mul, ← hp, Nat.mul_comm (2 ^ s) (2 ^ (64 - s)), Nat.mul_right_comm]
      have hxv : val B64 xs = xs[0]'(by omega) + B64 * val B64 (xs.drop 1) := by
        have := val_drop B64 xs (i := 0) (by omega); simpa using this
      have q2' : xs[0]'(by omega) * 2 ^ s % 18446744073709551616 = xs[0]'(by omega) % 2 ^ (64 - s) * 2 ^ s := q2
      rw [val, hxv, Nat.add_mul, q2', k2]
      have e5 : B64 ^ n = B64 ^ (n - 1) * B64 := by rw [← Nat.pow_succ]; congr 1; omega
      have k3 : B64 * val B64 zs + B64 ^ (n - 1) * B64 * (xs[n - 1]'(by omega) / 2 ^ (64 - s)) = B64 * (val B64 (xs.drop 1) * 2 ^ s) + B64 * (xs[0]'(by omega) / 2 ^ (64 - s)) := by
        rw [← Nat.mul_add]
        have hv' := hv
        simp only [Nat.sub_zero, Nat.zero_add] at hv'
        rw [← hv', Nat.mul_add, Nat.mul_comm (B64 ^ (n - 1)) B64, Nat.mul_assoc]
      have k4 : B64 * (val B64 (xs.drop 1) * 2 ^ s) = B64 * val B64 (xs.drop 1) * 2 ^ s := by rw [Nat.mul_assoc]
      rw [e5]
      omega
end Go.Proofs
namespace Go.Proofs
open Go Go.Eng
variable {B : World} {R : Ending → Heap → Prop} {h : Heap}
/-- rshVU, s below 64. -/
theorem K141 {pz px : Option Addr} {bz oz n zc xc s : Nat} {xs : List Nat} {cs : Array Value}
    (hz : pz = some ⟨bz, oz, none⟩) (hO : Own h bz cs) (hn : oz + n ≤ cs.size) (hx : Sl .u64 h px xs) (ppx : Pt px) (lx : xs.length = n) (hlim : n < 9223372036854775807)
    (dx : Dig B64 xs) (nx : ∀ b o, px = some ⟨b, o, none⟩ → b ≠ bz ∨ oz ≤ o) (hs : s < 64)
    (H : ∀ (zs : List Nat) (c : Nat) (h' : Heap), Wrote .u64 h h' bz oz zs → zs.length = n → Dig B64 zs → c < B64 → val B64 zs = val B64 xs / 2 ^ s → R (.returned (.int .u64 (c : Int))) h') :
    Ent Tryz.prog B 95 #[.slice pz n zc, .slice px n xc, .int .u64 (s : Int)] R h := by
  have hB : B64 = 18446744073709551616 := rfl
  refine F141_ok _ _ _ _ _ _ _ ⟨fun e => by simp at e, fun _ => ⟨fun e => ?_, fun e => ⟨fun e2 => ?_, fun e2 => ?_⟩⟩⟩
  · have e : s = 0 := by simpa using e
    subst e hz
    refine copyK hx lx ppx hO hn fun h' W => ?_
    have hm : Nat.min n n = n := Nat.min_self n
    rw [hm, List.take_of_length_le (by omega)] at W
    exact H xs 0 h' W lx dx (by decide) (by simp)
  · have e2 : n = 0 := by simpa using e2
    subst e2 hz
    have : xs = [] := List.eq_nil_of_length_eq_zero lx
    subst this
    exact H [] 0 h (Wrote.nil hO) rfl Dig.nil (by decide) (by simp [val])
  · have h0 : 0 < s := by simp at e; omega
    have hn0 : 0 < n := by simp at e2; omega
    have hp : 2 ^ s * 2 ^ (64 - s) = B64 := by rw [← Nat.pow_add, show s + (64 - s) = 64 by omega]
    have hps : 0 < 2 ^ s := Nat.pow_pos (by decide)
    have hps2 : 0 < 2 ^ (64 - s) := Nat.pow_pos (by decide)
    rw [bitsI_and63 hs, sub64 h0 hs]
    refine hx.get 0 (by omega) (by omega) (by omega) ⟨by omega, ?_⟩
    rw [shl_pow (by omega)]
    refine ⟨fun m vs h' => match vs with
      | [.slice p1 n1 _, .slice p2 n2 _, .int _ s', .int _ c, .int _ s2, .int _ i] => p1 = pz ∧ n1 = n ∧ p2 = px ∧ n2 = n ∧ s' = (s : Int) ∧ s2 = ((64 - s : Nat) : Int) ∧ c = ((xs[0]'(by omega) * 2 ^ (64 - s) % B64 : Nat) : Int) ∧
        ∃ zs : List Nat, Wrote .u64 h h' bz oz zs ∧ i = ((zs.length + 1 : Nat) : Int) ∧ m = n - zs.length ∧ ∃ hl : zs.length < n, Dig B64 zs ∧
          2 ^ s * val B64 zs + xs[0]'(by omega) % 2 ^ s + B64 ^ zs.length * xs[zs.length]'(by omega) = val B64 (xs.take (zs.length + 1)) + B64 ^ zs.length * (xs[zs.length]'(by omega) % 2 ^ s)
      | _ => False, n, ⟨rfl, rfl, rfl, rfl, rfl, rfl, rfl, [], Wrote.nil hO, rfl, by simp, hn0, Dig.nil, ?_⟩, ?_⟩
    · simp only [List.length_nil, Nat.zero_add]; rw [show xs.take 1 = xs.take (0 + 1) from rfl, val_take_succ _ _ (show 0 < xs.length by omega)]; simp [val]; omega
    rintro m h' _ n1 _ _ n2 _ _ _ _ _ ⟨rfl, e3, rfl, e4, rfl, rfl, rfl, zs, W, rfl, rfl, hl, dz, hv⟩ _
    have e3 := e3.symm
    have e4 := e4.symm
    subst hz e3 e4
    have fin : ∀ (z : Nat) (rest : Nat), 2 ^ s * z + (rest - rest % 2 ^ s) = 2 ^ s * z + 2 ^ s * (rest / 2 ^ s) := by
      intro z rest; have := Nat.mod_add_div rest (2 ^ s); omega
    refine ⟨fun e => ?_, fun e => ?_⟩
    · have hlt : zs.length + 1 < xs.length := by simp at e; omega
      refine hx.getW W zs.length (by rw [i64_in (by omega) (by omega)]; omega) (by omega) (by omega) (fun b o hb => by have := nx b o hb; omega) ⟨by omega, ?_⟩
      refine hx.getW W (zs.length + 1) rfl hlt (by omega) (fun b o hb => by have := nx b o hb; omega) ⟨by omega, ?_⟩
      rw [fdiv_pow hs, shl_pow (by omega)]
      have d1 : xs[zs.length]'(by omega) < B64 := dx.get (by omega)
      have d2 : xs[zs.length + 1] < B64 := dx.get (by omega)
      have q1 : xs[zs.length]'(by omega) / 2 ^ s < 2 ^ (64 - s) := Nat.div_lt_of_lt_mul (by rw [hp]; exact d1)
      have q2 : xs[zs.length + 1] * 2 ^ (64 - s) % B64 = xs[zs.length + 1] % 2 ^ s * 2 ^ (64 - s) := by rw [← hp, Nat.mul_mod_mul_right]
      have q3 : xs[zs.length + 1] % 2 ^ s * 2 ^ (64 - s) + 2 ^ (64 - s) ≤ B64 := by
        have : xs[zs.length + 1] % 2 ^ s + 1 ≤ 2 ^ s := Nat.mod_lt _ hps
        have := Nat.mul_le_mul_right (2 ^ (64 - s)) this
        rw [Nat.add_mul, Nat.one_mul, hp] at this
        exact this
      rw [q2, bitsI_or (by omega) (by omega), Nat.or_comm, or_add q1]
      refine W.put hO _ rfl (by rw [i64_in (by omega) (by omega)]; omega) (by omega) hn fun W' => ?_
      refine ⟨n - (zs.length + 1), by omega, rfl, rfl, rfl, rfl, rfl, rfl, rfl, _, W', ?_, by simp, by simp; omega, dz.snoc (by omega), ?_⟩
      · rw [i64_in (by omega) (by omega)]; simp
      · simp only [List.length_append, List.length_singleton]
        rw [val_snoc, val_take_succ _ _ hlt, Nat.pow_succ]
        have key := Nat.mod_add_div (xs[zs.length]'(by omega)) (2 ^ s)
        have k1 : 2 ^ s * (B64 ^ zs.length * (xs[zs.length + 1] % 2 ^ s * 2 ^ (64 - s) + xs[zs.length]'(by omega) / 2 ^ s)) = B64 ^ zs.length * B64 * (xs[zs.length + 1] % 2 ^ s) + B64 ^ zs.length * (2 ^ s * (xs[zs.length]'(by omega) / 2 ^ s)) := by
          have k0 : 2 ^ s * (xs[zs.length + 1] % 2 ^ s * 2 ^ (64 - s)) = B64 * (xs[zs.length + 1] % 2 ^ s) := by
            rw [← hp, Nat.mul_comm (xs[zs.length + 1] % 2 ^ s), Nat.mul_assoc]
          rw [Nat.mul_left_comm, Nat.mul_add, Nat.mul_add, k0, Nat.mul_assoc (B64 ^ zs.length)]
        have k2 : B64 ^ zs.length * xs[zs.length]'(by omega) = B64 ^ zs.length * (xs[zs.length]'(by omega) % 2 ^ s) + B64 ^ zs.length * (2 ^ s * (xs[zs.length]'(by omega) / 2 ^ s)) := by
          rw [← Nat.mul_add, key]
        rw [Nat.mul_add, k1]
        omega
    · have hln : zs.length + 1 = n := by simp at e; omega
      refine hx.getW W zs.length (by rw [i64_in (by omega) (by omega)]; omega) (by omega) (by omega) (fun b o hb => by have := nx b o hb; omega) ⟨by omega, ?_⟩
      rw [fdiv_pow hs]
      refine W.put hO _ rfl (by rw [i64_in (by omega) (by omega)]; omega) (by omega) hn fun W' => ?_
      have d1 : xs[zs.length]'(by omega) < B64 := dx.get (by omega)
      refine H _ _ _ W' (by simp; omega) (dz.snoc (Nat.lt_of_le_of_lt (Nat.div_le_self _ _) d1)) (Nat.mod_lt _ (by decide)) ?_
      rw [val_snoc]
      have key := Nat.mod_add_div (xs[zs.length]'(by omega)) (2 ^ s)
      have k2 : B64 ^ zs.length * xs[zs.length]'(by omega) = B64 ^ zs.length * (xs[zs.length]'(by omega) % 2 ^ s) + 2 ^ s * (B64 ^ zs.length * (xs[zs.length]'(by omega) / 2 ^ s)) := by
        conv => lhs; rw [← key]
        rw [Nat.mul_add, Nat.mul_left_comm]
      rw [List.take_of_length_le (by omega)] at hv
      have hr : xs[0]'(by omega) % 2 ^ s < 2 ^ s := Nat.mod_lt _ hps
      symm
      refine Nat.div_eq_of_lt_le ?_ ?_
      · rw [Nat.mul_comm, Nat.mul_add]; omega
      · rw [Nat.mul_comm, Nat.mul_add, Nat.mul_add]; omega

theorem wmul {a b : Nat} (h : a * b < B64) : IntKind.u64.wrap ((a : Int) * (b : Int)) = ((a * b : Nat) : Int) := by
  rw [← Int.natCast_mul, wrap_u64_nat, Nat.mod_eq_of_lt h]
theorem wadd {a b : Nat} (h : a + b < B64) : IntKind.u64.wrap ((a : Int) + (b : Int)) = ((a + b : Nat) : Int) := by
  rw [← Int.natCast_add, wrap_u64_nat, Nat.mod_eq_of_lt h]
theorem sh32 (x : Nat) : Int.fdiv (x : Int) (2 ^ min (Int.toNat (32 : Int)) IntKind.u64.bits) = ((x / 4294967296 : Nat) : Int) := fdiv_pow (x := x) (s := 32) (by decide)
theorem and32 {x : Nat} (hx : x < B64) : bitsI .and .u64 (x : Int) (4294967295 : Int) = ((x % 4294967296 : Nat) : Int) := by
  have := bitsI_and (a := x) (b := 4294967295) hx
  rw [show ((4294967295 : Nat) : Int) = 4294967295 from rfl] at this
  rw [this, show x &&& (4294967295 % 18446744073709551616) = x % 2 ^ 32 from Nat.and_two_pow_sub_one_eq_mod x 32]
/-- Mul64. -/
theorem K260 {x y : Nat} (hx : x < B64) (hy : y < B64) (H : R (.returned (.tuple #[.int .u64 ((x * y / B64 : Nat) : Int), .int .u64 ((x * y % B64 : Nat) : Int)])) h) :
    Ent Tryz.prog B 235 #[.int .u64 (x : Int), .int .u64 (y : Int)] R h := by
  have hB : B64 = 18446744073709551616 := rfl
  refine F260_ok _ _ ⟨by decide, by decide, by decide, by decide, by decide, ?_⟩
  have x1 : x / 4294967296 < 4294967296 := by omega
  have y1 : y / 4294967296 < 4294967296 := by omega
  have x0 : x % 4294967296 < 4294967296 := Nat.mod_lt _ (by decide)
  have y0 : y % 4294967296 < 4294967296 := Nat.mod_lt _ (by decide)
  have hxe := Nat.mod_add_div x 4294967296
  have hye := Nat.mod_add_div y 4294967296
  generalize ea : x / 4294967296 = a1 at *
  generalize eb : y / 4294967296 = b1 at *
  generalize ea0 : x % 4294967296 = a0 at *
  generalize eb0 : y % 4294967296 = b0 at *
  have m00 : a0 * b0 ≤ 4294967295 * 4294967295 := Nat.mul_le_mul (by omega) (by omega)
  have m10 : a1 * b0 ≤ 4294967295 * 4294967295 := Nat.mul_le_mul (by omega) (by omega)
  have m01 : a0 * b1 ≤ 4294967295 * 4294967295 := Nat.mul_le_mul (by omega) (by omega)
  have m11 : a1 * b1 ≤ 4294967295 * 4294967295 := Nat.mul_le_mul (by omega) (by omega)
  have hxy : x * y = a0 * b0 + 4294967296 * (a1 * b0 + a0 * b1) + B64 * (a1 * b1) := by
    rw [← hxe, ← hye, hB, show 18446744073709551616 = 4294967296 * 4294967296 from rfl]
    simp only [Nat.add_mul, Nat.mul_add, Nat.mul_assoc, Nat.mul_left_comm, Nat.mul_comm]
    omega
  simp only [and32 hx, and32 hy, sh32, ea, eb, ea0, eb0]
  simp only [wmul (show a0 * b0 < B64 by omega), wmul (show a1 * b0 < B64 by omega), wmul (show a0 * b1 < B64 by omega), wmul (show a1 * b1 < B64 by omega), sh32]
  rw [wadd (show a1 * b0 + a0 * b0 / 4294967296 < B64 by omega)]
  simp only [sh32]
  rw [and32 (show a1 * b0 + a0 * b0 / 4294967296 < B64 by omega), wadd (show (a1 * b0 + a0 * b0 / 4294967296) % 4294967296 + a0 * b1 < B64 by omega)]
  simp only [sh32]
  rw [wadd (show a1 * b1 + (a1 * b0 + a0 * b0 / 4294967296) / 4294967296 < B64 by omega), wadd (by omega)]
  have e1 : IntKind.u64.wrap ((x : Int) * (y : Int)) = ((x * y % B64 : Nat) : Int) := by rw [← Int.natCast_mul, wrap_u64_nat]
  rw [e1]
  have e2 : x * y / B64 = a1 * b1 + (a1 * b0 + a0 * b0 / 4294967296) / 4294967296 + ((a1 * b0 + a0 * b0 / 4294967296) % 4294967296 + a0 * b1) / 4294967296 := by
    rw [hxy, hB]; omega
  rw [← e2]
  exact H
theorem K240 {x y : Nat} (hx : x < B64) (hy : y < B64) (H : R (.returned (.tuple #[.int .u64 ((x * y / B64 : Nat) : Int), .int .u64 ((x * y % B64 : Nat) : Int)])) h) :
    Ent Tryz.prog B 210 #[.int .u64 (x : Int), .int .u64 (y : Int)] R h :=
  F240_ok _ _ ⟨fun e => Bool.noConfusion e, fun _ => K260 hx hy ⟨_, _, rfl, H⟩⟩
theorem K242 {x y c : Nat} (hx : x < B64) (hy : y < B64) (hc : c < B64) (H : R (.returned (.tuple #[.int .u64 (((x * y + c) / B64 : Nat) : Int), .int .u64 (((x * y + c) % B64 : Nat) : Int)])) h) :
    Ent Tryz.prog B 212 #[.int .u64 (x : Int), .int .u64 (y : Int), .int .u64 (c : Int)] R h := by
  have hB : B64 = 18446744073709551616 := rfl
  have hxy : x * y ≤ 18446744073709551615 * 18446744073709551615 := Nat.mul_le_mul (by omega) (by omega)
  refine F242_ok _ _ _ (K240 hx hy ⟨_, _, rfl, K204 (c := 0) (by decide) ⟨_, _, rfl, ?_⟩⟩)
  have e1 : x * y / B64 + (x * y % B64 + c + 0) / B64 = (x * y + c) / B64 := by unfold B64; omega
  have e2 : (x * y % B64 + c + 0) % B64 = (x * y + c) % B64 := by unfold B64; omega
  rw [wadd (by unfold B64; omega), e1, e2]
  exact H
end Go.Proofs
