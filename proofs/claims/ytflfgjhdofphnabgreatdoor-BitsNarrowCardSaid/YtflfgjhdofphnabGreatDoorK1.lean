/- Words for contracts: exact functions on trees; lists of words; what a word's bounds make of a wrap. -/
import Derived.Test.YtflfgjhdofphnabGreatDoorLib1
import Derived.Test.YtflfgjhdofphnabGreatDoorAvmAll
import Derived.Test.YtflfgjhdofphnabGreatDoorM1
set_option linter.unusedSimpArgs false
set_option linter.unusedVariables false
namespace Go.Avm
open Go Va
variable {P : Program} {G : Glob}

/-- Exact, and told of trees. -/
def PX (P : Program) (G : Glob) (f : FuncId) (args : List AV) (v : AV) : Prop := FrzL args ∧ PE P G f args v
theorem PX.call {n0 : Nat} {f : FuncId} {args : List AV} {v : AV} (h : PX P G f args v) {s : St} {K : AV → St → Prop} (k : K v s) {tg : Tag K} : ACallF (ctx P G n0) f args s K tg :=
  PC.call h.2.2 h.1 fun x _ e => by subst e; exact k
theorem PX.fcall {n0 : Nat} {f : FuncId} {args : List AV} {v : AV} (h : PX P G f args v) {K : AV → Prop} (k : K v) {tg : Tag K} : FCallF (ctx P G n0) f args K tg :=
  ⟨h.1, v, h.2, k⟩
/-- A function's exact contract out of a walk. -/
theorem PX_of_awp {f : FuncId} {F : IF} (hF : lowF P f = some F) (hm : P.follows .mixedOrders = true) {args : List AV} {v : AV} (hz : FrzL args) (hv : Frz v)
    (h : awp (ctx P G 0) F.body (exRet (ctx P G 0) F.res fun x _ => x = v) ⟨initF args F.n, []⟩) : PX P G f args v :=
  ⟨hz, hv, (AC_of_awp hF rfl hm h).mono fun x H' e => by subst e; exact ⟨hv, rfl⟩⟩

/-- What is told may be told with less. -/
def Wk (x y : AV) : Prop := ∀ φ bl v, Rep φ bl x v → Rep φ bl y v
theorem Wk.refl (x : AV) : Wk x x := fun _ _ _ h => h
theorem Wk.nils : Wk .nils (.sl 0 []) := fun φ bl v h => by simp only [Rep] at h ⊢; exact .inl ⟨h, by simp, by simp⟩
def WkL : List AV → List AV → Prop
  | [], ys => ys = []
  | x :: xs, ys => ∃ y ys', ys = y :: ys' ∧ Wk x y ∧ WkL xs ys'
theorem WkL.nil : WkL [] [] := rfl
theorem WkL.cons {x y : AV} {xs ys : List AV} (h : Wk x y) (k : WkL xs ys) : WkL (x :: xs) (y :: ys) := ⟨y, ys, rfl, h, k⟩
theorem WkL.refl : ∀ l : List AV, WkL l l
  | [] => rfl
  | x :: xs => .cons (.refl x) (WkL.refl xs)
theorem WkL.rep : ∀ {xs ys : List AV}, WkL xs ys → ∀ {φ : Phi} {bl : Nat → BL} {vs : List Value}, RepL φ bl xs vs → RepL φ bl ys vs
  | [], _, h, _, _, _, hr => by simp only [WkL] at h; subst h; exact hr
  | x :: xs, _, h, _, _, _, hr => by
    simp only [WkL] at h
    obtain ⟨y, ys', rfl, h1, h2⟩ := h
    simp only [RepL] at hr ⊢
    obtain ⟨u, us, e, h3, h4⟩ := hr
    exact ⟨u, us, e, h1 _ _ _ h3, h2.rep h4⟩
theorem RepRow.wk : ∀ {xs ys : List AV}, WkL xs ys → ∀ {φ : Phi} {b o : Nat}, RepRow φ xs b o → RepRow φ ys b o
  | [], _, h, _, _, _, hr => by simp only [WkL] at h; subst h; exact hr
  | x :: xs, _, h, _, _, _, hr => by
    simp only [WkL] at h
    obtain ⟨y, ys', rfl, h1, h2⟩ := h
    simp only [RepRow] at hr ⊢
    obtain ⟨⟨u, e, h3⟩, h4⟩ := hr
    exact ⟨⟨u, e, h1 _ _ _ h3⟩, RepRow.wk h2 h4⟩
theorem Wk.ptr {xs ys : List AV} (h : WkL xs ys) (o : Nat) : Wk (.ptr xs o) (.ptr ys o) := fun φ bl v hr => by
  simp only [Rep] at hr ⊢
  obtain ⟨b, q, e, hr⟩ := hr
  exact ⟨b, q, e, RepRow.wk h hr⟩
theorem WkL.length : ∀ {xs ys : List AV}, WkL xs ys → xs.length = ys.length
  | [], _, h => by simp only [WkL] at h; subst h; rfl
  | x :: xs, _, h => by
    simp only [WkL] at h
    obtain ⟨y, ys', rfl, _, h2⟩ := h
    simp [h2.length]
theorem Wk.sl {xs ys : List AV} (h : WkL xs ys) (n : Nat) : Wk (.sl n xs) (.sl n ys) := fun φ bl v hr => by
  simp only [Rep] at hr ⊢
  rcases hr with ⟨h1, h2, h3⟩ | ⟨b, o, cap, h1, h2, h3, h4⟩
  · refine .inl ⟨h1, h2, ?_⟩
    subst h3
    simp only [WkL] at h
    exact h
  · exact .inr ⟨b, o, cap, h1, h2, h3, RepRow.wk h h4⟩
theorem Wk.tup {xs ys : List AV} (h : WkL xs ys) : Wk (.tup xs) (.tup ys) := fun φ bl v hr => by
  simp only [Rep] at hr ⊢
  obtain ⟨vs, e, hr⟩ := hr
  exact ⟨vs, e, h.rep hr⟩
theorem Wk.agg {xs ys : List AV} (h : WkL xs ys) : Wk (.agg xs) (.agg ys) := fun φ bl v hr => by
  simp only [Rep] at hr ⊢
  obtain ⟨vs, e, hr⟩ := hr
  exact ⟨vs, e, h.rep hr⟩
theorem PX.wk_ret {f : FuncId} {args : List AV} {v v' : AV} (h : PX P G f args v) (hw : Wk v v') (hz : Frz v') : PX P G f args v' :=
  ⟨h.1, hz, fun φ bl w vs hi hr => (h.2.2 φ bl w vs hi hr).mono fun e w' ⟨u, φ', bl', x, H', e1, ⟨_, e2⟩, hi', hx, hf⟩ => by
    subst e2
    exact ⟨u, φ', bl', v', H', e1, ⟨hz, rfl⟩, hi', hw _ _ _ hx, hf⟩⟩
theorem PX.wk_args {f : FuncId} {args args' : List AV} {v : AV} (h : PX P G f args v) (hw : WkL args' args) (hz : FrzL args') : PX P G f args' v :=
  ⟨hz, h.2.1, fun φ bl w vs hi hr => h.2.2 φ bl w vs hi (hw.rep hr)⟩
/-- A slot is told with less. -/
theorem Gh.wk {n0 : Nat} {f f' : List AV} {H : List AObj} (h : WkL f f') : Gh G n0 ⟨f, H⟩ ⟨f', H⟩ := fun φ bl vs w hI hr => ⟨φ, bl, hI, h.rep hr, Adv.refl n0 φ bl w⟩

/-! ### Rows of words -/
def row (k : IntKind) (l : List Nat) : List AV := l.map fun (d : Nat) => AV.int k (d : Int)
theorem row_length (k : IntKind) (l : List Nat) : (row k l).length = l.length := by simp [row]
theorem row_getD (k : IntKind) {l : List Nat} {i : Nat} (h : i < l.length) : (row k l).getD i .junk = .int k ((l.getD i 0 : Nat) : Int) := by
  simp [row, List.getD_eq_getElem?_getD, List.getElem?_eq_getElem h]
theorem row_set (k : IntKind) (l : List Nat) (i x : Nat) : (row k l).set i (.int k (x : Int)) = row k (l.set i x) := by simp [row, List.map_set]
theorem row_take (k : IntKind) (l : List Nat) (n : Nat) : (row k l).take n = row k (l.take n) := by simp [row, List.map_take]
theorem row_drop (k : IntKind) (l : List Nat) (n : Nat) : (row k l).drop n = row k (l.drop n) := by simp [row, List.map_drop]
theorem row_append (k : IntKind) (l m : List Nat) : row k l ++ row k m = row k (l ++ m) := by simp [row]
theorem row_rep (k : IntKind) (n m : Nat) : (List.replicate n [AV.int k (m : Int)]).flatten = row k (List.replicate n m) := by
  induction n with
  | zero => rfl
  | succ n ih => simp [List.replicate_succ, ih]; simp [row]
theorem row_reps (k : IntKind) (n m : Nat) : reps n [AV.int k (m : Int)] = row k (List.replicate n m) := row_rep k n m
theorem row_frz (k : IntKind) (l : List Nat) : FrzL (row k l) := FrzL.iff.2 fun x hx => by
  simp only [row, List.mem_map] at hx
  obtain ⟨d, _, rfl⟩ := hx
  simp only [Frz]
theorem row_one (H : List AObj) (k : IntKind) (l : List Nat) : OneL H (row k l) := fun x hx => by
  simp only [row, List.mem_map] at hx
  obtain ⟨d, _, rfl⟩ := hx
  simp only [OneC]
theorem row_killL (i : Nat) (k : IntKind) (l : List Nat) : killL i (row k l) = row k l := by
  induction l with
  | nil => rfl
  | cons d l ih => simp only [row, List.map_cons, killL, kill]; exact congrArg _ ih
theorem row_nil (k : IntKind) : row k [] = [] := rfl
theorem row_cons (k : IntKind) (d : Nat) (l : List Nat) : row k (d :: l) = .int k (d : Int) :: row k l := rfl
/-- A slice of words. -/
def slV (k : IntKind) (l : List Nat) : AV := .sl l.length (row k l)
theorem frzL_nil : FrzL [] = True := by simp only [FrzL]
theorem frzL_cons (c : AV) (cs : List AV) : FrzL (c :: cs) = (Frz c ∧ FrzL cs) := by simp only [FrzL]
theorem frz_int (k : IntKind) (n : Int) : Frz (.int k n) = True := by simp only [Frz]
theorem frz_bool (b : Bool) : Frz (.bool b) = True := by simp only [Frz]
theorem frz_str (s : List UInt8) : Frz (.str s) = True := by simp only [Frz]
theorem frz_nilp : Frz .nilp = True := by simp only [Frz]
theorem frz_nils : Frz .nils = True := by simp only [Frz]
theorem frz_raw (v : Value) : Frz (.raw v) = True := by simp only [Frz]
theorem frz_ptr (cs : List AV) (o : Nat) : Frz (.ptr cs o) = FrzL cs := by simp only [Frz]
theorem frz_sl (n : Nat) (cs : List AV) : Frz (.sl n cs) = FrzL cs := by simp only [Frz]
theorem frz_agg (cs : List AV) : Frz (.agg cs) = FrzL cs := by simp only [Frz]
theorem frz_tup (cs : List AV) : Frz (.tup cs) = FrzL cs := by simp only [Frz]
theorem frz_fn (f : FuncId) (cs : List AV) : Frz (.fn f cs) = FrzL cs := by simp only [Frz]
theorem frz_row (k : IntKind) (l : List Nat) : FrzL (row k l) = True := by simp [row_frz]
theorem frz_slV (k : IntKind) (l : List Nat) : Frz (slV k l) = True := by simp [slV, Frz, row_frz]
theorem avmF : (FrzL [] = True) ∧ (∀ c cs, FrzL (c :: cs) = (Frz c ∧ FrzL cs)) ∧ (∀ k n, Frz (.int k n) = True) ∧ (∀ b, Frz (.bool b) = True) ∧ (∀ s, Frz (.str s) = True) ∧ (Frz .nilp = True) ∧ (Frz .nils = True) ∧
    (∀ v, Frz (.raw v) = True) ∧ (∀ cs o, Frz (.ptr cs o) = FrzL cs) ∧ (∀ n cs, Frz (.sl n cs) = FrzL cs) ∧ (∀ cs, Frz (.agg cs) = FrzL cs) ∧ (∀ cs, Frz (.tup cs) = FrzL cs) ∧ (∀ f cs, Frz (.fn f cs) = FrzL cs) ∧
    (∀ k l, FrzL (row k l) = True) ∧ (∀ k l, Frz (slV k l) = True) :=
  ⟨frzL_nil, frzL_cons, frz_int, frz_bool, frz_str, frz_nilp, frz_nils, frz_raw, frz_ptr, frz_sl, frz_agg, frz_tup, frz_fn, frz_row, frz_slV⟩

/-! ### Wraps -/
theorem wrap_u (k : IntKind) (hk : k.signed = false) (n : Int) : k.wrap n = n % (2 ^ k.bits : Int) := by simp [IntKind.wrap, hk]
theorem wu64 (n : Nat) : IntKind.u64.wrap (n : Int) = ((n % 18446744073709551616 : Nat) : Int) := by
  rw [wrap_u _ rfl]; simp [IntKind.bits]
theorem wu32 (n : Nat) : IntKind.u32.wrap (n : Int) = ((n % 4294967296 : Nat) : Int) := by
  rw [wrap_u _ rfl]; simp [IntKind.bits]
theorem wu8 (n : Nat) : IntKind.u8.wrap (n : Int) = ((n % 256 : Nat) : Int) := by
  rw [wrap_u _ rfl]; simp [IntKind.bits]
theorem wu64_in {n : Int} (h0 : 0 ≤ n) (h1 : n < 18446744073709551616) : IntKind.u64.wrap n = n := by
  rw [wrap_u _ rfl]; simp [IntKind.bits]; omega
theorem wu32_in {n : Int} (h0 : 0 ≤ n) (h1 : n < 4294967296) : IntKind.u32.wrap n = n := by
  rw [wrap_u _ rfl]; simp [IntKind.bits]; omega
theorem wu32_mod (n : Int) : IntKind.u32.wrap n = n % 4294967296 := by
  rw [wrap_u _ rfl]; simp [IntKind.bits]
theorem wu64_mod (n : Int) : IntKind.u64.wrap n = n % 18446744073709551616 := by
  rw [wrap_u _ rfl]; simp [IntKind.bits]
theorem wu8_mod (n : Int) : IntKind.u8.wrap n = n % 256 := by
  rw [wrap_u _ rfl]; simp [IntKind.bits]
theorem wi64_in {n : Int} (h0 : -9223372036854775808 ≤ n) (h1 : n ≤ 9223372036854775807) : IntKind.i64.wrap n = n := by
  simp only [IntKind.wrap, IntKind.signed, IntKind.bits, Bool.true_and]
  simp
  split <;> omega
theorem fdiv_pow (a : Int) (k : Nat) : a.fdiv (2 ^ k) = a / 2 ^ k := by
  rw [Int.fdiv_eq_ediv_of_nonneg]; exact Int.le_of_lt (Int.pow_pos (by decide))
theorem wi64 {n : Nat} (h : n ≤ 9223372036854775807) : IntKind.i64.wrap (n : Int) = (n : Int) := wi64_in (by omega) (by omega)
theorem csub {a b : Nat} (h : b ≤ a) : (a : Int) - (b : Int) = ((a - b : Nat) : Int) := by omega
theorem bv_and (k a b : Nat) : (BitVec.ofInt k (a : Int) &&& BitVec.ofInt k (b : Int)).toNat = (a % 2 ^ k) &&& (b % 2 ^ k) := by
  rw [BitVec.toNat_and, BitVec.ofInt_natCast, BitVec.ofInt_natCast, BitVec.toNat_ofNat, BitVec.toNat_ofNat]
theorem bv_or (k a b : Nat) : (BitVec.ofInt k (a : Int) ||| BitVec.ofInt k (b : Int)).toNat = (a % 2 ^ k) ||| (b % 2 ^ k) := by
  rw [BitVec.toNat_or, BitVec.ofInt_natCast, BitVec.ofInt_natCast, BitVec.toNat_ofNat, BitVec.toNat_ofNat]
theorem m64 {n : Nat} (h : n < 18446744073709551616) : n % 18446744073709551616 = n := Nat.mod_eq_of_lt h
theorem m32 {n : Nat} (h : n < 4294967296) : n % 4294967296 = n := Nat.mod_eq_of_lt h
theorem band_mask (n : Nat) : (n % 18446744073709551616) &&& 4294967295 = n % 4294967296 := by
  have := Nat.and_two_pow_sub_one_eq_mod (n % 18446744073709551616) 32
  simp only [Nat.reducePow, Nat.reduceSub] at this
  rw [this]; omega
theorem bor_shift {a b : Nat} (hb : b < 4294967296) : (a * 4294967296 % 18446744073709551616) ||| b = a * 4294967296 % 18446744073709551616 + b := by
  have e : a * 4294967296 % 18446744073709551616 = (a % 4294967296) * 4294967296 := by omega
  rw [e]
  have := Nat.shiftLeft_add_eq_or_of_lt (i := 32) (b := b) (by simpa using hb) (a % 4294967296)
  rw [Nat.shiftLeft_eq] at this
  simp only [Nat.reducePow] at this
  exact this.symm
/-- Words within words. -/
theorem avmM : (∀ n : Nat, (n % 18446744073709551616) &&& 4294967295 = n % 4294967296) ∧ (∀ n : Nat, n % 18446744073709551616 % 18446744073709551616 = n % 18446744073709551616) ∧
    (∀ n : Nat, n % 4294967296 % 18446744073709551616 = n % 4294967296) ∧ (∀ n : Nat, n % 4294967296 % 4294967296 = n % 4294967296) ∧ (∀ n : Nat, n % 18446744073709551616 % 4294967296 = n % 4294967296) :=
  ⟨band_mask, fun n => by omega, fun n => by omega, fun n => by omega, fun n => by omega⟩
/-- Numbers that are not below 0 are reckoned with as such. -/
theorem avmN : (∀ a b : Nat, (a : Int) + (b : Int) = ((a + b : Nat) : Int)) ∧ (∀ a b : Nat, (a : Int) * (b : Int) = ((a * b : Nat) : Int)) ∧
    (∀ a k : Nat, (a : Int) * 2 ^ k = ((a * 2 ^ k : Nat) : Int)) ∧ (∀ a k : Nat, (a : Int).fdiv (2 ^ k) = ((a / 2 ^ k : Nat) : Int)) ∧
    (∀ a b : Nat, (a : Int).tdiv (b : Int) = ((a / b : Nat) : Int)) ∧ (∀ a b : Nat, (a : Int).tmod (b : Int) = ((a % b : Nat) : Int)) ∧
    (∀ n : Nat, IntKind.u64.wrap (n : Int) = ((n % 18446744073709551616 : Nat) : Int)) ∧ (∀ n : Nat, IntKind.u32.wrap (n : Int) = ((n % 4294967296 : Nat) : Int)) ∧ (∀ n : Nat, IntKind.u8.wrap (n : Int) = ((n % 256 : Nat) : Int)) ∧
    (∀ a b : Nat, ((a : Int) < (b : Int)) = (a < b)) ∧ (∀ a b : Nat, ((a : Int) ≤ (b : Int)) = (a ≤ b)) ∧ (∀ a b : Nat, ((a : Int) = (b : Int)) = (a = b)) ∧ (∀ a b : Nat, ((a : Int) ≠ (b : Int)) = (a ≠ b)) ∧
    (∀ k a b : Nat, (BitVec.ofInt k (a : Int) &&& BitVec.ofInt k (b : Int)).toNat = (a % 2 ^ k) &&& (b % 2 ^ k)) ∧ (∀ k a b : Nat, (BitVec.ofInt k (a : Int) ||| BitVec.ofInt k (b : Int)).toNat = (a % 2 ^ k) ||| (b % 2 ^ k)) ∧
    (∀ a b : Nat, (if a < b then ((b : Nat) : Int) else (a : Int)) = ((max a b : Nat) : Int)) ∧ (∀ a b : Nat, (if b < a then ((b : Nat) : Int) else (a : Int)) = ((min a b : Nat) : Int)) ∧
    (IntKind.bits .u64 = 64) ∧ (IntKind.bits .u32 = 32) ∧ (IntKind.bits .i64 = 64) ∧ (IntKind.bits .u8 = 8) ∧ (∀ n : Nat, ((n : Nat) : Int).toNat = n) ∧ (∀ n : Nat, (0 ≤ (n : Int)) = True) ∧ (∀ n : Nat, (n ≠ n) = False) ∧ (∀ n : Nat, (n = n) = True) := by
  refine ⟨fun _ _ => rfl, fun _ _ => rfl, fun a k => by simp, fun a k => by rw [fdiv_pow]; simp, fun a b => by rw [Int.ofNat_tdiv], fun a b => by rw [Int.ofNat_tmod], wu64, wu32, wu8, fun a b => by simp, fun a b => by simp, fun a b => propext ⟨fun h => by omega, fun h => by omega⟩, fun a b => propext ⟨fun h => by omega, fun h => by omega⟩, bv_and, bv_or,
    fun a b => ?_, fun a b => ?_, rfl, rfl, rfl, rfl, Int.toNat_natCast, fun n => by simp, fun n => by simp, fun n => by simp⟩
  · split <;> congr 1 <;> omega
  · split <;> congr 1 <;> omega
end Go.Avm
