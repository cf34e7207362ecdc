/- Steps of walks: loops, returns, calls; lists of slots. -/
import Derived.Test.YtflfgjhdofphnabGreatDoorK1
import Derived.Test.YtflfgjhdofphnabGreatDoorGh1
set_option linter.unusedSimpArgs false
set_option linter.unusedVariables false
namespace Go.Avm
open Go Va
variable {P : Program} {G : Glob}

theorem thawL_append (i es : Nat) (cs : List AV) (a b : List AV) : thawL i es cs (a ++ b) = thawL i es cs a ++ thawL i es cs b := by
  induction a with
  | nil => rfl
  | cons x a ih => simp only [List.cons_append, thawL, ih]
theorem thaw_frz' {i es : Nat} {cs : List AV} {x : AV} (h : Frz x) : thaw i es cs x = x := thaw_frz x h

/-- What holds at a loop's head: the state is told by an index, which meets its condition. -/
def LI {α : Type} (st : α → St) (inv : α → Prop) (ms : α → Nat) : Nat → St → Prop := fun n s => ∃ a, n = ms a ∧ s = st a ∧ inv a
/-- What a round owes at its end. -/
def LN (P : Program) (G : Glob) (n0 : Nat) {α : Type} (st : α → St) (inv : α → Prop) (ms : α → Nat) (n : Nat) : St → Prop :=
  fun s' => ∃ s1 m, (ctx P G n0).gh s' s1 ∧ m < n ∧ LI st inv ms m s1
/-- A loop over states that are told by an index. -/
theorem loop_of {n0 : Nat} {α : Type} {b : IC} {K : Ex → St → Prop} {s : St} (st : α → St) (inv : α → Prop) (ms : α → Nat) (a0 : α) (live : List Nat)
    (h0 : (⟨keepF live 0 s.f, s.H⟩ : St) = st a0) (hi : inv a0)
    (step : ∀ a, inv a → awp (ctx P G n0) b (exSeq (LN P G n0 st inv ms (ms a)) K) (st a)) :
    awp (ctx P G n0) (.loop b) K s := by
  refine ⟨LI st inv ms, ms a0, st a0, ?_, ⟨a0, rfl, rfl, hi⟩, ?_⟩
  · rw [← h0]; exact Gh.keep s live
  · rintro n s ⟨a, rfl, rfl, ha⟩
    exact step a ha
/-- Where the memory is told anew ahead of the loop. -/
theorem loop_gh {n0 : Nat} {α : Type} {b : IC} {K : Ex → St → Prop} {s : St} (st : α → St) (inv : α → Prop) (ms : α → Nat) (a0 : α)
    (h0 : Gh G n0 s (st a0)) (hi : inv a0)
    (step : ∀ a, inv a → awp (ctx P G n0) b (exSeq (LN P G n0 st inv ms (ms a)) K) (st a)) :
    awp (ctx P G n0) (.loop b) K s := by
  refine ⟨LI st inv ms, ms a0, st a0, h0, ⟨a0, rfl, rfl, hi⟩, ?_⟩
  · rintro n s ⟨a, rfl, rfl, ha⟩
    exact step a ha
theorem LN.next {n0 : Nat} {α : Type} {st : α → St} {inv : α → Prop} {ms : α → Nat} {n : Nat} {s : St} (a : α) (live : List Nat) (hi : inv a) (hm : ms a < n) (h : (⟨keepF live 0 s.f, s.H⟩ : St) = st a) : LN P G n0 st inv ms n s :=
  ⟨st a, ms a, by rw [← h]; exact Gh.keep s live, hm, a, rfl, rfl, hi⟩
theorem LN.gh {n0 : Nat} {α : Type} {st : α → St} {inv : α → Prop} {ms : α → Nat} {n : Nat} {s : St} (a : α) (hi : inv a) (hm : ms a < n) (h : Gh G n0 s (st a)) : LN P G n0 st inv ms n s :=
  ⟨st a, ms a, h, hm, a, rfl, rfl, hi⟩

/-! ### The end -/
theorem ret_now {n0 : Nat} {rs : List IR} {R : AV → List AObj → Prop} {s : St} (h : resP s rs fun xs => R (tupOf xs) s.H) : exRet (ctx P G n0) rs R .ret s := ⟨s, Gh.refl _ _ _, h⟩
theorem ret_end {n0 : Nat} {rs : List IR} {R : AV → List AObj → Prop} {s : St} (h : resP s rs fun xs => R (tupOf xs) s.H) : exRet (ctx P G n0) rs R .normal s := ⟨s, Gh.refl _ _ _, h⟩
theorem ret_gh {n0 : Nat} {rs : List IR} {R : AV → List AObj → Prop} {s : St} (s' : St) (hg : Gh G n0 s s') (h : exRet (ctx P G n0) rs R .ret s') : exRet (ctx P G n0) rs R .ret s := by
  obtain ⟨s2, h1, h2⟩ := h
  exact ⟨s2, Gh.trans hg h1, h2⟩
/-- An object becomes a tree ahead of the end. -/
theorem ret_fz {n0 : Nat} {rs : List IR} {R : AV → List AObj → Prop} {f : List AV} {H : List AObj} (i : Nat) {t : TypeId} {es : Nat} {l : Bool} {cs : List AV} (hi : H[i]? = some (.arr t es l cs)) (hz : FrzL cs)
    (h : exRet (ctx P G n0) rs R .ret ⟨thawL i es cs f, (H.map (thawO i es cs)).set i .dead⟩) : exRet (ctx P G n0) rs R .ret ⟨f, H⟩ :=
  ret_gh _ (Gh.freeze (s := ⟨f, H⟩) hi hz) h

/-! ### Calls -/
/-- An object becomes a tree ahead of a call. -/
theorem ACall.fz {n0 : Nat} {f : FuncId} {args : List AV} {fr : List AV} {H : List AObj} {K : AV → St → Prop} (i : Nat) {t : TypeId} {es : Nat} {l : Bool} {cs : List AV} (hi : H[i]? = some (.arr t es l cs)) (hz : FrzL cs)
    {tg : Tag K} (h : ACallF (ctx P G n0) f (thawL i es cs args) ⟨thawL i es cs fr, (H.map (thawO i es cs)).set i .dead⟩ K tg) : ACallF (ctx P G n0) f args ⟨fr, H⟩ K tg := by
  refine ACall.gh (s' := ⟨thawL i es cs fr, (H.map (thawO i es cs)).set i .dead⟩) (thawL_length _ _ _ _) ?_ h
  have := Gh.freeze (G := G) (n0 := n0) (s := ⟨fr ++ args, H⟩) hi hz
  simpa only [thawL_append] using this
/-- The last object, that is dead, falls away ahead of a round's end. -/
theorem LN.via {n0 : Nat} {α : Type} {st : α → St} {inv : α → Prop} {ms : α → Nat} {n : Nat} {s : St} (s' : St) (h : Gh G n0 s s') (k : LN P G n0 st inv ms n s') : LN P G n0 st inv ms n s := by
  obtain ⟨s1, m, h1, h2, h3⟩ := k
  exact ⟨s1, m, Gh.trans h h1, h2, h3⟩

/-! ### Lists of slots, reckoned -/
theorem avmL : (∀ (a d : AV) (l : List AV), (a :: l).getD 0 d = a) ∧ (∀ (a d : AV) (l : List AV) (n : Nat), (a :: l).getD (n + 1) d = l.getD n d) ∧
    (∀ (a b : AV) (l : List AV), (a :: l).set 0 b = b :: l) ∧ (∀ (a b : AV) (l : List AV) (n : Nat), (a :: l).set (n + 1) b = a :: l.set n b) ∧
    (∀ (g : IA → AV), List.map g [] = []) ∧ (∀ (g : IA → AV) (a : IA) (l : List IA), List.map g (a :: l) = g a :: List.map g l) ∧
    (∀ (g : IA → AV), Option.map g none = none) ∧ (∀ (g : IA → AV) (a : IA), Option.map g (some a) = some (g a)) ∧
    (∀ (a d : AObj) (l : List AObj), (a :: l).getD 0 d = a) ∧ (∀ (a d : AObj) (l : List AObj) (n : Nat), (a :: l).getD (n + 1) d = l.getD n d) ∧
    (∀ (a b : AObj) (l : List AObj), (a :: l).set 0 b = b :: l) ∧ (∀ (a b : AObj) (l : List AObj) (n : Nat), (a :: l).set (n + 1) b = a :: l.set n b) ∧
    (∀ (l : List AObj), [] ++ l = l) ∧ (∀ (a : AObj) (l m : List AObj), (a :: l) ++ m = a :: (l ++ m)) ∧
    (([] : List AObj).length = 0) ∧ (∀ (a : AObj) (l : List AObj), (a :: l).length = l.length + 1) ∧
    (([] : List AV).length = 0) ∧ (∀ (a : AV) (l : List AV), (a :: l).length = l.length + 1) ∧
    (∀ (l : List AV), [] ++ l = l) ∧ (∀ (a : AV) (l m : List AV), (a :: l) ++ m = a :: (l ++ m)) := by
  refine ⟨fun _ _ _ => rfl, fun _ _ _ _ => rfl, fun _ _ _ => rfl, fun _ _ _ _ => rfl, fun _ => rfl, fun _ _ _ => rfl, fun _ => rfl, fun _ _ => rfl, fun _ _ _ => rfl, fun _ _ _ _ => rfl, fun _ _ _ => rfl, fun _ _ _ _ => rfl, fun _ => rfl, fun _ _ _ => rfl, rfl, fun _ _ => rfl, rfl, fun _ _ => rfl, fun _ => rfl, fun _ _ _ => rfl⟩
/-- What fills one cell; small sums. -/
theorem avmO : (∀ H, OneL H [] = True) ∧ (∀ H x l, OneL H (x :: l) = (OneC H x ∧ OneL H l)) ∧ (∀ H k n, OneC H (.int k n) = True) ∧ (∀ H b, OneC H (.bool b) = True) ∧ (∀ H s, OneC H (.str s) = True) ∧ (∀ H, OneC H .nilp = True) ∧
    (∀ H cs o, OneC H (.ptr cs o) = True) ∧ (∀ H, OneC H .nils = True) ∧ (∀ H n cs, OneC H (.sl n cs) = True) ∧ (∀ H k l, OneC H (slV k l) = True) ∧ (∀ H k l, OneL H (row k l) = True) ∧ (∀ H i o, OneC H (.own i o) = liveP (H.getD i .dead) True) ∧ (∀ H i o n, OneC H (.osl i o n) = liveP (H.getD i .dead) True) ∧
    (∀ n : Nat, n * 1 = n) ∧ (∀ n : Nat, 1 * n = n) ∧ (∀ n : Nat, 0 + n = n) ∧ (∀ n : Nat, n + 0 = n) ∧ (∀ n : Int, n - 0 = n) ∧ (∀ n : Nat, ((n : Nat) : Int).toNat = n) ∧ (Int.toNat 0 = 0) ∧ (∀ l : List AV, l.drop 0 = l) ∧
    (∀ p : Prop, (True ∧ p) = p) ∧ (∀ p : Prop, (p ∧ True) = p) ∧ ((!true) = false) ∧ ((!false) = true) ∧ ((true == true) = true) ∧ ((false == true) = false) ∧ ((true == false) = false) ∧ ((false == false) = true) ∧ ((true != true) = false) ∧ ((false != true) = true) ∧ ((true != false) = true) ∧ ((false != false) = false) ∧
    (∀ b : Bool, (b == true) = b) ∧ (∀ b : Bool, (b == false) = !b) ∧ (∀ b : Bool, (b != false) = b) ∧ (∀ b : Bool, (b != true) = !b) ∧ (∀ p : Prop, (0 < 1 ∧ p) = p) ∧ (∀ k l, cellsOf (slV k l) = [slV k l]) ∧ (∀ n : Nat, (0 ≤ (n : Int)) = True) ∧ (∀ n : Int, (n ≤ n) = True) ∧ (∀ n : Nat, (n ≤ n) = True) ∧ (∀ k l, (row k l).length = l.length) ∧ (∀ k l n, (row k l).take n = row k (l.take n)) ∧ (∀ k l n, (row k l).drop n = row k (l.drop n)) ∧ (∀ k l m, row k l ++ row k m = row k (l ++ m)) ∧ (∀ (k : IntKind) (l : List Nat) (i x : Nat), (row k l).set i (.int k (x : Int)) = row k (l.set i x)) ∧
    (∀ i k l, killL i (row k l) = row k l) ∧ (∀ n : Nat, (0 ≤ n) = True) ∧ (∀ n : Nat, n - 0 = n) ∧ (∀ n : Nat, ((n : Int) ≠ 0) = (n ≠ 0)) ∧ (∀ n : Nat, (n + 1 ≠ 0) = True) ∧ (∀ n : Int, 0 - n = -n) := by
  refine ⟨fun H => ?_, fun H x l => ?_, fun _ _ _ => rfl, fun _ _ => rfl, fun _ _ => rfl, fun _ => rfl, fun _ _ _ => rfl, fun _ => rfl, fun _ _ _ => rfl, fun _ _ _ => rfl, fun H k l => ?_, fun _ _ _ => rfl, fun _ _ _ _ => rfl, Nat.mul_one, Nat.one_mul, Nat.zero_add, Nat.add_zero, Int.sub_zero, Int.toNat_natCast, rfl, fun _ => rfl,
    fun p => by simp, fun p => by simp, rfl, rfl, rfl, rfl, rfl, rfl, rfl, rfl, rfl, rfl, by decide, by decide, by decide, by decide, fun p => by simp, fun _ _ => rfl, fun n => by simp, fun n => by simp, fun n => by simp, row_length, row_take, row_drop, row_append, row_set, row_killL, fun n => by simp, fun _ => rfl, fun n => propext ⟨fun h => by omega, fun h => by omega⟩, fun n => by simp, Int.zero_sub⟩
  · simp [OneL]
  · simp [OneL]
  · simp [row_one]
/-- Results. -/
theorem avmR : (∀ (s : St) (K : List AV → Prop), resP s [] K = K []) ∧ (∀ (f : List AV) (H : List AObj) (i : Nat) (rs : List IR) (K : List AV → Prop), resP ⟨f, H⟩ (.t i :: rs) K = resP ⟨f, H⟩ rs fun xs => K (f.getD i .junk :: xs)) ∧
    (∀ (f : List AV) (H : List AObj) (i : Nat) (n : Option Nat) (rs : List IR) (K : List AV → Prop), resP ⟨f, H⟩ (.c i n :: rs) K = loadP H n (f.getD i .junk) fun x => resP ⟨f, H⟩ rs fun xs => K (x :: xs)) ∧
    (∀ x, tupOf [x] = x) ∧ (tupOf [] = .tup []) ∧ (∀ x y l, tupOf (x :: y :: l) = .tup (x :: y :: l)) :=
  ⟨fun _ _ => rfl, fun _ _ _ _ _ => rfl, fun _ _ _ _ _ _ => rfl, fun _ => rfl, rfl, fun _ _ _ => rfl⟩
/-- What freezing makes of slots. -/
theorem avmT : (∀ i es cs, thawL i es cs [] = []) ∧ (∀ i es cs c l, thawL i es cs (c :: l) = thaw i es cs c :: thawL i es cs l) ∧
    (∀ i es cs k n, thaw i es cs (.int k n) = .int k n) ∧ (∀ i es cs b, thaw i es cs (.bool b) = .bool b) ∧ (∀ i es cs b, thaw i es cs (.str b) = .str b) ∧ (∀ i es cs, thaw i es cs .nilp = .nilp) ∧
    (∀ i es cs l o, thaw i es cs (.ptr l o) = .ptr l o) ∧ (∀ i es cs, thaw i es cs .nils = .nils) ∧ (∀ i es cs l o, thaw i es cs (.sl l o) = .sl l o) ∧ (∀ i es cs v, thaw i es cs (.raw v) = .raw v) ∧ (∀ i es cs, thaw i es cs .junk = .junk) ∧
    (∀ i es cs l, thaw i es cs (.agg l) = .agg (thawL i es cs l)) ∧ (∀ i es cs l, thaw i es cs (.tup l) = .tup (thawL i es cs l)) ∧ (∀ i es cs f l, thaw i es cs (.fn f l) = .fn f (thawL i es cs l)) ∧
    (∀ i es cs o, thaw i es cs (.own i o) = .ptr cs o) ∧ (∀ i es cs o n, thaw i es cs (.osl i o n) = if o + n * es ≤ cs.length then .sl n ((cs.drop o).take (n * es)) else .junk) ∧
    (∀ i j es cs o, j ≠ i → thaw i es cs (.own j o) = .own j o) ∧ (∀ i j es cs o n, j ≠ i → thaw i es cs (.osl j o n) = .osl j o n) ∧
    (∀ i es cs k l, thaw i es cs (slV k l) = slV k l) ∧
    (∀ i es cs t e l c, thawO i es cs (.arr t e l c) = .arr t e l (thawL i es cs c)) ∧ (∀ i es cs, thawO i es cs .dead = .dead) ∧ (∀ i es cs k m, thawO i es cs (.mp k m) = .mp k m) ∧
    (∀ i es cs k l, thawL i es cs (row k l) = row k l) ∧
    (∀ (g : AObj → AObj), List.map g [] = []) ∧ (∀ (g : AObj → AObj) (a : AObj) (l : List AObj), List.map g (a :: l) = g a :: List.map g l) := by
  refine ⟨fun _ _ _ => rfl, fun _ _ _ _ _ => rfl, fun _ _ _ _ _ => rfl, fun _ _ _ _ => rfl, fun _ _ _ _ => rfl, fun _ _ _ => rfl, fun _ _ _ _ _ => rfl, fun _ _ _ => rfl, fun _ _ _ _ _ => rfl, fun _ _ _ _ => rfl, fun _ _ _ => rfl, fun _ _ _ _ => rfl, fun _ _ _ _ => rfl, fun _ _ _ _ _ => rfl,
    fun _ _ _ _ => by simp [thaw], fun _ _ _ _ _ => by simp [thaw], fun i j _ _ _ h => by simp [thaw, h], fun i j _ _ _ _ h => by simp [thaw, h], fun _ _ _ _ _ => rfl, fun _ _ _ _ _ _ _ => rfl, fun _ _ _ => rfl, fun _ _ _ _ _ => rfl, fun _ _ _ k l => thawL_frz _ (row_frz k l), fun _ => rfl, fun _ _ _ => rfl⟩
/-- Slots far up. -/
theorem avm8 : (∀ (a0 a1 a2 a3 a4 a5 a6 a7 d : AV) (l : List AV) (n : Nat), (a0 :: a1 :: a2 :: a3 :: a4 :: a5 :: a6 :: a7 :: l).getD (n + 8) d = l.getD n d) ∧
    (∀ (a0 a1 a2 a3 a4 a5 a6 a7 b : AV) (l : List AV) (n : Nat), (a0 :: a1 :: a2 :: a3 :: a4 :: a5 :: a6 :: a7 :: l).set (n + 8) b = a0 :: a1 :: a2 :: a3 :: a4 :: a5 :: a6 :: a7 :: l.set n b) :=
  ⟨fun _ _ _ _ _ _ _ _ _ _ _ => rfl, fun _ _ _ _ _ _ _ _ _ _ _ => rfl⟩
end Go.Avm
