/- Joined texts. -/
import Derived.Test.YtdhhdjnhjlomkaaGreatDoorFB
import Derived.Deep.LoopGhost
/- The operations of the abstract machine are those of the model: all of them. -/
set_option linter.unusedSimpArgs false
set_option linter.unusedVariables false
namespace Go.Avm
open Go
variable {P : Program} {G : Glob} {n0 : Nat} {φ : Phi} {bl : Nat → BL} {H : List AObj} {w : World}

def Ent (P : Program) (f : FuncId) : Prop := ∃ fn, P.funcs[f]? = some fn ∧ (fn.name == "runtime.NumGoroutine") = false ∧ fn.body.isNone = false

/-- What is asked of the contracts that a walk leans on. -/
structure Sound (P : Program) (G : Glob) (C : Ctx) : Prop where
  call : ∀ f args H R, C.call f args H R → AC P G f args H R
  ent : ∀ f, C.ent f → Ent P f
  gh : ∀ s s', C.gh s s' → Gh G C.n0 s s'
  ghr : ∀ s, C.gh s s
  mono : ∀ f args H R R', (∀ x H', R x H' → R' x H') → C.call f args H R → C.call f args H R'
  pcf : ∀ g args v, C.pc g args v → Frz v
  pc : ∀ g args v, C.pc g args v → FrzL args → ∀ H, C.call g args H fun x H' => H' = H ∧ x = v
  fol : P.follows .mixedOrders = true

theorem callFunc_run {f : FuncId} (h : Ent P f) (args : Array Value) (w : World) : (callFunc f args).run P w = .ok (.enter f args) w := by
  obtain ⟨fn, h1, h2, h3⟩ := h
  simp only [callFunc, Sem.run_bind, run_program, Result.andThen_ok, h1, h2, h3, Bool.false_eq_true, if_false, Sem.run_pure]

theorem upon_val {o : Oper} {a : Act} {w w' : World} {next : Act → World → Prop} {Q : Exit → Act → World → Prop} {m : Sem Value} {z : Value} (he : execOp a.eval o = (do pure (Next.value (← m)))) (hm : m.run P w = .ok z w') (hk : next (a.put o.dst z) w') : o.wp P a w next Q := by
  unfold Oper.wp
  rw [he]
  simp only [Sem.run_bind, hm, Result.andThen_ok, Sem.run_pure]
  exact hk

section
variable {C : Ctx} {o : Oper} {s : St} {K : AV → St → Prop} {a : Act} {next : Act → World → Prop} {Q : Exit → Act → World → Prop}

/-- What comes behind an operation. -/
def Then (G : Glob) (n0 : Nat) (φ : Phi) (bl : Nat → BL) (w : World) (K : AV → St → Prop) (a : Act) (o : Oper) (next : Act → World → Prop) : Prop :=
  ∀ x s' φ' bl' v w', K x s' → RepL φ' bl' s'.f a.tmps.toList → Inv G φ' bl' s'.H w' → Adv n0 φ bl w φ' bl' w' → Rep φ' bl' x v → next (a.put o.dst v) w'

theorem wp_gives (hi : Inv G φ bl s.H w) (hf : RepL φ bl s.f a.tmps.toList) {m : Sem Value} (he : execOp a.eval o = (do pure (Next.value (← m)))) (h : Gives P φ bl m w (K · s)) (k : Then G n0 φ bl w K a o next) : o.wp P a w next Q := by
  obtain ⟨r, z, h1, h2, h3⟩ := h
  exact upon_val he h1 (k r s φ bl z w h3 hf hi (Adv.refl n0 φ bl w) h2)

theorem wp_givesM {m : Sem Value} (he : execOp a.eval o = (do pure (Next.value (← m)))) (h : GivesM P G n0 φ bl w a.tmps.toList m K) (k : Then G n0 φ bl w K a o next) : o.wp P a w next Q := by
  obtain ⟨r, z, w', φ', bl', s', h1, h2, h3, h4, h5, h6⟩ := h
  exact upon_val he h1 (k r s' φ' bl' z w' h6 h3 h4 h5 h2)

theorem RepL.split {φ : Phi} {bl : Nat → BL} : ∀ {xs ys : List AV} {us vs : List Value}, RepL φ bl (xs ++ ys) (us ++ vs) → xs.length = us.length → RepL φ bl xs us ∧ RepL φ bl ys vs
  | [], ys, us, vs, h, hl => by
    have : us = [] := List.eq_nil_of_length_eq_zero (by simpa using hl.symm)
    subst this
    exact ⟨by simp only [RepL], h⟩
  | x :: xs, ys, us, vs, h, hl => by
    cases us with
    | nil => simp at hl
    | cons u us =>
      simp only [List.cons_append, RepL] at h ⊢
      obtain ⟨u', us', e, hr, hrest⟩ := h
      injection e with e1 e2
      subst e1 e2
      have := RepL.split hrest (by simpa using hl)
      exact ⟨⟨u, us, rfl, hr, this.1⟩, this.2⟩

theorem wp_call (hS : Sound P G C) (hi : Inv G φ bl s.H w) (hf : RepL φ bl s.f a.tmps.toList) {f : FuncId} {args : List AV} {vs : List Value} (hr : RepL φ bl args vs) (he : (execOp a.eval o).run P w = .ok (.enter f vs.toArray) w)
    (h : ACall C f args s K) (k : Then G C.n0 φ bl w K a o next) : o.wp P a w next Q := by
  unfold Oper.wp
  rw [he]
  show Calls P f vs.toArray w _
  obtain ⟨s', args', hl, hg, h⟩ := h
  obtain ⟨φ1, bl1, hi1, hr1, ha1⟩ := hS.gh _ _ hg φ bl (a.tmps.toList ++ vs) w hi (hf.append hr)
  obtain ⟨hf1, hr1⟩ := RepL.split hr1 (by rw [hl]; exact hf.length)
  have hc := hS.call _ _ _ _ h φ1 bl1 w vs hi1 hr1
  refine hc.mono ?_
  rintro e w' ⟨v, φ', bl', x, H', rfl, hK, hi', hr', hfr⟩
  exact k x ⟨s'.f, H'⟩ φ' bl' v w' hK (RepL.mono hfr.phi hfr.ids _ _ hf1) hi' (ha1.trans (hfr.adv C.n0)) hr'
end

theorem bind_some' {α β : Type} {x : Option α} {f : α → Option β} {y : β} (h : (do let a ← x; f a) = some y) : ∃ a, x = some a ∧ f a = some y := by
  cases x with
  | none => cases h
  | some a => exact ⟨a, rfl, h⟩

theorem lowO_rep {f : List AV} {a : Act} (hf : RepL φ bl f a.tmps.toList) {x : Option Operand} {y : Option IA} (h : lowO x = some y) :
    match y.map (ev f), x.map a.eval with | none, none => True | some y, some u => Rep φ bl y u | _, _ => False := by
  cases x with
  | none =>
    simp [lowO] at h
    subst h
    trivial
  | some x =>
    simp [lowO] at h
    obtain ⟨i, h1, rfl⟩ := h
    exact lowA_rep hf h1

theorem ok_true {b : Bool} {α : Type} {f : Unit → Option α} {y : α} (h : (do let x ← ok b; f x) = some y) : b = true ∧ f () = some y := by
  obtain ⟨u, h1, h2⟩ := bind_some' h
  unfold ok at h1
  split at h1
  · exact ⟨‹_›, h2⟩
  · cases h1

theorem sliceT_some {t e : TypeId} (h : sliceT P t = some e) : P.underlying t = some (.slice e) := by
  unfold sliceT at h
  cases hu : P.underlying t with
  | none => simp [hu] at h
  | some d => cases d <;> simp [hu] at h; subst h; rfl
theorem arrayT_some {t : TypeId} {p : Nat × TypeId} (h : arrayT P t = some p) : P.underlying t = some (.array p.1 p.2) := by
  unfold arrayT at h
  cases hu : P.underlying t with
  | none => simp [hu] at h
  | some d => cases d <;> simp [hu] at h; subst h; rfl
theorem intT_some {t : TypeId} {k : IntKind} (h : intT P t = some k) : P.underlying t = some (.int k) := by
  unfold intT at h
  cases hu : P.underlying t with
  | none => simp [hu] at h
  | some d => cases d <;> simp [hu] at h; subst h; rfl
theorem stringT_some {t : TypeId} {u : Unit} (h : stringT P t = some u) : P.underlying t = some .string := by
  unfold stringT at h
  cases hu : P.underlying t with
  | none => simp [hu] at h
  | some d => cases d <;> simp [hu] at h; rfl
theorem boolT_some {t : TypeId} {u : Unit} (h : boolT P t = some u) : P.underlying t = some .bool := by
  unfold boolT at h
  cases hu : P.underlying t with
  | none => simp [hu] at h
  | some d => cases d <;> simp [hu] at h; rfl
theorem ptrT_some {t e : TypeId} (h : ptrT P t = some e) : P.underlying t = some (.pointer e) := by
  unfold ptrT at h
  cases hu : P.underlying t with
  | none => simp [hu] at h
  | some d => cases d <;> simp [hu] at h; subst h; rfl
theorem ifaceT_some {t : TypeId} {u : Unit} (h : ifaceT P t = some u) : ∃ ms, P.underlying t = some (.interface ms) := by
  unfold ifaceT at h
  cases hu : P.underlying t with
  | none => simp [hu] at h
  | some d => cases d <;> simp [hu] at h; exact ⟨_, rfl⟩
theorem mapT_some {t : TypeId} {ke : TypeId × TypeId} (h : mapT P t = some ke) : P.underlying t = some (.map ke.1 ke.2) := by
  unfold mapT at h
  cases hu : P.underlying t with
  | none => simp [hu] at h
  | some d => cases d <;> simp [hu] at h; subst h; rfl
theorem structT_some {t : TypeId} {fs : Array Field} (h : structT P t = some fs) : P.underlying t = some (.struct fs) := by
  unfold structT at h
  cases hu : P.underlying t with
  | none => simp [hu] at h
  | some d => cases d <;> simp [hu] at h; subst h; rfl

section
variable {C : Ctx} {o : Oper} {io : IOp} {s : St} {K : AV → St → Prop} {a : Act} {next : Act → World → Prop} {Q : Exit → Act → World → Prop}

theorem bin_sound (hi : Inv G φ bl s.H w) (hf : RepL φ bl s.f a.tmps.toList) {op : BinOp} {t yt : TypeId} {x y : Operand} (hop : o.op = .binOp op t x y yt) {x' y' : IA} (hx : lowA x = some x') (hy : lowA y = some y') (h : binP op (ev s.f x') (ev s.f y') (K · s)) (k : Then G n0 φ bl w K a o next) : o.wp P a w next Q :=
  wp_gives hi hf (m := do eqGuard op t x y (a.eval x) (a.eval y); binOp op t (a.eval x) (a.eval y)) (by simp only [execOp, hop]) (binP_sound (lowA_rep hf hx) (lowA_rep hf hy) h t x y w) k

theorem eq_sound (hi : Inv G φ bl s.H w) (hf : RepL φ bl s.f a.tmps.toList) {op : BinOp} {t yt : TypeId} {x y : Operand} (hop : o.op = .binOp op t x y yt) {n : Bool} (hn : op = .eql ∧ n = false ∨ op = .neq ∧ n = true) (hl : lowEq P n op t x y = some io) (h : aop C io s K) (k : Then G n0 φ bl w K a o next) : o.wp P a w next Q := by
  unfold lowEq at hl
  split at hl
  · obtain ⟨x', hx, hl⟩ := bind_some' hl
    obtain ⟨y', hy, hl⟩ := bind_some' hl
    injection hl with hl; subst hl
    exact bin_sound hi hf hop hx hy h k
  · split at hl
    · rename_i ht
      obtain ⟨u, ht⟩ := Option.isSome_iff_exists.1 ht
      obtain ⟨x', hx, hl⟩ := bind_some' hl
      obtain ⟨y', hy, hl⟩ := bind_some' hl
      injection hl with hl; subst hl
      simp only [aop] at h
      exact wp_gives hi hf (m := do eqGuard op t x y (a.eval x) (a.eval y); binOp op t (a.eval x) (a.eval y)) (by simp only [execOp, hop]) (eqb_sound (lowA_rep hf hx) (lowA_rep hf hy) h (boolT_some ht) x y hn) k
    · split at hl
      · rename_i ht
        obtain ⟨e, ht⟩ := Option.isSome_iff_exists.1 ht
        obtain ⟨hnil, hl⟩ := ok_true hl
        obtain ⟨x', hx, hl⟩ := bind_some' hl
        injection hl with hl; subst hl
        have hy : a.eval y = .pointer none := by
          cases y <;> simp only [isNilP] at hnil <;> try (cases hnil; done)
          rename_i v
          cases v <;> simp only at hnil <;> try (cases hnil; done)
          rename_i p
          cases p
          · rfl
          · cases hnil
        simp only [aop] at h
        exact wp_gives hi hf (m := do eqGuard op t x y (a.eval x) (.pointer none); binOp op t (a.eval x) (.pointer none)) (by simp only [execOp, hop, hy]) (eqpn_sound hi (lowA_rep hf hx) h (ptrT_some ht) x y hn) k
      · split at hl
        · rename_i ht
          obtain ⟨e, ht⟩ := Option.isSome_iff_exists.1 ht
          obtain ⟨hnil, hl⟩ := ok_true hl
          obtain ⟨x', hx, hl⟩ := bind_some' hl
          injection hl with hl; subst hl
          have hy : a.eval y = .slice none 0 0 := by
            cases y <;> simp only [isNilS] at hnil <;> try (cases hnil; done)
            rename_i v
            cases v <;> simp only at hnil <;> try (cases hnil; done)
            rename_i p n' c
            cases p
            · simp at hnil
              obtain ⟨rfl, rfl⟩ := hnil
              rfl
            · simp at hnil
          simp only [aop] at h
          exact wp_gives hi hf (m := do eqGuard op t x y (a.eval x) (.slice none 0 0); binOp op t (a.eval x) (.slice none 0 0)) (by simp only [execOp, hop, hy]) (eqsn_sound hi (lowA_rep hf hx) h (sliceT_some ht) x y hn) k
        · split at hl
          · rename_i ht
            obtain ⟨e, ht⟩ := Option.isSome_iff_exists.1 ht
            obtain ⟨hnil, hl⟩ := ok_true hl
            obtain ⟨x', hx, hl⟩ := bind_some' hl
            injection hl with hl; subst hl
            obtain ⟨ms, hms⟩ := ifaceT_some ht
            have hy : y = .const .nilIface := by
              cases y <;> simp only [isNilI] at hnil <;> try (cases hnil; done)
              rename_i v
              cases v <;> simp only at hnil <;> try (cases hnil; done)
              rfl
            subst hy
            simp only [aop] at h
            exact wp_gives hi hf (m := do eqGuard op t x (.const .nilIface) (a.eval x) .nilIface; binOp op t (a.eval x) .nilIface) (by simp only [execOp, hop]; rfl) (eqin_sound (lowA_rep hf hx) h hms x hn) k
          · cases hl
end

theorem one?_some {xs : Array Operand} {x : Operand} (h : one? xs = some x) : xs = #[x] := by
  unfold one? at h
  split at h
  · rename_i y hy
    injection h with h
    subst h
    exact Array.toList_inj.1 hy
  · cases h
theorem two?_some {xs : Array Operand} {p : Operand × Operand} (h : two? xs = some p) : xs = #[p.1, p.2] := by
  unfold two? at h
  split at h
  · rename_i x y hy
    injection h with h
    subst h
    exact Array.toList_inj.1 hy
  · cases h

theorem builtin_exec {o : Oper} {a : Act} {b : Builtin} {c : Call} (hop : o.op = .call c) (hc : c.callee = .builtin b) :
    execOp a.eval o = builtin b c.argTypes o.type (c.args.map fun | .const _ => true | _ => false) (c.args.map a.eval) := by
  simp only [execOp, hop, resolve, hc, pure_bind, invoke]
  rfl

set_option maxHeartbeats 2000000 in
theorem aop_sound {C : Ctx} (hS : Sound P G C) {o : Oper} {io : IOp} (hl : lowOp P o.op = some io) {s : St} {K : AV → St → Prop} {a : Act} {next : Act → World → Prop} {Q : Exit → Act → World → Prop}
    (hi : Inv G φ bl s.H w) (hf : RepL φ bl s.f a.tmps.toList) (h : aop C io s K) (k : Then G C.n0 φ bl w K a o next) : o.wp P a w next Q := by
  cases hop : o.op <;> rw [hop] at hl <;> simp only [lowOp] at hl <;> try (cases hl; done)
  case move x =>
    obtain ⟨x', h1, hl⟩ := bind_some' hl
    injection hl with hl; subst hl
    simp only [aop] at h
    exact upon_val (m := pure (a.eval x)) (by simp only [execOp, hop]; rfl) rfl (k _ s φ bl _ w h hf hi (Adv.refl _ φ bl w) (lowA_rep hf h1))
  case assign x =>
    obtain ⟨x', h1, hl⟩ := bind_some' hl
    injection hl with hl; subst hl
    simp only [aop] at h
    exact upon_val (m := pure (a.eval x)) (by simp only [execOp, hop]; rfl) rfl (k _ s φ bl _ w h hf hi (Adv.refl _ φ bl w) (lowA_rep hf h1))
  case pick c x y =>
    obtain ⟨c', h1, hl⟩ := bind_some' hl
    obtain ⟨x', h2, hl⟩ := bind_some' hl
    obtain ⟨y', h3, hl⟩ := bind_some' hl
    injection hl with hl; subst hl
    simp only [aop] at h
    refine wp_gives hi hf (m := do pure (if ← asBool (a.eval c) then a.eval x else a.eval y)) ?_ (pick_sound (lowA_rep hf h1) (lowA_rep hf h2) (lowA_rep hf h3) h) k
    simp only [execOp, hop, bind_assoc, pure_bind]
  case binOp op t x y yt =>
    unfold lowBin at hl
    cases op <;> simp only at hl
    case eql => exact eq_sound hi hf hop (.inl ⟨rfl, rfl⟩) hl h k
    case neq => exact eq_sound hi hf hop (.inr ⟨rfl, rfl⟩) hl h k
    all_goals
      obtain ⟨x', h1, hl⟩ := bind_some' hl
      obtain ⟨y', h2, hl⟩ := bind_some' hl
      injection hl with hl; subst hl
      exact bin_sound hi hf hop h1 h2 h k
  case unOp u t x =>
    unfold lowUn at hl
    cases u <;> simp only at hl <;> try (cases hl; done)
    all_goals
      obtain ⟨x', h1, hl⟩ := bind_some' hl
      injection hl with hl; subst hl
      simp only [aop] at h
    case neg => exact wp_gives hi hf (m := Op.unary .neg (a.eval x)) (by simp only [execOp, hop]) (neg_sound (lowA_rep hf h1) h) k
    case not => exact wp_gives hi hf (m := Op.unary .not (a.eval x)) (by simp only [execOp, hop]) (not_sound (lowA_rep hf h1) h) k
  case convert src dst x =>
    unfold lowConv at hl
    obtain ⟨x', h1, hl⟩ := bind_some' hl
    split at hl
    · rename_i k0 h2
      obtain ⟨k1, h3, hl⟩ := bind_some' hl
      injection hl with hl; subst hl
      simp only [aop] at h
      exact wp_gives hi hf (m := convert src dst (a.eval x)) (by simp only [execOp, hop]) (conv_sound (lowA_rep hf h1) h (intT_some h2) (intT_some h3)) k
    · obtain ⟨e, h2, hl⟩ := bind_some' hl
      obtain ⟨k0, h3, hl⟩ := bind_some' hl
      obtain ⟨h4, hl⟩ := ok_true hl
      obtain ⟨u, h5, hl⟩ := bind_some' hl
      injection hl with hl; subst hl
      simp only [aop] at h
      have hk0 : k0 = .u8 := by simpa using h4
      subst hk0
      exact wp_gives hi hf (m := convert src dst (a.eval x)) (by simp only [execOp, hop]) (b2s_sound hi (sliceT_some h2) (intT_some h3) (stringT_some h5) (lowA_rep hf h1) h) k
  case nilCheck x =>
    obtain ⟨x', h1, hl⟩ := bind_some' hl
    injection hl with hl; subst hl
    simp only [aop] at h
    obtain ⟨r, p, e, hr, hK⟩ := nilck_sound hi (lowA_rep hf h1) h
    refine upon_val (m := pure (a.eval x)) ?_ rfl (k _ s φ bl _ w hK hf hi (Adv.refl _ φ bl w) hr)
    simp only [execOp, hop, e]
    rfl
  case fieldAddr t x i =>
    unfold lowFld at hl
    obtain ⟨x', h1, hl⟩ := bind_some' hl
    obtain ⟨fs, h2, hl⟩ := bind_some' hl
    obtain ⟨f, h3, hl⟩ := bind_some' hl
    obtain ⟨sz, h4, hl⟩ := bind_some' hl
    obtain ⟨h5, hl⟩ := ok_true hl
    injection hl with hl; subst hl
    simp only [aop] at h
    exact wp_gives hi hf (m := Instr.fieldAt t (a.eval x) i) (by simp only [execOp, hop]) (fld_sound hi (structT_some h2) h3 h4 (by simpa using h5) (lowA_rep hf h1) h) k
  case indexAddr t x i =>
    unfold lowIdx at hl
    obtain ⟨x', h1, hl⟩ := bind_some' hl
    obtain ⟨i', h2, hl⟩ := bind_some' hl
    split at hl
    · rename_i e he
      obtain ⟨sz, h3, hl⟩ := bind_some' hl
      injection hl with hl; subst hl
      simp only [aop] at h
      exact wp_gives hi hf (m := Instr.indexAt t (a.eval x) (a.eval i)) (by simp only [execOp, hop]) (idxA_sound hi (sliceT_some he) h3 (lowA_rep hf h1) (lowA_rep hf h2) h) k
    · obtain ⟨ne, h3, hl⟩ := bind_some' hl
      obtain ⟨h4, hl⟩ := ok_true hl
      obtain ⟨sz, h5, hl⟩ := bind_some' hl
      injection hl with hl; subst hl
      simp only [aop] at h
      exact wp_gives hi hf (m := Instr.indexAt t (a.eval x) (a.eval i)) (by simp only [execOp, hop]) (idxP_sound hi (arrayT_some h3) (by simp at h4; omega) h5 (lowA_rep hf h1) (lowA_rep hf h2) h) k
  case index t x i =>
    obtain ⟨x', h1, hl⟩ := bind_some' hl
    obtain ⟨i', h2, hl⟩ := bind_some' hl
    obtain ⟨u, h3, hl⟩ := bind_some' hl
    injection hl with hl; subst hl
    simp only [aop] at h
    exact wp_gives hi hf (m := Instr.index t (a.eval x) (a.eval i)) (by simp only [execOp, hop]) (idxS_sound (stringT_some h3) (lowA_rep hf h1) (lowA_rep hf h2) h) k
  case load t x =>
    unfold lowLoad at hl
    obtain ⟨x', h1, hl⟩ := bind_some' hl
    obtain ⟨b, h2, hl⟩ := bind_some' hl
    cases b with
    | true =>
      simp only [if_true] at hl
      obtain ⟨sz, h3, hl⟩ := bind_some' hl
      injection hl with hl; subst hl
      simp only [aop] at h
      exact wp_gives hi hf (m := Instr.loadAt t (a.eval x)) (by simp only [execOp, hop]) (load_sound hi (q := some sz) ⟨h2, h3⟩ (lowA_rep hf h1) h) k
    | false =>
      simp only [Bool.false_eq_true, if_false] at hl
      injection hl with hl; subst hl
      simp only [aop] at h
      exact wp_gives hi hf (m := Instr.loadAt t (a.eval x)) (by simp only [execOp, hop]) (load_sound hi (q := none) h2 (lowA_rep hf h1) h) k
  case store t x y =>
    obtain ⟨x', h1, hl⟩ := bind_some' hl
    obtain ⟨y', h2, hl⟩ := bind_some' hl
    obtain ⟨sz, h3, hl⟩ := bind_some' hl
    injection hl with hl; subst hl
    simp only [aop] at h
    obtain ⟨w', s', e, g1, g2, g3, g4⟩ := store_sound (K := K) hi hf h3 (lowA_rep hf h1) (lowA_rep hf h2) h
    unfold Oper.wp
    have : (execOp a.eval o).run P w = .ok .skip w' := by
      simp only [execOp, hop, Sem.run_bind, e, Result.andThen_ok, Sem.run_pure]
    rw [this]
    exact k _ s' φ bl undef w' g4 g1 g2 (g3.adv _) (by simp [Rep, RepL, undef])
  case slice t x lo hi' mx =>
    unfold lowSlice at hl
    obtain ⟨x', h1, hl⟩ := bind_some' hl
    obtain ⟨lo', h2, hl⟩ := bind_some' hl
    obtain ⟨hi'', h3, hl⟩ := bind_some' hl
    obtain ⟨h4, hl⟩ := ok_true hl
    have hmx : mx = none := by simpa using h4
    split at hl
    · rename_i e he
      obtain ⟨sz, h5, hl⟩ := bind_some' hl
      injection hl with hl; subst hl
      simp only [aop] at h
      exact wp_gives hi hf (m := Instr.sliceAt t (a.eval x) (lo.map a.eval) (hi'.map a.eval) none) (by simp only [execOp, hop, hmx, Option.map_none]) (slc_sound hi (sliceT_some he) h5 (lowA_rep hf h1) (lowO_rep hf h2) (lowO_rep hf h3) h) k
    · obtain ⟨u, h5, hl⟩ := bind_some' hl
      injection hl with hl; subst hl
      simp only [aop] at h
      exact wp_gives hi hf (m := Instr.sliceAt t (a.eval x) (lo.map a.eval) (hi'.map a.eval) none) (by simp only [execOp, hop, hmx, Option.map_none]) (slcS_sound (stringT_some h5) (lowA_rep hf h1) (lowO_rep hf h2) (lowO_rep hf h3) h) k
  case extract x i =>
    obtain ⟨x', h1, hl⟩ := bind_some' hl
    injection hl with hl; subst hl
    simp only [aop] at h
    exact wp_gives hi hf (m := Instr.extract (a.eval x) i) (by simp only [execOp, hop]) (ext_sound (lowA_rep hf h1) h) k
  case alloc t =>
    obtain ⟨z, h1, hl⟩ := bind_some' hl
    injection hl with hl; subst hl
    simp only [aop] at h
    exact wp_givesM (m := Instr.alloc t true (.tuple #[])) (by simp only [execOp, hop]) (alloc_sound hi hf h1 h) k
  case box t x =>
    obtain ⟨sz, h1, hl⟩ := bind_some' hl
    obtain ⟨x', h2, hl⟩ := bind_some' hl
    injection hl with hl; subst hl
    simp only [aop] at h
    exact wp_givesM (m := Instr.box t (a.eval x)) (by simp only [execOp, hop]) (box_sound hi hf (lowA_rep hf h2) h) k
  case build t parts =>
    unfold lowBuild at hl
    obtain ⟨fs, h1, hl⟩ := bind_some' hl
    obtain ⟨places, h2, hl⟩ := bind_some' hl
    obtain ⟨ps, h3, hl⟩ := bind_some' hl
    obtain ⟨z, h4, hl⟩ := bind_some' hl
    injection hl with hl; subst hl
    simp only [aop] at h
    obtain ⟨hok, hK⟩ := h
    obtain ⟨zv, _, ⟨i, hie, hiz⟩, hzr⟩ := zero_rep h4
    have hl := (hzr φ bl).length
    obtain ⟨cells', g1, g2, g3⟩ := fill_rep hi hf _ _ _ h3 zv.cells z (hzr φ bl) hok
    have hb : P.built t (parts.map fun p => (p.1, a.eval p.2)).toList = some cells' := by
      unfold Program.built
      simp only [hie, structT_some h1, hiz, h2]
      rw [Array.toList_map]
      exact g1
    refine upon_val (m := Instr.build t (parts.map fun p => (p.1, a.eval p.2))) ?_ (run_build w t _ cells' hb) (k _ s φ bl _ w hK hf hi (Adv.refl _ φ bl w) ?_)
    · simp only [execOp, hop]
    · simp only [Rep]
      exact ⟨cells'.toList, by simp, g3⟩
  case buildSlice t len parts =>
    unfold lowBslice at hl
    obtain ⟨e, h1, hl⟩ := bind_some' hl
    obtain ⟨sz, h2, hl⟩ := bind_some' hl
    obtain ⟨z, h3, hl⟩ := bind_some' hl
    obtain ⟨h4, hl⟩ := ok_true hl
    obtain ⟨ps, h5, hl⟩ := bind_some' hl
    injection hl with hl; subst hl
    simp only [aop] at h
    obtain ⟨hok, hK⟩ := h
    simp only [Bool.and_eq_true, beq_iff_eq, decide_eq_true_eq] at h4
    obtain ⟨⟨h6, h7⟩, h8⟩ := h4
    obtain ⟨zv, hzrun, ⟨i, hie, hiz⟩, hzr⟩ := zero_rep h3
    have hm := made_rep (hzr φ bl) len len (Nat.le_refl _)
    rw [h6] at hm
    have hml : (madeCells zv.cells (len * sz)).toList.take (len * sz) = (madeCells zv.cells (len * sz)).toList := List.take_of_length_le (by simp [madeCells])
    rw [hml] at hm
    obtain ⟨cells', g1, g2, g3⟩ := fill_rep hi hf (fun i => some (i * sz, sz)) parts.toList ps h5 (madeCells zv.cells (len * sz)) (reps len z) hm (by rw [reps_length, h6]; exact hok) 
    have hrun : (Instr.buildSlice t len (parts.map fun p => (p.1, a.eval p.2))).run P w = .ok (.slice (some ⟨w.heap.size, 0, none⟩) len len) (w.alloc (.cells cells' e)) := by
      have hfill : Instr.fill (fun i => some (i * sz, sz)) (madeCells zv.cells (len * sz)) (parts.map fun p => (p.1, a.eval p.2)).toList = some cells' := by
        rw [Array.toList_map]; exact g1
      unfold Instr.buildSlice
      simp only [Sem.run_bind, run_underlying (sliceT_some h1), Result.andThen_ok, run_szOf h2]
      rw [if_neg (by omega)]
      by_cases h0 : len * sz = 0
      · have hmk : madeCells zv.cells (len * sz) = #[] := by rw [h0]; simp [madeCells, Array.range_zero']
        have g1' := g1
        rw [hmk] at g1'
        simp [h0, newRow, Array.range_zero', g1']
      · have hmk : (Array.range (len * sz)).map (zv.cells[· % zv.cells.size]!) = madeCells zv.cells (len * sz) := rfl
        simp only [h0, if_false, Sem.run_bind, hzrun, Result.andThen_ok, Sem.run_pure, hmk, hfill]
        simp [newRow]
    have hlen : (fillP (reps len z) (evP s.f ps)).length = cells'.toList.length := g3.length
    obtain ⟨bl', k1, k2, k3, k4⟩ := new_sound (s := s) (t := e) (es := sz) (cs := fillP (reps len z) (evP s.f ps)) (cur := cells') hi hf (w' := w.alloc (.cells cells' e)) rfl rfl rfl rfl (by rw [hlen]; simp) (by rw [hlen, List.take_length]; exact g3)
    refine upon_val (m := Instr.buildSlice t len (parts.map fun p => (p.1, a.eval p.2))) (by simp only [execOp, hop]) hrun (k _ _ φ bl' _ _ hK k2 k3 (k4.adv _) ?_)
    simp only [Rep, k1]
    refine ⟨len, rfl, Nat.le_refl _, by unfold maxLen; omega, ?_⟩
    rw [g2, size_madeCells]
    omega
  case makeSlice t l c =>
    unfold lowMake at hl
    obtain ⟨e, h1, hl⟩ := bind_some' hl
    obtain ⟨sz, h2, hl⟩ := bind_some' hl
    obtain ⟨by_, h3, hl⟩ := bind_some' hl
    obtain ⟨z, h4, hl⟩ := bind_some' hl
    obtain ⟨h5, hl⟩ := ok_true hl
    obtain ⟨l', h6, hl⟩ := bind_some' hl
    obtain ⟨c', h7, hl⟩ := bind_some' hl
    injection hl with hl; subst hl
    simp only [aop] at h
    simp at h5
    exact wp_givesM (m := Instr.makeSlice t (a.eval l) (a.eval c)) (by simp only [execOp, hop]) (mk_sound hi hf (sliceT_some h1) h2 h3 h4 h5.1 h5.2 (lowA_rep hf h6) (lowA_rep hf h7) h) k
  case makeFunc fn first cap =>
    unfold lowFn at hl
    cases fn <;> simp only at hl <;> try (cases hl; done)
    rename_i f
    obtain ⟨h1, hl⟩ := ok_true hl
    obtain ⟨cs, h2, hl⟩ := bind_some' hl
    injection hl with hl; subst hl
    simp only [aop] at h
    have hfirst : first = #[] := by simpa using h1
    refine upon_val (m := Instr.makeFunc (.func f) #[] (cap.map a.eval)) (by simp only [execOp, hop, hfirst, Array.map_empty]) rfl (k _ s φ bl _ w h hf hi (Adv.refl _ φ bl w) ?_)
    simp only [Rep]
    exact ⟨cap.toList.map a.eval, by simp [← Array.toList_inj], lowAs_rep hf h2⟩
  case call c =>
    unfold lowCall at hl
    cases hc : c.callee <;> rw [hc] at hl <;> simp only at hl
    case invoke r m => cases hl
    case value f =>
      unfold lowCallee at hl
      cases f <;> simp only at hl
      case const v => cases hl
      case global g => cases hl
      case func f =>
        obtain ⟨fn, h1, hl⟩ := bind_some' hl
        obtain ⟨h2, hl⟩ := ok_true hl
        obtain ⟨as, h3, hl⟩ := bind_some' hl
        injection hl with hl; subst hl
        simp only [aop] at h
        simp only [Bool.and_eq_true, Bool.not_eq_true'] at h2
        refine wp_call hS hi hf (lowAs_rep hf h3) ?_ h k
        have : execOp a.eval o = callFunc f (c.args.map a.eval) := by
          simp only [execOp, hop, resolve, hc, Act.eval, Deferred.ofValue, pure_bind, invoke]
          simp
        rw [this, callFunc_run ⟨fn, h1, h2.1, h2.2⟩]
        congr 2
        simp [← Array.toList_inj]
      case tmp t =>
        obtain ⟨as, h3, hl⟩ := bind_some' hl
        injection hl with hl; subst hl
        simp only [aop] at h
        have hg := lowA_rep hf (x := .tmp t) (ia := .t t) rfl
        generalize ev s.f (.t t) = g at h hg
        cases g <;> simp only [callvP] at h
        rename_i f cap
        simp only [Rep] at hg
        obtain ⟨vs, hv, hvr⟩ := hg
        refine wp_call hS hi hf ((lowAs_rep hf h3).append hvr) ?_ h.2 k
        have : execOp a.eval o = callFunc f (c.args.map a.eval ++ vs.toArray) := by
          simp only [execOp, hop, resolve, hc, hv, Deferred.ofValue, pure_bind, invoke]
          simp
        rw [this, callFunc_run (hS.ent f h.1)]
        congr 2
        simp [← Array.toList_inj]
    case builtin b =>
      have hex := builtin_exec (a := a) hop hc
      unfold lowBuiltin at hl
      cases b <;> simp only at hl <;> try (cases hl; done)
      case len =>
        unfold lowLen at hl
        obtain ⟨x, h1, hl⟩ := bind_some' hl
        obtain ⟨t, h2, hl⟩ := bind_some' hl
        obtain ⟨h3, hl⟩ := ok_true hl
        obtain ⟨x', h4, hl⟩ := bind_some' hl
        have hargs := one?_some h1
        have hts : c.argTypes = #[t] := by
          simp at h3
          apply Array.ext
          · simp [h3]
          · intro i hi1 hi2
            simp at hi2
            subst hi2
            rw [Array.getElem?_eq_getElem (by omega)] at h2
            injection h2 with h2
        rw [hargs, hts] at hex
        simp only [builtin, Array.map_singleton] at hex
        split at hl
        · rename_i e he
          injection hl with hl; subst hl
          simp only [aop] at h
          exact wp_gives hi hf (m := Builtin.len_ #[t] o.type #[a.eval x]) (by simpa using hex) (len_sound hi (sliceT_some he) (lowA_rep hf h4) h) k
        · obtain ⟨u, h5, hl⟩ := bind_some' hl
          injection hl with hl; subst hl
          simp only [aop] at h
          exact wp_gives hi hf (m := Builtin.len_ #[t] o.type #[a.eval x]) (by simpa using hex) (lenS_sound (stringT_some h5) (lowA_rep hf h4) h) k
      case append =>
        unfold lowApp at hl
        obtain ⟨xy, h1, hl⟩ := bind_some' hl
        obtain ⟨t, h2, hl⟩ := bind_some' hl
        obtain ⟨h3, hl⟩ := ok_true hl
        obtain ⟨e, h4, hl⟩ := bind_some' hl
        obtain ⟨sz, h5, hl⟩ := bind_some' hl
        obtain ⟨by_, h6, hl⟩ := bind_some' hl
        obtain ⟨z, h7, hl⟩ := bind_some' hl
        obtain ⟨h8, hl⟩ := ok_true hl
        obtain ⟨s', h9, hl⟩ := bind_some' hl
        obtain ⟨x', h10, hl⟩ := bind_some' hl
        injection hl with hl; subst hl
        simp only [aop] at h
        have hargs := two?_some h1
        have hts : c.argTypes = #[t, t] := by simpa using h3
        rw [hargs, hts] at hex
        simp at h8
        exact wp_givesM (m := Builtin.append_ #[t, t] o.type #[a.eval xy.1, a.eval xy.2]) (by simpa [builtin] using hex) (app_sound hi hf (sliceT_some h4) h5 h6 h7 h8.1 h8.2 (lowA_rep hf h9) (lowA_rep hf h10) h) k
      case max =>
        obtain ⟨xy, h1, hl⟩ := bind_some' hl
        obtain ⟨x', h2, hl⟩ := bind_some' hl
        obtain ⟨y', h3, hl⟩ := bind_some' hl
        injection hl with hl; subst hl
        simp only [aop] at h
        have hargs := two?_some h1
        rw [hargs] at hex
        exact wp_gives hi hf (m := Builtin.max_ c.argTypes o.type #[a.eval xy.1, a.eval xy.2]) (by simpa [builtin] using hex) (max_sound (lowA_rep hf h2) (lowA_rep hf h3) h _ _) k
      case min =>
        obtain ⟨xy, h1, hl⟩ := bind_some' hl
        obtain ⟨x', h2, hl⟩ := bind_some' hl
        obtain ⟨y', h3, hl⟩ := bind_some' hl
        injection hl with hl; subst hl
        simp only [aop] at h
        have hargs := two?_some h1
        rw [hargs] at hex
        exact wp_gives hi hf (m := Builtin.min_ c.argTypes o.type #[a.eval xy.1, a.eval xy.2]) (by simpa [builtin] using hex) (min_sound (lowA_rep hf h2) (lowA_rep hf h3) h _ _) k
  case makeMap t r =>
    unfold lowMkmap at hl
    obtain ⟨h0, hl⟩ := ok_true hl
    obtain ⟨ke, h1, hl⟩ := bind_some' hl
    obtain ⟨k0, h2, hl⟩ := bind_some' hl
    injection hl with hl; subst hl
    simp only [aop] at h
    have hr : r = none := by simpa using h0
    subst hr
    obtain ⟨g1, g2⟩ := inv_newM (k := k0) hi (w' := w.alloc (.map #[] 0)) rfl rfl rfl rfl
    refine upon_val (m := Instr.makeMap t none) (by simp only [execOp, hop]; rfl) (z := .map (some w.heap.size)) (w' := w.alloc (.map #[] 0)) (by simp [Instr.makeMap]) (k _ _ φ _ _ _ h (RepL.mono (Phi.le_refl _) g2.ids _ _ hf) g1 (g2.adv _) ?_)
    simp only [Rep, updB_same]
  case lookup t x y c =>
    unfold lowLkup at hl
    obtain ⟨x', h1, hl⟩ := bind_some' hl
    obtain ⟨y', h2, hl⟩ := bind_some' hl
    obtain ⟨h3, hl⟩ := ok_true hl
    obtain ⟨ke, h4, hl⟩ := bind_some' hl
    obtain ⟨k0, h5, hl⟩ := bind_some' hl
    obtain ⟨z, h6, hl⟩ := bind_some' hl
    injection hl with hl; subst hl
    simp only [aop] at h
    have hc : c = false := by simpa using h3
    subst hc
    exact wp_gives hi hf (m := Instr.lookup t (a.eval x) (a.eval y) false) (by simp only [execOp, hop]) (lkup_sound hi (mapT_some h4) (intT_some h5) h6 (lowA_rep hf h1) (lowA_rep hf h2) h) k
  case mapUpdate t x y z =>
    unfold lowMapup at hl
    obtain ⟨x', h1, hl⟩ := bind_some' hl
    obtain ⟨y', h2, hl⟩ := bind_some' hl
    obtain ⟨z', h3, hl⟩ := bind_some' hl
    obtain ⟨ke, h4, hl⟩ := bind_some' hl
    obtain ⟨k0, h5, hl⟩ := bind_some' hl
    injection hl with hl; subst hl
    simp only [aop] at h
    obtain ⟨w', s', e, g1, g2, g3, g4⟩ := mapup_sound (K := K) hi hf (mapT_some h4) (intT_some h5) (lowA_rep hf h1) (lowA_rep hf h2) (lowA_rep hf h3) h
    unfold Oper.wp
    have : (execOp a.eval o).run P w = .ok .skip w' := by
      simp only [execOp, hop, Sem.run_bind, e, Result.andThen_ok, Sem.run_pure]
    rw [this]
    exact k _ s' φ bl undef w' g4 g1 g2 (g3.adv _) (by simp [Rep, RepL, undef])
end Go.Avm
/- Regions whose order is drawn: one order that is told stands for all. -/
set_option linter.unusedSimpArgs false
set_option linter.unusedVariables false
namespace Go.Avm
open Go

/-! ### What an operation tells is one thing -/
/-- All that is alive is as it was. -/
def Ext (H H' : List AObj) : Prop := ∀ i, H.getD i .dead = .dead ∨ H'.getD i .dead = H.getD i .dead
theorem Ext.refl (H : List AObj) : Ext H H := fun _ => .inr rfl
theorem Ext.app (H : List AObj) (o : AObj) : Ext H (H ++ [o]) := fun i => by
  rcases Nat.lt_or_ge i H.length with h | h
  · right; simp [List.getD_eq_getElem?_getD, List.getElem?_append_left h]
  · left; simp [List.getD_eq_getElem?_getD, List.getElem?_eq_none h]
theorem Ext.nil (H : List AObj) : Ext [] H := fun i => .inl (by simp)

def Det (Z : Prop) (T : List AObj → (AV → Prop) → Prop) (H : List AObj) : Prop :=
  ∀ Φ, T H Φ → ∃ v, Φ v ∧ (Z → Frz v) ∧ ∀ H', Ext H H' → ∀ Φ', Φ' v → T H' Φ'

theorem live_ext {H H' : List AObj} (h : Ext H H') {i : Nat} {K : Prop} (hl : liveP (H.getD i .dead) K) : K ∧ ∀ K' : Prop, K' → liveP (H'.getD i .dead) K' := by
  rcases h i with e | e
  · rw [e] at hl; exact hl.elim
  · rw [e]
    generalize H.getD i .dead = o at hl
    cases o <;> simp only [liveP] at hl ⊢
    exact ⟨hl, fun _ k => k⟩

theorem live_of {H : List AObj} {i : Nat} {K : Prop} (hl : liveP (H.getD i .dead) K) : K := (live_ext (Ext.refl H) hl).1

theorem frz_get {cs : List AV} (h : FrzL cs) {o : Nat} (ho : o < cs.length) : Frz (cs.getD o .junk) := by
  rw [FrzL.iff] at h
  rw [List.getD_eq_getElem?_getD, List.getElem?_eq_getElem ho]
  exact h _ (List.getElem_mem ho)
theorem frz_take {cs : List AV} (h : FrzL cs) (a b : Nat) : FrzL ((cs.drop a).take b) := by
  rw [FrzL.iff] at h ⊢
  exact fun x hx => h x (List.mem_of_mem_drop (List.mem_of_mem_take hx))

section
variable {H : List AObj}
theorem binP_det (op : BinOp) (x y : AV) : Det True (fun _ => binP op x y) H := by
  intro Φ h
  cases x <;> cases y <;> simp only [binP] at h ⊢
  case int.int k a k' b =>
    cases op <;> simp only at h <;> first
      | exact h.elim
      | exact ⟨_, h.2, fun _ => by simp only [Frz], fun _ _ Φ' hp => ⟨h.1, hp⟩⟩
  case str.str a b =>
    cases op <;> simp only at h <;> first
      | exact h.elim
      | exact ⟨_, h, fun _ => by simp only [Frz], fun _ _ Φ' hp => hp⟩
      | exact ⟨_, h.2, fun _ => by simp only [Frz], fun _ _ Φ' hp => ⟨h.1, hp⟩⟩
theorem eqbP_det (n : Bool) (x y : AV) : Det True (fun _ => eqbP n x y) H := by
  intro Φ h
  cases x <;> cases y <;> simp only [eqbP] at h ⊢
  exact ⟨_, h, fun _ => by simp only [Frz], fun _ _ Φ' hp => hp⟩
theorem notP_det (x : AV) : Det True (fun _ => notP x) H := by
  intro Φ h
  cases x <;> simp only [notP] at h ⊢
  exact ⟨_, h, fun _ => by simp only [Frz], fun _ _ Φ' hp => hp⟩
theorem negP_det (x : AV) : Det True (fun _ => negP x) H := by
  intro Φ h
  cases x <;> simp only [negP] at h ⊢
  exact ⟨_, h, fun _ => by simp only [Frz], fun _ _ Φ' hp => hp⟩
theorem convP_det (k : IntKind) (x : AV) : Det True (fun _ => convP k x) H := by
  intro Φ h
  cases x <;> simp only [convP] at h ⊢
  exact ⟨_, h, fun _ => by simp only [Frz], fun _ _ Φ' hp => hp⟩
theorem idxSP_det (x i : AV) : Det True (fun _ => idxSP x i) H := by
  intro Φ h
  cases x <;> cases i <;> simp only [idxSP] at h ⊢
  exact ⟨_, h.2, fun _ => by simp only [Frz], fun _ _ Φ' hp => ⟨h.1, hp⟩⟩
theorem lenSP_det (x : AV) : Det True (fun _ => lenSP x) H := by
  intro Φ h
  cases x <;> simp only [lenSP] at h ⊢
  exact ⟨_, h, fun _ => by simp only [Frz], fun _ _ Φ' hp => hp⟩
theorem maxP_det (x y : AV) : Det True (fun _ => maxP x y) H := by
  intro Φ h
  cases x <;> cases y <;> simp only [maxP] at h ⊢
  exact ⟨_, h, fun _ => by simp only [Frz], fun _ _ Φ' hp => hp⟩
theorem minP_det (x y : AV) : Det True (fun _ => minP x y) H := by
  intro Φ h
  cases x <;> cases y <;> simp only [minP] at h ⊢
  exact ⟨_, h, fun _ => by simp only [Frz], fun _ _ Φ' hp => hp⟩
theorem bdP_det {d : Int} {x : Option AV} {Φ : Int → Prop} (h : bdP d x Φ) : ∃ n, Φ n ∧ ∀ Φ' : Int → Prop, Φ' n → bdP d x Φ' := by
  cases x with
  | none => exact ⟨d, h, fun _ k => k⟩
  | some x =>
    cases x <;> simp only [bdP] at h ⊢
    exact ⟨_, h, fun _ k => k⟩
theorem slcSP_det (x : AV) (lo hi : Option AV) : Det True (fun _ => slcSP x lo hi) H := by
  intro Φ h
  cases x <;> simp only [slcSP] at h ⊢
  obtain ⟨l, h1, k1⟩ := bdP_det h
  obtain ⟨m, h2, k2⟩ := bdP_det h1
  exact ⟨_, h2.2, fun _ => by simp only [Frz], fun _ _ Φ' hp => k1 _ (k2 _ ⟨h2.1, hp⟩)⟩
theorem eqinP_det (n : Bool) (x : AV) : Det True (fun _ => eqinP n x) H := by
  intro Φ h
  cases x <;> simp only [eqinP] at h ⊢
  rename_i v
  cases v <;> simp only at h ⊢
  · exact ⟨_, h, fun _ => by simp only [Frz], fun _ _ Φ' hp => hp⟩
  · exact ⟨_, h, fun _ => by simp only [Frz], fun _ _ Φ' hp => hp⟩
theorem extP_det (x : AV) (i : Nat) : Det (Frz x) (fun _ => extP x i) H := by
  intro Φ h
  cases x <;> simp only [extP] at h ⊢
  exact ⟨_, h.2, fun z => by simp only [Frz] at z; exact frz_get z h.1, fun _ _ Φ' hp => ⟨h.1, hp⟩⟩
theorem eqpnP_det (n : Bool) (x : AV) : Det True (fun H => eqpnP H n x) H := by
  intro Φ h
  cases x <;> simp only [eqpnP] at h ⊢
  case own i o => exact ⟨_, live_of h, fun _ => by simp only [Frz], fun H' he Φ' hp => (live_ext he h).2 _ hp⟩
  all_goals exact ⟨_, h, fun _ => by simp only [Frz], fun _ _ Φ' hp => hp⟩
theorem eqsnP_det (n : Bool) (x : AV) : Det True (fun H => eqsnP H n x) H := by
  intro Φ h
  cases x <;> simp only [eqsnP] at h ⊢
  case nils => exact ⟨_, h, fun _ => by simp only [Frz], fun _ _ Φ' hp => hp⟩
  case sl len cs => exact ⟨_, h.2, fun _ => by simp only [Frz], fun _ _ Φ' hp => ⟨h.1, hp⟩⟩
  case osl i o len =>
    have := live_of h
    exact ⟨_, this.2, fun _ => by simp only [Frz], fun H' he Φ' hp => (live_ext he h).2 _ ⟨this.1, hp⟩⟩
theorem nilckP_det (x : AV) : Det (Frz x) (fun H => nilckP H x) H := by
  intro Φ h
  cases x <;> simp only [nilckP] at h ⊢
  case ptr cs o => exact ⟨_, h, fun z => z, fun _ _ Φ' hp => hp⟩
  case own i o => exact ⟨_, live_of h, fun z => z, fun H' he Φ' hp => (live_ext he h).2 _ hp⟩
theorem fldP_det (n : Nat) (x : AV) : Det (Frz x) (fun H => fldP H n x) H := by
  intro Φ h
  cases x <;> simp only [fldP] at h ⊢
  case ptr cs o => exact ⟨_, h, fun z => by simp only [Frz] at z ⊢; exact z, fun _ _ Φ' hp => hp⟩
  case own i o => exact ⟨_, live_of h, fun z => by simp only [Frz] at z, fun H' he Φ' hp => (live_ext he h).2 _ hp⟩
theorem idxAP_det (n : Nat) (x i : AV) : Det (Frz x) (fun H => idxAP H n x i) H := by
  intro Φ h
  cases x <;> cases i <;> simp only [idxAP] at h ⊢
  case sl.int => exact ⟨_, h.2, fun z => by simp only [Frz] at z ⊢; exact z, fun _ _ Φ' hp => ⟨h.1, hp⟩⟩
  case osl.int =>
    have := live_of h
    exact ⟨_, this.2, fun z => by simp only [Frz] at z, fun H' he Φ' hp => (live_ext he h).2 _ ⟨this.1, hp⟩⟩
theorem idxPP_det (m n : Nat) (x i : AV) : Det (Frz x) (fun H => idxPP H m n x i) H := by
  intro Φ h
  cases x <;> cases i <;> simp only [idxPP] at h ⊢
  case ptr.int => exact ⟨_, h.2, fun z => by simp only [Frz] at z ⊢; exact z, fun _ _ Φ' hp => ⟨h.1, hp⟩⟩
  case own.int =>
    have := live_of h
    exact ⟨_, this.2, fun z => by simp only [Frz] at z, fun H' he Φ' hp => (live_ext he h).2 _ ⟨this.1, hp⟩⟩
theorem loadC_det {q : Option Nat} {cs : List AV} {o : Nat} {Φ : AV → Prop} (h : loadC q cs o Φ) : ∃ v, Φ v ∧ (FrzL cs → Frz v) ∧ ∀ Φ' : AV → Prop, Φ' v → loadC q cs o Φ' := by
  cases q <;> simp only [loadC] at h ⊢
  · exact ⟨_, h.2, fun z => frz_get z h.1, fun _ k => ⟨h.1, k⟩⟩
  · exact ⟨_, h.2, fun z => by simp only [Frz]; exact frz_take z _ _, fun _ k => ⟨h.1, k⟩⟩
theorem ext_obj {H' : List AObj} (h : Ext H H') {i : Nat} (hi : H.getD i .dead ≠ .dead) : H'.getD i .dead = H.getD i .dead := (h i).resolve_left hi
theorem loadP_det (q : Option Nat) (x : AV) : Det (Frz x) (fun H => loadP H q x) H := by
  intro Φ h
  cases x <;> simp only [loadP] at h ⊢
  case ptr cs o =>
    obtain ⟨v, h1, h2, h3⟩ := loadC_det h
    exact ⟨v, h1, fun z => h2 (by simpa only [Frz] using z), fun _ _ Φ' hp => h3 _ hp⟩
  case own i o =>
    have hd : H.getD i .dead ≠ .dead := fun e => by rw [e] at h; exact h
    have key : ∀ b : AObj, loadO q b o Φ → ∃ v, Φ v ∧ ∀ Φ' : AV → Prop, Φ' v → loadO q b o Φ' := by
      intro b hb
      cases b <;> simp only [loadO] at hb ⊢
      obtain ⟨v, h1, _, h3⟩ := loadC_det hb
      exact ⟨v, h1, h3⟩
    obtain ⟨v, h1, h3⟩ := key _ h
    exact ⟨v, h1, fun z => by simp only [Frz] at z, fun H' he Φ' hp => by rw [ext_obj he hd]; exact h3 _ hp⟩
theorem lenQ_det (x : AV) : Det True (fun H => lenQ H x) H := by
  intro Φ h
  cases x <;> simp only [lenQ] at h ⊢
  case nils => exact ⟨_, h, fun _ => by simp only [Frz], fun _ _ Φ' hp => hp⟩
  case sl len cs => exact ⟨_, h.2, fun _ => by simp only [Frz], fun _ _ Φ' hp => ⟨h.1, hp⟩⟩
  case osl i o len =>
    have := live_of h
    exact ⟨_, this.2, fun _ => by simp only [Frz], fun H' he Φ' hp => (live_ext he h).2 _ ⟨this.1, hp⟩⟩
theorem slcP_det (n : Nat) (x : AV) (lo hi : Option AV) : Det (Frz x) (fun H => slcP H n x lo hi) H := by
  intro Φ h
  cases x <;> simp only [slcP] at h ⊢
  case nils =>
    obtain ⟨l, h1, k1⟩ := bdP_det h
    obtain ⟨m, h2, k2⟩ := bdP_det h1
    exact ⟨_, h2.2, fun z => z, fun _ _ Φ' hp => k1 _ (k2 _ ⟨h2.1, hp⟩)⟩
  case sl len cs =>
    obtain ⟨l, h1, k1⟩ := bdP_det h
    obtain ⟨m, h2, k2⟩ := bdP_det h1
    exact ⟨_, h2.2, fun z => by simp only [Frz] at z ⊢; exact frz_take z _ _, fun _ _ Φ' hp => k1 _ (k2 _ ⟨h2.1, hp⟩)⟩
  case osl id off len =>
    obtain ⟨l, h1, k1⟩ := bdP_det h
    obtain ⟨m, h2, k2⟩ := bdP_det h1
    have hd : H.getD id .dead ≠ .dead := fun e => by rw [e] at h2; exact h2
    have key : ∀ b : AObj, slcO b n id off len l m Φ → ∃ v, Φ v ∧ ∀ Φ' : AV → Prop, Φ' v → slcO b n id off len l m Φ' := by
      intro b hb
      cases b <;> simp only [slcO] at hb ⊢
      obtain ⟨g1, g2, g3⟩ := hb
      rcases Int.lt_or_eq_of_le g1.2.2.1 with e | e
      · exact ⟨_, g3 e, fun Φ' hp => ⟨g1, fun e' => by omega, fun _ => hp⟩⟩
      · exact ⟨_, g2 e, fun Φ' hp => ⟨g1, fun _ => hp, fun e' => by omega⟩⟩
    obtain ⟨v, h3, k3⟩ := key _ h2
    exact ⟨v, h3, fun z => by simp only [Frz] at z, fun H' he Φ' hp => k1 _ (k2 _ (by rw [ext_obj he hd]; exact k3 _ hp))⟩
theorem b2sC_det {len : Nat} {cs : List AV} {Φ : AV → Prop} (h : b2sC len cs Φ) : ∃ v, Φ v ∧ Frz v ∧ ∀ Φ' : AV → Prop, Φ' v → b2sC len cs Φ' := by
  unfold b2sC at h ⊢
  split at h
  · rename_i l hl
    exact ⟨_, h.2, by simp only [Frz], fun _ k => ⟨h.1, k⟩⟩
  · exact h.elim
theorem b2sP_det (x : AV) : Det True (fun H => b2sP H x) H := by
  intro Φ h
  cases x <;> simp only [b2sP] at h ⊢
  case nils => exact ⟨_, h, fun _ => by simp only [Frz], fun _ _ Φ' hp => hp⟩
  case sl len cs =>
    obtain ⟨v, h1, h2, h3⟩ := b2sC_det h
    exact ⟨v, h1, fun _ => h2, fun _ _ Φ' hp => h3 _ hp⟩
  case osl id off len =>
    have hd : H.getD id .dead ≠ .dead := fun e => by rw [e] at h; exact h
    have key : ∀ b : AObj, b2sO b off len Φ → ∃ v, Φ v ∧ Frz v ∧ ∀ Φ' : AV → Prop, Φ' v → b2sO b off len Φ' := by
      intro b hb
      cases b <;> simp only [b2sO] at hb ⊢
      obtain ⟨v, h1, h2, h3⟩ := b2sC_det hb.2
      exact ⟨v, h1, h2, fun _ k => ⟨hb.1, h3 _ k⟩⟩
    obtain ⟨v, h1, h2, h3⟩ := key _ h
    exact ⟨v, h1, fun _ => h2, fun H' he Φ' hp => by rw [ext_obj he hd]; exact h3 _ hp⟩
theorem pickP_det (c a b : AV) : Det (Frz a ∧ Frz b) (fun _ => pickP c a b) H := by
  intro Φ h
  cases c <;> simp only [pickP] at h ⊢
  rename_i t
  exact ⟨_, h, fun z => by cases t <;> simp [z.1, z.2], fun _ _ Φ' hp => hp⟩
theorem oneC_ext {H' : List AObj} (he : Ext H H') {x : AV} (h : OneC H x) : OneC H' x := by
  cases x <;> simp only [OneC] at h ⊢
  · exact (live_ext he h).2 _ trivial
  · exact (live_ext he h).2 _ trivial
  · exact h
theorem fillOk_ext {H' : List AObj} (he : Ext H H') {n : Nat} : ∀ {ps : List (Nat × Nat × AV)}, fillOk H n ps → fillOk H' n ps
  | [], h => h
  | p :: ps, h => by
    simp only [fillOk] at h ⊢
    exact ⟨⟨h.1.1, h.1.2.1, h.1.2.2.1, fun x hx => oneC_ext he (h.1.2.2.2 x hx)⟩, fillOk_ext he h.2⟩
end

/-! ### What hangs on which slots -/
def killo (k : Option Nat) (x : AV) : AV := match k with
  | none => x
  | some i => kill i x
theorem killo_frz {k : Option Nat} {x : AV} (h : Frz x) : killo k x = x := by
  cases k with
  | none => rfl
  | some i => exact kill_frz i x h
def Agr (k : Option Nat) (f f' : List AV) (l : List Nat) : Prop := ∀ t ∈ l, f'.getD t .junk = killo k (f.getD t .junk)
theorem Agr.sub {k : Option Nat} {f f' : List AV} {l m : List Nat} (h : Agr k f f' l) (s : m ⊆ l) : Agr k f f' m := fun t ht => h t (s ht)
theorem ev_frz {k : Option Nat} {f f' : List AV} {l : List Nat} {x : IA} (h : Agr k f f' l) (s : x.rd ⊆ l) (z : Frz (ev f x)) : ev f' x = ev f x := by
  cases x with
  | t i =>
    have := h i (s (by simp [IA.rd]))
    simp only [ev] at z ⊢
    rw [this, killo_frz z]
  | v y => rfl
theorem ev_kill {k : Option Nat} {f f' : List AV} {l : List Nat} {x : IA} (h : Agr k f f' l) (s : x.rd ⊆ l) (z : okC x) : ev f' x = killo k (ev f x) := by
  cases x with
  | t i => exact h i (s (by simp [IA.rd]))
  | v y => simp only [okC] at z; simp only [ev]; rw [killo_frz z]
theorem ev_none {f f' : List AV} {l : List Nat} {x : IA} (h : Agr none f f' l) (s : x.rd ⊆ l) : ev f' x = ev f x := by
  cases x with
  | t i => exact h i (s (by simp [IA.rd]))
  | v y => rfl
theorem evO_none {f f' : List AV} {l : List Nat} {x : Option IA} (h : Agr none f f' l) (s : rdO x ⊆ l) : x.map (ev f') = x.map (ev f) := by
  cases x with
  | none => rfl
  | some y => simp only [Option.map_some, ev_none h (x := y) s]
theorem evO_int {k : Option Nat} {f f' : List AV} {l : List Nat} {x : Option IA} (h : Agr k f f' l) (s : rdO x ⊆ l) {d : Int} {K : Int → Prop} (hb : bdP d (x.map (ev f)) K) : x.map (ev f') = x.map (ev f) := by
  cases x with
  | none => rfl
  | some y =>
    simp only [Option.map_some, Option.some.injEq] at hb ⊢
    refine ev_frz h (x := y) s ?_
    generalize ev f y = z at hb
    cases z <;> simp only [bdP] at hb
    simp only [Frz]
theorem evL_none {f f' : List AV} {l : List Nat} : ∀ {xs : List IA}, Agr none f f' l → xs.flatMap IA.rd ⊆ l → xs.map (ev f') = xs.map (ev f)
  | [], _, _ => rfl
  | x :: xs, h, s => by
    simp only [List.flatMap_cons, List.append_subset] at s
    simp only [List.map_cons, ev_none h s.1, evL_none h s.2]
theorem evL_frz {k : Option Nat} {f f' : List AV} {l : List Nat} : ∀ {xs : List IA}, Agr k f f' l → xs.flatMap IA.rd ⊆ l → FrzL (xs.map (ev f)) → xs.map (ev f') = xs.map (ev f)
  | [], _, _, _ => rfl
  | x :: xs, h, s, z => by
    simp only [List.flatMap_cons, List.append_subset] at s
    simp only [List.map_cons, FrzL] at z
    simp only [List.map_cons, ev_frz h s.1 z.1, evL_frz h s.2 z.2]
theorem evP_none {f f' : List AV} {l : List Nat} : ∀ {ps : List (Nat × Nat × IA)}, Agr none f f' l → (ps.flatMap fun p => p.2.2.rd) ⊆ l → evP f' ps = evP f ps
  | [], _, _ => rfl
  | p :: ps, h, s => by
    simp only [List.flatMap_cons, List.append_subset] at s
    have := evP_none (ps := ps) h s.2
    simp only [evP, List.map_cons] at this ⊢
    rw [ev_none h s.1, this]
theorem evP_frz {k : Option Nat} {f f' : List AV} {l : List Nat} : ∀ {ps : List (Nat × Nat × IA)}, Agr k f f' l → (ps.flatMap fun p => p.2.2.rd) ⊆ l → FrzL ((evP f ps).map fun p => p.2.2) → evP f' ps = evP f ps
  | [], _, _, _ => rfl
  | p :: ps, h, s, z => by
    simp only [List.flatMap_cons, List.append_subset] at s
    simp only [evP, List.map_cons, FrzL] at z
    have := evP_frz (ps := ps) h s.2 z.2
    simp only [evP, List.map_cons] at this ⊢
    rw [ev_frz h s.1 z.1, this]

theorem frzL_append {a b : List AV} : FrzL (a ++ b) ↔ FrzL a ∧ FrzL b := by simp only [FrzL.iff, List.mem_append]; exact ⟨fun h => ⟨fun x hx => h x (.inl hx), fun x hx => h x (.inr hx)⟩, fun h x hx => hx.elim (h.1 x) (h.2 x)⟩
theorem frzL_set {cs : List AV} (h : FrzL cs) {o : Nat} {x : AV} (hx : Frz x) : FrzL (cs.set o x) := by
  rw [FrzL.iff] at h ⊢
  intro y hy
  rcases List.mem_or_eq_of_mem_set hy with h' | h'
  · exact h y h'
  · exact h' ▸ hx
theorem frz_cells {x : AV} (h : Frz x) : FrzL (cellsOf x) := by
  cases x <;> simp only [cellsOf, FrzL, Frz] at h ⊢ <;> simp [h]
theorem frz_putAt : ∀ {l cs : List AV} {o : Nat}, FrzL cs → FrzL l → FrzL (putAt cs o l)
  | [], _, _, h, _ => h
  | x :: xs, cs, o, h, k => by
    simp only [FrzL] at k
    exact frz_putAt (l := xs) (frzL_set (o := o) h k.1) k.2
theorem frz_fill : ∀ {ps : List (Nat × Nat × AV)} {cs : List AV}, FrzL cs → FrzL (ps.map fun p => p.2.2) → FrzL (fillP cs ps)
  | [], _, h, _ => h
  | p :: ps, cs, h, k => by
    simp only [List.map_cons, FrzL] at k
    exact frz_fill (ps := ps) (frz_putAt (o := p.1) h (frz_cells k.1)) k.2
theorem frz_reps {z : List AV} (h : FrzL z) : ∀ n, FrzL (reps n z)
  | 0 => by simp [reps, FrzL]
  | n + 1 => by rw [reps_succ]; exact frzL_append.2 ⟨h, frz_reps h n⟩

theorem fin1 {Z : Prop} {T : List AObj → (AV → Prop) → Prop} {Φ : AV → Prop} (hd : Det Z T []) (h : T [] Φ) (z : Z) : ∃ v, Φ v ∧ ∀ (k : Option Nat) (Φ' : AV → Prop), Φ' (killo k v) → T [] Φ' := by
  obtain ⟨v, h1, h2, h3⟩ := hd Φ h
  exact ⟨v, h1, fun k Φ' hp => h3 [] (Ext.refl _) Φ' (by rw [killo_frz (h2 z)] at hp; exact hp)⟩

section
variable {C : Ctx} {f : List AV}
theorem fop_det {o : IOp} {Φ : AV → Prop} (h : fop C o f Φ) (hpc : ∀ g args v, C.pc g args v → Frz v) :
    ∃ v, Φ v ∧ ∀ k f', Agr k f f' o.rds → ∀ Φ' : AV → Prop, Φ' (killo k v) → fop C o f' Φ' := by
  cases o <;> simp only [fop] at h
  case mov x =>
    refine ⟨_, h.2, fun k f' ha Φ' hp => ?_⟩
    show okC x ∧ Φ' (ev f' x)
    rw [ev_kill ha (by simp [IOp.rds]) h.1]
    exact ⟨h.1, hp⟩
  case pick c a b =>
    obtain ⟨⟨z1, z2⟩, h⟩ := h
    have hc : Frz (ev f c) := by
      generalize ev f c = q at h
      cases q <;> simp only [pickP] at h
      simp only [Frz]
    generalize hq : ev f c = q at h hc
    cases q <;> simp only [pickP] at h
    rename_i tb
    refine ⟨_, h, fun k f' ha Φ' hp => ?_⟩
    show (okC a ∧ okC b) ∧ pickP (ev f' c) (ev f' a) (ev f' b) Φ'
    have e1 : ev f' c = ev f c := ev_frz ha (by simp [IOp.rds]) (hq ▸ hc)
    have e2 : ev f' a = killo k (ev f a) := ev_kill ha (by intro x hx; simp [IOp.rds, hx]) z1
    have e3 : ev f' b = killo k (ev f b) := ev_kill ha (by intro x hx; simp [IOp.rds, hx]) z2
    rw [e1, e2, e3, hq]
    refine ⟨⟨z1, z2⟩, ?_⟩
    simp only [pickP]
    cases tb <;> simpa using hp
  case call g args =>
    obtain ⟨hz, v, hv, hp⟩ := h
    refine ⟨v, hp, fun k f' ha Φ' hp => ?_⟩
    show FrzL (args.map (ev f')) ∧ ∃ v, C.pc g (args.map (ev f')) v ∧ Φ' v
    rw [evL_frz ha (by simp [IOp.rds]) hz]
    rw [killo_frz (hpc _ _ _ hv)] at hp
    exact ⟨hz, v, hv, hp⟩
  case callv g args =>
    generalize hg : ev f g = q at h
    cases q <;> simp only [fcallvP] at h
    rename_i g' cap
    obtain ⟨⟨he, hz, hc⟩, v, hv, hp⟩ := h
    refine ⟨v, hp, fun k f' ha Φ' hp => ?_⟩
    show fcallvP C (ev f' g) (args.map (ev f')) Φ'
    rw [evL_frz ha (by intro x hx; simp only [IOp.rds, List.mem_append]; exact .inr hx) hz, ev_frz ha (x := g) (by intro x hx; simp [IOp.rds, hx]) (by rw [hg]; simpa only [Frz] using hc), hg]
    rw [killo_frz (hpc _ _ _ hv)] at hp
    exact ⟨⟨he, hz, hc⟩, v, hv, hp⟩
  case bslice t sz len zero parts =>
    obtain ⟨⟨z1, z2⟩, h1, hp⟩ := h
    refine ⟨_, hp, fun k f' ha Φ' hp => ?_⟩
    show (FrzL zero ∧ FrzL ((evP f' parts).map fun p => p.2.2)) ∧ fillOk [] (len * sz) (evP f' parts) ∧ Φ' (.sl len (fillP (reps len zero) (evP f' parts)))
    rw [evP_frz ha (by simp [IOp.rds]) z2]
    rw [killo_frz (by simp only [Frz]; exact frz_fill (frz_reps z1 _) z2)] at hp
    exact ⟨⟨z1, z2⟩, h1, hp⟩
  case build zero parts =>
    obtain ⟨z, h1, hp⟩ := h
    have z' := frzL_append.1 z
    refine ⟨_, hp, fun k f' ha Φ' hp => ?_⟩
    show FrzL (zero ++ (evP f' parts).map fun p => p.2.2) ∧ fillOk [] zero.length (evP f' parts) ∧ Φ' (.agg (fillP zero (evP f' parts)))
    rw [evP_frz ha (by simp [IOp.rds]) z'.2]
    rw [killo_frz (by simp only [Frz]; exact frz_fill z'.1 z'.2)] at hp
    exact ⟨z, h1, hp⟩
  case ext x i =>
    obtain ⟨z, h⟩ := h
    obtain ⟨v, h1, h3⟩ := fin1 (extP_det (H := []) _ _) h z.1
    refine ⟨v, h1, fun k f' ha Φ' hp => ?_⟩
    show FrzL [ev f' x] ∧ extP (ev f' x) i Φ'
    rw [ev_frz ha (by simp [IOp.rds]) z.1]
    exact ⟨z, h3 k Φ' hp⟩
  case slc n x lo hi =>
    obtain ⟨z, h⟩ := h
    obtain ⟨v, h1, h3⟩ := fin1 (slcP_det (H := []) _ _ _ _) h z.1
    refine ⟨v, h1, fun k f' ha Φ' hp => ?_⟩
    show FrzL [ev f' x] ∧ slcP [] n (ev f' x) (lo.map (ev f')) (hi.map (ev f')) Φ'
    have e : lo.map (ev f') = lo.map (ev f) ∧ hi.map (ev f') = hi.map (ev f) := by
      generalize ev f x = q at h
      cases q <;> simp only [slcP] at h
      all_goals
        obtain ⟨l, g1, _⟩ := bdP_det h
        exact ⟨evO_int ha (by intro x hx; simp [IOp.rds, hx]) h, evO_int ha (by intro x hx; simp [IOp.rds, hx]) g1⟩
    rw [ev_frz ha (by intro x hx; simp [IOp.rds, hx]) z.1, e.1, e.2]
    exact ⟨z, h3 k Φ' hp⟩
  case slcS x lo hi =>
    obtain ⟨z, h⟩ := h
    obtain ⟨v, h1, h3⟩ := fin1 (slcSP_det (H := []) _ _ _) h trivial
    refine ⟨v, h1, fun k f' ha Φ' hp => ?_⟩
    show FrzL [ev f' x] ∧ slcSP (ev f' x) (lo.map (ev f')) (hi.map (ev f')) Φ'
    have e : lo.map (ev f') = lo.map (ev f) ∧ hi.map (ev f') = hi.map (ev f) := by
      generalize ev f x = q at h
      cases q <;> simp only [slcSP] at h
      obtain ⟨l, g1, _⟩ := bdP_det h
      exact ⟨evO_int ha (by intro x hx; simp [IOp.rds, hx]) h, evO_int ha (by intro x hx; simp [IOp.rds, hx]) g1⟩
    rw [ev_frz ha (by intro x hx; simp [IOp.rds, hx]) z.1, e.1, e.2]
    exact ⟨z, h3 k Φ' hp⟩
  case bin op x y =>
    obtain ⟨z, h⟩ := h
    obtain ⟨v, h1, h3⟩ := fin1 (binP_det (H := []) _ _ _) h trivial
    refine ⟨v, h1, fun k f' ha Φ' hp => ?_⟩
    show FrzL [ev f' x, ev f' y] ∧ binP op (ev f' x) (ev f' y) Φ'
    rw [ev_frz ha (x := x) (by intro x hx; simp [IOp.rds, hx]) z.1, ev_frz ha (x := y) (by intro x hx; simp [IOp.rds, hx]) z.2.1]
    exact ⟨z, h3 k Φ' hp⟩
  case eqb n x y =>
    obtain ⟨z, h⟩ := h
    obtain ⟨v, h1, h3⟩ := fin1 (eqbP_det (H := []) _ _ _) h trivial
    refine ⟨v, h1, fun k f' ha Φ' hp => ?_⟩
    show FrzL [ev f' x, ev f' y] ∧ eqbP n (ev f' x) (ev f' y) Φ'
    rw [ev_frz ha (x := x) (by intro x hx; simp [IOp.rds, hx]) z.1, ev_frz ha (x := y) (by intro x hx; simp [IOp.rds, hx]) z.2.1]
    exact ⟨z, h3 k Φ' hp⟩
  case not x =>
    obtain ⟨z, h⟩ := h
    obtain ⟨v, h1, h3⟩ := fin1 (notP_det (H := []) _) h trivial
    refine ⟨v, h1, fun k f' ha Φ' hp => ?_⟩
    show FrzL [ev f' x] ∧ notP (ev f' x) Φ'
    rw [ev_frz ha (x := x) (by intro x hx; simp [IOp.rds, hx]) z.1]
    exact ⟨z, h3 k Φ' hp⟩
  case neg x =>
    obtain ⟨z, h⟩ := h
    obtain ⟨v, h1, h3⟩ := fin1 (negP_det (H := []) _) h trivial
    refine ⟨v, h1, fun k f' ha Φ' hp => ?_⟩
    show FrzL [ev f' x] ∧ negP (ev f' x) Φ'
    rw [ev_frz ha (x := x) (by intro x hx; simp [IOp.rds, hx]) z.1]
    exact ⟨z, h3 k Φ' hp⟩
  case conv k0 x =>
    obtain ⟨z, h⟩ := h
    obtain ⟨v, h1, h3⟩ := fin1 (convP_det (H := []) _ _) h trivial
    refine ⟨v, h1, fun k f' ha Φ' hp => ?_⟩
    show FrzL [ev f' x] ∧ convP k0 (ev f' x) Φ'
    rw [ev_frz ha (x := x) (by intro x hx; simp [IOp.rds, hx]) z.1]
    exact ⟨z, h3 k Φ' hp⟩
  case idxS x i =>
    obtain ⟨z, h⟩ := h
    obtain ⟨v, h1, h3⟩ := fin1 (idxSP_det (H := []) _ _) h trivial
    refine ⟨v, h1, fun k f' ha Φ' hp => ?_⟩
    show FrzL [ev f' x, ev f' i] ∧ idxSP (ev f' x) (ev f' i) Φ'
    rw [ev_frz ha (x := x) (by intro x hx; simp [IOp.rds, hx]) z.1, ev_frz ha (x := i) (by intro x hx; simp [IOp.rds, hx]) z.2.1]
    exact ⟨z, h3 k Φ' hp⟩
  case lenS x =>
    obtain ⟨z, h⟩ := h
    obtain ⟨v, h1, h3⟩ := fin1 (lenSP_det (H := []) _) h trivial
    refine ⟨v, h1, fun k f' ha Φ' hp => ?_⟩
    show FrzL [ev f' x] ∧ lenSP (ev f' x) Φ'
    rw [ev_frz ha (x := x) (by intro x hx; simp [IOp.rds, hx]) z.1]
    exact ⟨z, h3 k Φ' hp⟩
  case max x y =>
    obtain ⟨z, h⟩ := h
    obtain ⟨v, h1, h3⟩ := fin1 (maxP_det (H := []) _ _) h trivial
    refine ⟨v, h1, fun k f' ha Φ' hp => ?_⟩
    show FrzL [ev f' x, ev f' y] ∧ maxP (ev f' x) (ev f' y) Φ'
    rw [ev_frz ha (x := x) (by intro x hx; simp [IOp.rds, hx]) z.1, ev_frz ha (x := y) (by intro x hx; simp [IOp.rds, hx]) z.2.1]
    exact ⟨z, h3 k Φ' hp⟩
  case min x y =>
    obtain ⟨z, h⟩ := h
    obtain ⟨v, h1, h3⟩ := fin1 (minP_det (H := []) _ _) h trivial
    refine ⟨v, h1, fun k f' ha Φ' hp => ?_⟩
    show FrzL [ev f' x, ev f' y] ∧ minP (ev f' x) (ev f' y) Φ'
    rw [ev_frz ha (x := x) (by intro x hx; simp [IOp.rds, hx]) z.1, ev_frz ha (x := y) (by intro x hx; simp [IOp.rds, hx]) z.2.1]
    exact ⟨z, h3 k Φ' hp⟩
  case eqin n x =>
    obtain ⟨z, h⟩ := h
    obtain ⟨v, h1, h3⟩ := fin1 (eqinP_det (H := []) _ _) h trivial
    refine ⟨v, h1, fun k f' ha Φ' hp => ?_⟩
    show FrzL [ev f' x] ∧ eqinP n (ev f' x) Φ'
    rw [ev_frz ha (x := x) (by intro x hx; simp [IOp.rds, hx]) z.1]
    exact ⟨z, h3 k Φ' hp⟩
  case eqpn n x =>
    obtain ⟨z, h⟩ := h
    obtain ⟨v, h1, h3⟩ := fin1 (eqpnP_det (H := []) _ _) h trivial
    refine ⟨v, h1, fun k f' ha Φ' hp => ?_⟩
    show FrzL [ev f' x] ∧ eqpnP [] n (ev f' x) Φ'
    rw [ev_frz ha (x := x) (by intro x hx; simp [IOp.rds, hx]) z.1]
    exact ⟨z, h3 k Φ' hp⟩
  case eqsn n x =>
    obtain ⟨z, h⟩ := h
    obtain ⟨v, h1, h3⟩ := fin1 (eqsnP_det (H := []) _ _) h trivial
    refine ⟨v, h1, fun k f' ha Φ' hp => ?_⟩
    show FrzL [ev f' x] ∧ eqsnP [] n (ev f' x) Φ'
    rw [ev_frz ha (x := x) (by intro x hx; simp [IOp.rds, hx]) z.1]
    exact ⟨z, h3 k Φ' hp⟩
  case nilck x =>
    obtain ⟨z, h⟩ := h
    obtain ⟨v, h1, h3⟩ := fin1 (nilckP_det (H := []) _) h z.1
    refine ⟨v, h1, fun k f' ha Φ' hp => ?_⟩
    show FrzL [ev f' x] ∧ nilckP [] (ev f' x) Φ'
    rw [ev_frz ha (x := x) (by intro x hx; simp [IOp.rds, hx]) z.1]
    exact ⟨z, h3 k Φ' hp⟩
  case fld n x =>
    obtain ⟨z, h⟩ := h
    obtain ⟨v, h1, h3⟩ := fin1 (fldP_det (H := []) _ _) h z.1
    refine ⟨v, h1, fun k f' ha Φ' hp => ?_⟩
    show FrzL [ev f' x] ∧ fldP [] n (ev f' x) Φ'
    rw [ev_frz ha (x := x) (by intro x hx; simp [IOp.rds, hx]) z.1]
    exact ⟨z, h3 k Φ' hp⟩
  case idxA n x i =>
    obtain ⟨z, h⟩ := h
    obtain ⟨v, h1, h3⟩ := fin1 (idxAP_det (H := []) _ _ _) h z.1
    refine ⟨v, h1, fun k f' ha Φ' hp => ?_⟩
    show FrzL [ev f' x, ev f' i] ∧ idxAP [] n (ev f' x) (ev f' i) Φ'
    rw [ev_frz ha (x := x) (by intro x hx; simp [IOp.rds, hx]) z.1, ev_frz ha (x := i) (by intro x hx; simp [IOp.rds, hx]) z.2.1]
    exact ⟨z, h3 k Φ' hp⟩
  case idxP m n x i =>
    obtain ⟨z, h⟩ := h
    obtain ⟨v, h1, h3⟩ := fin1 (idxPP_det (H := []) _ _ _ _) h z.1
    refine ⟨v, h1, fun k f' ha Φ' hp => ?_⟩
    show FrzL [ev f' x, ev f' i] ∧ idxPP [] m n (ev f' x) (ev f' i) Φ'
    rw [ev_frz ha (x := x) (by intro x hx; simp [IOp.rds, hx]) z.1, ev_frz ha (x := i) (by intro x hx; simp [IOp.rds, hx]) z.2.1]
    exact ⟨z, h3 k Φ' hp⟩
  case load n x =>
    obtain ⟨z, h⟩ := h
    obtain ⟨v, h1, h3⟩ := fin1 (loadP_det (H := []) _ _) h z.1
    refine ⟨v, h1, fun k f' ha Φ' hp => ?_⟩
    show FrzL [ev f' x] ∧ loadP [] n (ev f' x) Φ'
    rw [ev_frz ha (x := x) (by intro x hx; simp [IOp.rds, hx]) z.1]
    exact ⟨z, h3 k Φ' hp⟩
  case len x =>
    obtain ⟨z, h⟩ := h
    obtain ⟨v, h1, h3⟩ := fin1 (lenQ_det (H := []) _) h trivial
    refine ⟨v, h1, fun k f' ha Φ' hp => ?_⟩
    show FrzL [ev f' x] ∧ lenQ [] (ev f' x) Φ'
    rw [ev_frz ha (x := x) (by intro x hx; simp [IOp.rds, hx]) z.1]
    exact ⟨z, h3 k Φ' hp⟩
  case b2s x =>
    obtain ⟨z, h⟩ := h
    obtain ⟨v, h1, h3⟩ := fin1 (b2sP_det (H := []) _) h trivial
    refine ⟨v, h1, fun k f' ha Φ' hp => ?_⟩
    show FrzL [ev f' x] ∧ b2sP [] (ev f' x) Φ'
    rw [ev_frz ha (x := x) (by intro x hx; simp [IOp.rds, hx]) z.1]
    exact ⟨z, h3 k Φ' hp⟩

theorem rop_det {o : IOp} {H : List AObj} {Φ : AV → Prop} (h : rop o f H Φ) : ∃ v, Φ v ∧ ∀ H', Ext H H' → ∀ f', Agr none f f' o.rds → ∀ Φ' : AV → Prop, Φ' v → rop o f' H' Φ' := by
  cases o <;> simp only [rop] at h
  case mov x =>
    refine ⟨_, h, fun H' he f' ha Φ' hp => ?_⟩
    show Φ' (ev f' x)
    rw [ev_none ha (by simp [IOp.rds])]
    exact hp
  case pick c a b =>
    obtain ⟨v, h1, _, h3⟩ := pickP_det (H := H) _ _ _ _ h
    refine ⟨v, h1, fun H' he f' ha Φ' hp => ?_⟩
    show pickP (ev f' c) (ev f' a) (ev f' b) Φ'
    rw [ev_none ha (x := c) (by intro x hx; simp [IOp.rds, hx]), ev_none ha (x := a) (by intro x hx; simp [IOp.rds, hx]), ev_none ha (x := b) (by intro x hx; simp [IOp.rds, hx])]
    exact h3 H' he Φ' hp
  case build zero parts =>
    refine ⟨_, h.2, fun H' he f' ha Φ' hp => ?_⟩
    show fillOk H' zero.length (evP f' parts) ∧ Φ' (.agg (fillP zero (evP f' parts)))
    rw [evP_none ha (by simp [IOp.rds])]
    exact ⟨fillOk_ext he h.1, hp⟩
  case mkfn g cap =>
    refine ⟨_, h, fun H' he f' ha Φ' hp => ?_⟩
    show Φ' (.fn g (cap.map (ev f')))
    rw [evL_none ha (by simp [IOp.rds])]
    exact hp
  case ext x i =>
    obtain ⟨v, h1, _, h3⟩ := extP_det (H := H) _ _ _ h
    refine ⟨v, h1, fun H' he f' ha Φ' hp => ?_⟩
    show extP (ev f' x) i Φ'
    rw [ev_none ha (by simp [IOp.rds])]
    exact h3 H' he Φ' hp
  case slc n x lo hi =>
    obtain ⟨v, h1, _, h3⟩ := slcP_det (H := H) _ _ _ _ _ h
    refine ⟨v, h1, fun H' he f' ha Φ' hp => ?_⟩
    show slcP H' n (ev f' x) (lo.map (ev f')) (hi.map (ev f')) Φ'
    rw [ev_none ha (x := x) (by intro x hx; simp [IOp.rds, hx]), evO_none ha (x := lo) (by intro x hx; simp [IOp.rds, hx]), evO_none ha (x := hi) (by intro x hx; simp [IOp.rds, hx])]
    exact h3 H' he Φ' hp
  case slcS x lo hi =>
    obtain ⟨v, h1, _, h3⟩ := slcSP_det (H := H) _ _ _ _ h
    refine ⟨v, h1, fun H' he f' ha Φ' hp => ?_⟩
    show slcSP (ev f' x) (lo.map (ev f')) (hi.map (ev f')) Φ'
    rw [ev_none ha (x := x) (by intro x hx; simp [IOp.rds, hx]), evO_none ha (x := lo) (by intro x hx; simp [IOp.rds, hx]), evO_none ha (x := hi) (by intro x hx; simp [IOp.rds, hx])]
    exact h3 H' he Φ' hp
  case lkup zero x k =>
    generalize hx : ev f x = q at h
    generalize hk : ev f k = r at h
    cases q <;> cases r <;> simp only [lkupP] at h
    rename_i id kk n
    have hd : H.getD id .dead ≠ .dead := fun e => by rw [e] at h; exact h
    generalize ho : H.getD id .dead = b at h hd
    cases b <;> simp only [lkupO] at h
    refine ⟨_, h.2, fun H' he f' ha Φ' hp => ?_⟩
    show lkupP H' zero (ev f' x) (ev f' k) Φ'
    rw [ev_none ha (x := x) (by intro x hx; simp [IOp.rds, hx]), ev_none ha (x := k) (by intro x hx; simp [IOp.rds, hx]), hx, hk]
    simp only [lkupP]
    rw [ext_obj he (by rw [ho]; exact hd), ho]
    exact ⟨h.1, hp⟩
  case bin op x y =>
    obtain ⟨v, h1, _, h3⟩ := binP_det (H := H) _ _ _ _ h
    refine ⟨v, h1, fun H' he f' ha Φ' hp => ?_⟩
    show binP op (ev f' x) (ev f' y) Φ'
    rw [ev_none ha (x := x) (by intro x hx; simp [IOp.rds, hx]), ev_none ha (x := y) (by intro x hx; simp [IOp.rds, hx])]
    exact h3 H' he Φ' hp
  case eqb n x y =>
    obtain ⟨v, h1, _, h3⟩ := eqbP_det (H := H) _ _ _ _ h
    refine ⟨v, h1, fun H' he f' ha Φ' hp => ?_⟩
    show eqbP n (ev f' x) (ev f' y) Φ'
    rw [ev_none ha (x := x) (by intro x hx; simp [IOp.rds, hx]), ev_none ha (x := y) (by intro x hx; simp [IOp.rds, hx])]
    exact h3 H' he Φ' hp
  case not x =>
    obtain ⟨v, h1, _, h3⟩ := notP_det (H := H) _ _ h
    refine ⟨v, h1, fun H' he f' ha Φ' hp => ?_⟩
    show notP (ev f' x) Φ'
    rw [ev_none ha (x := x) (by intro x hx; simp [IOp.rds, hx])]
    exact h3 H' he Φ' hp
  case neg x =>
    obtain ⟨v, h1, _, h3⟩ := negP_det (H := H) _ _ h
    refine ⟨v, h1, fun H' he f' ha Φ' hp => ?_⟩
    show negP (ev f' x) Φ'
    rw [ev_none ha (x := x) (by intro x hx; simp [IOp.rds, hx])]
    exact h3 H' he Φ' hp
  case conv k0 x =>
    obtain ⟨v, h1, _, h3⟩ := convP_det (H := H) _ _ _ h
    refine ⟨v, h1, fun H' he f' ha Φ' hp => ?_⟩
    show convP k0 (ev f' x) Φ'
    rw [ev_none ha (x := x) (by intro x hx; simp [IOp.rds, hx])]
    exact h3 H' he Φ' hp
  case idxS x i =>
    obtain ⟨v, h1, _, h3⟩ := idxSP_det (H := H) _ _ _ h
    refine ⟨v, h1, fun H' he f' ha Φ' hp => ?_⟩
    show idxSP (ev f' x) (ev f' i) Φ'
    rw [ev_none ha (x := x) (by intro x hx; simp [IOp.rds, hx]), ev_none ha (x := i) (by intro x hx; simp [IOp.rds, hx])]
    exact h3 H' he Φ' hp
  case lenS x =>
    obtain ⟨v, h1, _, h3⟩ := lenSP_det (H := H) _ _ h
    refine ⟨v, h1, fun H' he f' ha Φ' hp => ?_⟩
    show lenSP (ev f' x) Φ'
    rw [ev_none ha (x := x) (by intro x hx; simp [IOp.rds, hx])]
    exact h3 H' he Φ' hp
  case max x y =>
    obtain ⟨v, h1, _, h3⟩ := maxP_det (H := H) _ _ _ h
    refine ⟨v, h1, fun H' he f' ha Φ' hp => ?_⟩
    show maxP (ev f' x) (ev f' y) Φ'
    rw [ev_none ha (x := x) (by intro x hx; simp [IOp.rds, hx]), ev_none ha (x := y) (by intro x hx; simp [IOp.rds, hx])]
    exact h3 H' he Φ' hp
  case min x y =>
    obtain ⟨v, h1, _, h3⟩ := minP_det (H := H) _ _ _ h
    refine ⟨v, h1, fun H' he f' ha Φ' hp => ?_⟩
    show minP (ev f' x) (ev f' y) Φ'
    rw [ev_none ha (x := x) (by intro x hx; simp [IOp.rds, hx]), ev_none ha (x := y) (by intro x hx; simp [IOp.rds, hx])]
    exact h3 H' he Φ' hp
  case eqin n x =>
    obtain ⟨v, h1, _, h3⟩ := eqinP_det (H := H) _ _ _ h
    refine ⟨v, h1, fun H' he f' ha Φ' hp => ?_⟩
    show eqinP n (ev f' x) Φ'
    rw [ev_none ha (x := x) (by intro x hx; simp [IOp.rds, hx])]
    exact h3 H' he Φ' hp
  case eqpn n x =>
    obtain ⟨v, h1, _, h3⟩ := eqpnP_det (H := H) _ _ _ h
    refine ⟨v, h1, fun H' he f' ha Φ' hp => ?_⟩
    show eqpnP H' n (ev f' x) Φ'
    rw [ev_none ha (x := x) (by intro x hx; simp [IOp.rds, hx])]
    exact h3 H' he Φ' hp
  case eqsn n x =>
    obtain ⟨v, h1, _, h3⟩ := eqsnP_det (H := H) _ _ _ h
    refine ⟨v, h1, fun H' he f' ha Φ' hp => ?_⟩
    show eqsnP H' n (ev f' x) Φ'
    rw [ev_none ha (x := x) (by intro x hx; simp [IOp.rds, hx])]
    exact h3 H' he Φ' hp
  case nilck x =>
    obtain ⟨v, h1, _, h3⟩ := nilckP_det (H := H) _ _ h
    refine ⟨v, h1, fun H' he f' ha Φ' hp => ?_⟩
    show nilckP H' (ev f' x) Φ'
    rw [ev_none ha (x := x) (by intro x hx; simp [IOp.rds, hx])]
    exact h3 H' he Φ' hp
  case fld n x =>
    obtain ⟨v, h1, _, h3⟩ := fldP_det (H := H) _ _ _ h
    refine ⟨v, h1, fun H' he f' ha Φ' hp => ?_⟩
    show fldP H' n (ev f' x) Φ'
    rw [ev_none ha (x := x) (by intro x hx; simp [IOp.rds, hx])]
    exact h3 H' he Φ' hp
  case idxA n x i =>
    obtain ⟨v, h1, _, h3⟩ := idxAP_det (H := H) _ _ _ _ h
    refine ⟨v, h1, fun H' he f' ha Φ' hp => ?_⟩
    show idxAP H' n (ev f' x) (ev f' i) Φ'
    rw [ev_none ha (x := x) (by intro x hx; simp [IOp.rds, hx]), ev_none ha (x := i) (by intro x hx; simp [IOp.rds, hx])]
    exact h3 H' he Φ' hp
  case idxP m n x i =>
    obtain ⟨v, h1, _, h3⟩ := idxPP_det (H := H) _ _ _ _ _ h
    refine ⟨v, h1, fun H' he f' ha Φ' hp => ?_⟩
    show idxPP H' m n (ev f' x) (ev f' i) Φ'
    rw [ev_none ha (x := x) (by intro x hx; simp [IOp.rds, hx]), ev_none ha (x := i) (by intro x hx; simp [IOp.rds, hx])]
    exact h3 H' he Φ' hp
  case load n x =>
    obtain ⟨v, h1, _, h3⟩ := loadP_det (H := H) _ _ _ h
    refine ⟨v, h1, fun H' he f' ha Φ' hp => ?_⟩
    show loadP H' n (ev f' x) Φ'
    rw [ev_none ha (x := x) (by intro x hx; simp [IOp.rds, hx])]
    exact h3 H' he Φ' hp
  case len x =>
    obtain ⟨v, h1, _, h3⟩ := lenQ_det (H := H) _ _ h
    refine ⟨v, h1, fun H' he f' ha Φ' hp => ?_⟩
    show lenQ H' (ev f' x) Φ'
    rw [ev_none ha (x := x) (by intro x hx; simp [IOp.rds, hx])]
    exact h3 H' he Φ' hp
  case b2s x =>
    obtain ⟨v, h1, _, h3⟩ := b2sP_det (H := H) _ _ h
    refine ⟨v, h1, fun H' he f' ha Φ' hp => ?_⟩
    show b2sP H' (ev f' x) Φ'
    rw [ev_none ha (x := x) (by intro x hx; simp [IOp.rds, hx])]
    exact h3 H' he Φ' hp

theorem wop_agr {o : IOp} {H : List AObj} {K : AV → Option Nat → List AObj → Prop} {f' : List AV} (ha : Agr none f f' o.rds) (h : wop C o f H K) : wop C o f' H K := by
  cases o <;> simp only [wop] at h ⊢
  case store n x v =>
    rw [ev_none ha (x := x) (by intro x hx; simp [IOp.rds, hx]), ev_none ha (x := v) (by intro x hx; simp [IOp.rds, hx])]
    exact h
  case alloc t z => exact h
  case box t sz x =>
    rw [ev_none ha (x := x) (by intro x hx; simp [IOp.rds, hx])]
    exact h
  case mk t sz bytes zero l c =>
    rw [ev_none ha (x := l) (by intro x hx; simp [IOp.rds, hx]), ev_none ha (x := c) (by intro x hx; simp [IOp.rds, hx])]
    exact h
  case app t sz bytes b x =>
    rw [ev_none ha (x := b) (by intro x hx; simp [IOp.rds, hx]), ev_none ha (x := x) (by intro x hx; simp [IOp.rds, hx])]
    exact h
  case call g args =>
    rw [evL_none ha (by simp [IOp.rds])]
    exact h

theorem wop_maker {o : IOp} (hm : isMaker o = true) {H : List AObj} {K : AV → Option Nat → List AObj → Prop} (h : wop C o f H K) : ∃ x b, K x none (H ++ [b]) ∧ ∀ K' : AV → Option Nat → List AObj → Prop, K' x none (H ++ [b]) → wop C o f H K' := by
  cases o <;> simp only [isMaker] at hm <;> (try cases hm) <;> simp only [wop] at h ⊢
  case alloc t z => exact ⟨_, _, h, fun _ k => k⟩
  case box t sz x => exact ⟨_, _, h.2, fun _ k => ⟨h.1, k⟩⟩
  case mk t sz bytes zero l c =>
    generalize ev f l = q at h
    generalize ev f c = r at h
    cases q <;> cases r <;> simp only [wmkP] at h ⊢
    exact ⟨_, _, h.2, fun _ k => ⟨h.1, k⟩⟩
end
end Go.Avm
/- Regions whose order is drawn: neighbours change places. -/
set_option linter.unusedSimpArgs false
set_option linter.unusedVariables false
namespace Go.Avm
open Go

structure Reg (C : Ctx) : Prop where
  mono : ∀ f args H R R', (∀ x H', R x H' → R' x H') → C.call f args H R → C.call f args H R'
  pcf : ∀ g args v, C.pc g args v → Frz v

def gd (f : List AV) (g : Option (Nat × Bool)) : Option Bool := match g with
  | none => some true
  | some (j, b) => match f.getD j .junk with
    | .bool t => some (t == b)
    | .tup [] => some false
    | _ => none

section
variable {C : Ctx}

theorem ex1_0 (o : IOp) (f : List AV) (H : List AObj) (K : AV → Option Nat → List AObj → Prop) : ex1 C 0 o f H K = fop C o f fun x => K x none H := rfl
theorem ex1_1 (o : IOp) (f : List AV) (H : List AObj) (K : AV → Option Nat → List AObj → Prop) : ex1 C 1 o f H K = rop o f H fun x => K x none H := rfl
theorem ex1_2 (o : IOp) (f : List AV) (H : List AObj) (K : AV → Option Nat → List AObj → Prop) : ex1 C 2 o f H K = wop C o f H K := rfl
theorem wantB_iff {b : Bool} {x : AV} {A B : Prop} : wantB b x A B ↔ (match x with | .bool t => (if (t == b) = true then A else B) | .tup [] => B | _ => False) := by
  unfold wantB
  split
  · rename_i t
    simp only [ifB]
    cases (t == b) <;> simp
  · rfl
  · split <;> simp_all

theorem dst1_iff {c : Nat} {o : IStep} {s : St} {K : St → Prop} : dst1 C c o s K ↔ (match gd s.f o.g with
    | some true => ex1 C c o.op s.f s.H fun x k H => K ⟨put (killF k s.f) o.dst x, H⟩
    | some false => K ⟨put s.f o.dst (.tup []), s.H⟩
    | none => False) := by
  obtain ⟨d, op, g⟩ := o
  cases g with
  | none => simp only [dst1, gd]
  | some jb =>
    obtain ⟨j, b⟩ := jb
    simp only [dst1, gd, wantB_iff]
    generalize s.f.getD j .junk = x
    cases x <;> try rfl
    · rename_i t
      cases t <;> cases b <;> simp
    · rename_i vs
      cases vs <;> simp

theorem killF_get (k : Option Nat) (f : List AV) (t : Nat) : (killF k f).getD t .junk = killo k (f.getD t .junk) := by
  cases k with
  | none => rfl
  | some i =>
    simp only [killF, killo]
    induction f generalizing t with
    | nil => simp [killL, kill]
    | cons c cs ih =>
      cases t with
      | zero => simp [killL]
      | succ t => simpa [killL] using ih t

theorem killL_set (i : Nat) : ∀ (f : List AV) (d : Nat) (x : AV), killL i (f.set d x) = (killL i f).set d (kill i x)
  | [], _, _ => rfl
  | c :: cs, 0, _ => rfl
  | c :: cs, d + 1, x => by simp only [List.set_cons_succ, killL, killL_set i cs d x]
theorem killF_put (k : Option Nat) (f : List AV) (d : Option Nat) (x : AV) : killF k (put f d x) = put (killF k f) d (killo k x) := by
  cases k with
  | none => rfl
  | some i =>
    cases d with
    | none => rfl
    | some d => simp only [killF, put, killo, killL_set]
theorem put_comm {f : List AV} {a b : Option Nat} {x y : AV} (h : sameDst a b = false) : put (put f a x) b y = put (put f b y) a x := by
  cases a with
  | none => rfl
  | some a =>
    cases b with
    | none => rfl
    | some b =>
      have h : a ≠ b := fun e => by subst e; simp [sameDst, Nat.beq_refl] at h
      simp only [put]
      exact List.set_comm _ _ h
theorem put_get {f : List AV} {d : Option Nat} {x : AV} {l : List Nat} (h : hits d l = false) {t : Nat} (ht : t ∈ l) : (put f d x).getD t .junk = f.getD t .junk := by
  cases d with
  | none => rfl
  | some d =>
    have : d ≠ t := fun e => by
      subst e
      simp only [hits] at h
      rw [memN_iff.2 ht] at h
      cases h
    simp only [put, List.getD_eq_getElem?_getD, List.getElem?_set_ne this]
theorem agr_put {k : Option Nat} {f : List AV} {d : Option Nat} {x : AV} {l : List Nat} (h : hits d l = false) : Agr k f (put (killF k f) d x) l := fun t ht => by
  rw [put_get h ht, killF_get]
theorem agr_put0 {f : List AV} {d : Option Nat} {x : AV} {l : List Nat} (h : hits d l = false) : Agr none f (put f d x) l := agr_put (k := none) h
theorem agr_back {f : List AV} {d : Option Nat} {x : AV} {l : List Nat} (h : hits d l = false) : Agr none (put f d x) f l := fun t ht => (put_get h ht).symm

theorem gd_agr {k : Option Nat} {f f' : List AV} {o : IStep} (h : Agr k f f' o.rds) {r : Bool} (hg : gd f o.g = some r) : gd f' o.g = some r := by
  obtain ⟨d, op, g⟩ := o
  cases g with
  | none => exact hg
  | some jb =>
    obtain ⟨j, b⟩ := jb
    simp only [gd] at hg ⊢
    have := h j (by simp [IStep.rds])
    rw [this]
    generalize f.getD j .junk = x at hg
    cases x <;> try (cases hg; done)
    · rename_i t
      cases k <;> simpa [killo, kill] using hg
    · rename_i vs
      cases vs with
      | nil => cases k <;> simpa [killo, kill, killL] using hg
      | cons v vs => simp at hg
theorem rds_op {o : IStep} : o.op.rds ⊆ o.rds := by
  intro t ht
  simp [IStep.rds, ht]

theorem ex1_agr {c : Nat} {o : IOp} {f f' : List AV} {H : List AObj} {K : AV → Option Nat → List AObj → Prop} (hC : Reg C) (ha : Agr none f f' o.rds) (h : ex1 C c o f H K) : ex1 C c o f' H K := by
  match c with
  | 0 =>
    rw [ex1_0] at h ⊢
    obtain ⟨v, h1, h2⟩ := fop_det h hC.pcf
    exact h2 none f' ha _ h1
  | 1 =>
    rw [ex1_1] at h ⊢
    obtain ⟨v, h1, h2⟩ := rop_det h
    exact h2 H (Ext.refl _) f' ha _ h1
  | c + 2 => exact wop_agr ha h

theorem wop_mono {o : IOp} {f : List AV} {H : List AObj} {K K' : AV → Option Nat → List AObj → Prop} (hC : Reg C) (hk : ∀ x k H', K x k H' → K' x k H') (h : wop C o f H K) : wop C o f H K' := by
  cases o <;> simp only [wop] at h ⊢
  case store n x v =>
    generalize ev f x = q at h
    cases q <;> simp only [storeP] at h ⊢
    rename_i id o
    generalize H.getD id .dead = b at h
    match b, h with
    | .arr t es false cs, h => exact ⟨h.1, hk _ _ _ h.2⟩
  case alloc t z => exact hk _ _ _ h
  case box t sz x => exact ⟨h.1, hk _ _ _ h.2⟩
  case mk t sz bytes zero l c =>
    generalize ev f l = q at h
    generalize ev f c = r at h
    cases q <;> cases r <;> simp only [wmkP] at h ⊢
    exact ⟨h.1, hk _ _ _ h.2⟩
  case app t sz bytes b x =>
    have key : ∀ m src, wappB C H t sz bytes (ev f b) m src K → wappB C H t sz bytes (ev f b) m src K' := by
      intro m src h
      generalize ev f b = q at h
      cases q <;> simp only [wappB] at h ⊢
      · exact ⟨h.1, hk _ _ _ h.2⟩
      · rename_i id off len
        generalize H.getD id .dead = ob at h
        cases ob <;> simp only [wappO] at h ⊢
        exact ⟨h.1, hk _ _ _ h.2⟩
    unfold wappP at h ⊢
    generalize ev f x = q at h
    cases q <;> simp only [srcP] at h ⊢
    · exact key _ _ h
    · exact ⟨h.1, key _ _ h.2⟩
    · rename_i id off len
      generalize H.getD id .dead = ob at h
      cases ob <;> simp only [srcO] at h ⊢
      exact ⟨h.1, key _ _ h.2⟩
  case call g args => exact hC.mono _ _ _ _ _ (fun x H' h => hk _ _ _ h) h

theorem ex1_mono {c : Nat} {o : IOp} {f : List AV} {H : List AObj} {K K' : AV → Option Nat → List AObj → Prop} (hC : Reg C) (hk : ∀ x k H', K x k H' → K' x k H') (h : ex1 C c o f H K) : ex1 C c o f H K' := by
  match c with
  | 0 =>
    rw [ex1_0] at h ⊢
    obtain ⟨v, h1, h2⟩ := fop_det h hC.pcf
    exact h2 none f (fun _ _ => rfl) (fun x => K' x none H) (hk _ _ _ h1)
  | 1 =>
    rw [ex1_1] at h ⊢
    obtain ⟨v, h1, h2⟩ := rop_det h
    exact h2 H (Ext.refl _) f (fun _ _ => rfl) (fun x => K' x none H) (hk _ _ _ h1)
  | c + 2 => exact wop_mono hC hk h

theorem dst1_mono {c : Nat} {o : IStep} {s : St} {K K' : St → Prop} (hC : Reg C) (hk : ∀ s, K s → K' s) (h : dst1 C c o s K) : dst1 C c o s K' := by
  rw [dst1_iff] at h ⊢
  generalize gd s.f o.g = g at h
  match g, h with
  | some true, h => exact ex1_mono hC (fun x k H' h => hk _ h) h
  | some false, h => exact hk _ h

theorem det0 {o : IStep} {s : St} {Φ : St → Prop} (hC : Reg C) (h : dst1 C 0 o s Φ) :
    ∃ v, Φ ⟨put s.f o.dst v, s.H⟩ ∧ ∀ k f' H', Agr k s.f f' o.rds → ∀ Φ' : St → Prop, Φ' ⟨put f' o.dst (killo k v), H'⟩ → dst1 C 0 o ⟨f', H'⟩ Φ' := by
  rw [dst1_iff] at h
  cases hg : gd s.f o.g with
  | none => rw [hg] at h; exact h.elim
  | some r =>
    rw [hg] at h
    cases r with
    | true =>
      simp only [ex1_0] at h
      obtain ⟨v, h1, h2⟩ := fop_det h hC.pcf
      refine ⟨v, h1, fun k f' H' ha Φ' hp => ?_⟩
      rw [dst1_iff]
      simp only [gd_agr ha hg, ex1_0]
      exact h2 k f' (ha.sub rds_op) (fun x => Φ' ⟨put (killF none f') o.dst x, H'⟩) hp
    | false =>
      refine ⟨.tup [], h, fun k f' H' ha Φ' hp => ?_⟩
      rw [dst1_iff]
      simp only [gd_agr ha hg]
      cases k <;> simpa [killo, kill, killL] using hp
theorem det1 {o : IStep} {s : St} {Φ : St → Prop} (h : dst1 C 1 o s Φ) :
    ∃ v, Φ ⟨put s.f o.dst v, s.H⟩ ∧ ∀ f' H', Agr none s.f f' o.rds → Ext s.H H' → ∀ Φ' : St → Prop, Φ' ⟨put f' o.dst v, H'⟩ → dst1 C 1 o ⟨f', H'⟩ Φ' := by
  rw [dst1_iff] at h
  cases hg : gd s.f o.g with
  | none => rw [hg] at h; exact h.elim
  | some r =>
    rw [hg] at h
    cases r with
    | true =>
      simp only [ex1_1] at h
      obtain ⟨v, h1, h2⟩ := rop_det h
      refine ⟨v, h1, fun f' H' ha he Φ' hp => ?_⟩
      rw [dst1_iff]
      simp only [gd_agr ha hg, ex1_1]
      exact h2 H' he f' (ha.sub rds_op) (fun x => Φ' ⟨put (killF none f') o.dst x, H'⟩) hp
    | false =>
      refine ⟨.tup [], h, fun f' H' ha he Φ' hp => ?_⟩
      rw [dst1_iff]
      simp only [gd_agr ha hg]
      exact hp

theorem dst1_comm {ci cj : Nat} {oi oj : IStep} {s : St} {K : St → Prop} (hC : Reg C) (hc : ci = 0 ∨ (ci = 1 ∧ ((cj = 0 ∨ cj = 1) ∨ (cj = 2 ∧ isMaker oj.op = true)))) (ha : (!hits oi.dst oj.rds && !hits oj.dst oi.rds && !sameDst oi.dst oj.dst) = true)
    (h : dst1 C ci oi s fun s1 => dst1 C cj oj s1 K) : dst1 C cj oj s fun s2 => dst1 C ci oi s2 K := by
  simp only [Bool.and_eq_true, Bool.not_eq_true'] at ha
  obtain ⟨⟨a1, a2⟩, a3⟩ := ha
  rcases hc with rfl | ⟨rfl, hc⟩
  · obtain ⟨v, h1, h2⟩ := det0 hC h
    rw [dst1_iff] at h1 ⊢
    simp only at h1
    cases hg : gd (put s.f oi.dst v) oj.g with
    | none => rw [hg] at h1; exact h1.elim
    | some r =>
      have hg' := gd_agr (k := none) (f' := s.f) (o := oj) (agr_back a1) hg
      rw [hg] at h1
      rw [hg']
      cases r with
      | true =>
        simp only at h1 ⊢
        refine ex1_mono hC ?_ (ex1_agr (f' := s.f) hC ((agr_back a1).sub rds_op) h1)
        intro x k H' hk
        refine h2 k _ H' (agr_put a2) _ ?_
        rw [killF_put, put_comm a3] at hk
        exact hk
      | false =>
        simp only at h1 ⊢
        refine h2 none _ _ (agr_put0 a2) _ ?_
        rw [put_comm a3] at h1
        exact h1
  · obtain ⟨v, h1, h2⟩ := det1 h
    rcases hc with (rfl | rfl) | ⟨rfl, hm⟩
    · obtain ⟨u, h3, h4⟩ := det0 hC h1
      refine h4 none s.f s.H (agr_back a1) _ ?_
      refine h2 _ _ (agr_put0 a2) (Ext.refl _) _ ?_
      rw [put_comm a3] at h3
      exact h3
    · obtain ⟨u, h3, h4⟩ := det1 h1
      refine h4 s.f s.H (agr_back a1) (Ext.refl _) _ ?_
      refine h2 _ _ (agr_put0 a2) (Ext.refl _) _ ?_
      rw [put_comm a3] at h3
      exact h3
    · rw [dst1_iff] at h1 ⊢
      simp only at h1
      cases hg : gd (put s.f oi.dst v) oj.g with
      | none => rw [hg] at h1; exact h1.elim
      | some r =>
        have hg' := gd_agr (k := none) (f' := s.f) (o := oj) (agr_back a1) hg
        rw [hg] at h1
        rw [hg']
        cases r with
        | true =>
          simp only [ex1_2] at h1 ⊢
          obtain ⟨x, b, h3, h4⟩ := wop_maker (C := C) (f := s.f) hm (wop_agr ((agr_back a1).sub rds_op) h1)
          refine h4 _ ?_
          refine h2 _ _ (agr_put0 a2) (Ext.app _ _) _ ?_
          simp only [killF] at h3 ⊢
          rw [put_comm a3] at h3
          exact h3
        | false =>
          simp only at h1 ⊢
          refine h2 _ _ (agr_put0 a2) (Ext.refl _) _ ?_
          rw [put_comm a3] at h1
          exact h1

/-! ### Any order -/
def dany (C : Ctx) (K : St → Prop) (os : List IStep) (cl : List Nat) (ops : Array Oper) : Nat → Array Bool → St → Prop
  | 0, L, s => Region.ready .any ops L = [] ∧ K s
  | n + 1, L, s => (Region.ready .any ops L = [] → K s) ∧ ∀ i ∈ Region.ready .any ops L, dst1 C (cl.getD i 4) (os.getD i default) s (dany C K os cl ops n (L.setIfInBounds i true))

variable {K : St → Prop} {os : List IStep} {cl : List Nat} {ops : Array Oper}

/-- What stands ahead of a listed one is listed. -/
def Down (ops : Array Oper) (L : Array Bool) : Prop := L.size = ops.size ∧ ∀ (j : Nat) (o : Oper), ops[j]? = some o → L.getD j true = true → ∀ e ∈ o.after, Region.binds .any e = true → L.getD e.on false = true

theorem getD_tf {L : Array Bool} {j : Nat} (h : j < L.size) : L.getD j true = L.getD j false := by simp [h]

theorem ready_lt {L : Array Bool} {i : Nat} (h : i ∈ Region.ready .any ops L) : i < ops.size := by
  obtain ⟨_, o, ho, _⟩ := mem_ready.1 h
  exact (Array.getElem?_eq_some_iff.1 ho).1

theorem Down.add {L : Array Bool} (h : Down ops L) {i : Nat} (hi : i ∈ Region.ready .any ops L) : Down ops (L.setIfInBounds i true) := by
  refine ⟨by simp [h.1], fun j o ho hj e he hb => ?_⟩
  by_cases hij : i = j
  · subst hij
    obtain ⟨_, o', ho', hall⟩ := mem_ready.1 hi
    rw [ho] at ho'; injection ho' with ho'; subst ho'
    exact getD_set_true (hall e he hb)
  · rw [getD_set_ne true hij] at hj
    exact getD_set_true (h.2 j o ho hj e he hb)

theorem dany_first (hC : Reg C) {i : Nat} : ∀ (n : Nat) (L : Array Bool) (s : St), Down ops L → i ∈ Region.ready .any ops L →
    (∀ j, j ∈ Region.ready .any ops L ∨ L.getD j true = false → j ≠ i → (∃ L', Down ops L' ∧ (L'.getD i true = false) ∧ j ∈ Region.ready .any ops L') →
      (cl.getD i 4 = 0 ∨ (cl.getD i 4 = 1 ∧ ((cl.getD j 4 = 0 ∨ cl.getD j 4 = 1) ∨ (cl.getD j 4 = 2 ∧ isMaker (os.getD j default).op = true)))) ∧ apartI (infOf os cl i) (infOf os cl j) = true) →
    dst1 C (cl.getD i 4) (os.getD i default) s (dany C K os cl ops n (L.setIfInBounds i true)) → dany C K os cl ops (n + 1) L s := by
  intro n
  induction n with
  | zero =>
    intro L s hd hi hc h
    refine ⟨fun e => (by rw [e] at hi; cases hi), fun j hj => ?_⟩
    by_cases hji : j = i
    · subst hji; exact h
    · exfalso
      have hj' := ready_mono (ops := ops) hj hji
      have hcc := (hc j (.inl hj) hji ⟨L, hd, (mem_ready.1 hi).1, hj⟩).1
      have : ∃ s', dany C K os cl ops 0 (L.setIfInBounds i true) s' := by
        rcases hcc with e | ⟨e, _⟩
        · rw [e] at h; obtain ⟨v, h1, _⟩ := det0 hC h; exact ⟨_, h1⟩
        · rw [e] at h; obtain ⟨v, h1, _⟩ := det1 h; exact ⟨_, h1⟩
      obtain ⟨s', h1⟩ := this
      rw [h1.1] at hj'; cases hj'
  | succ n ih =>
    intro L s hd hi hc h
    refine ⟨fun e => (by rw [e] at hi; cases hi), fun j hj => ?_⟩
    by_cases hji : j = i
    · subst hji; exact h
    · have hcc := hc j (.inl hj) hji ⟨L, hd, (mem_ready.1 hi).1, hj⟩
      have h1 : dst1 C (cl.getD i 4) (os.getD i default) s fun s1 => dst1 C (cl.getD j 4) (os.getD j default) s1 (dany C K os cl ops n ((L.setIfInBounds i true).setIfInBounds j true)) :=
        dst1_mono hC (fun s1 h1 => h1.2 j (ready_mono hj hji)) h
      have h2 := dst1_comm hC hcc.1 hcc.2 h1
      refine dst1_mono hC (fun s2 h3 => ?_) h2
      refine ih (L.setIfInBounds j true) s2 (hd.add hj) (ready_mono hi (Ne.symm hji)) ?_ ?_
      · intro q hq hqi hL
        refine hc q ?_ hqi hL
        have hlt : ∀ q, q ∈ Region.ready .any ops (L.setIfInBounds j true) ∨ (L.setIfInBounds j true).getD q true = false → L.getD q true = false := by
          intro q hq
          have h0 : (L.setIfInBounds j true).getD q true = false := by
            rcases hq with hq | hq
            · exact (mem_ready.1 hq).1
            · exact hq
          by_cases hjq : j = q
          · subst hjq
            have hjs : j < L.size := by rw [hd.1]; exact ready_lt hj
            simp [hjs] at h0
          · rw [getD_set_ne true hjq] at h0; exact h0
        exact .inr (hlt q hq)
      · rw [Array.setIfInBounds_comm _ _ hji]
        exact h3
end
end Go.Avm
/- Regions whose order is drawn: the order that is told stands for all; and it is sound. -/
set_option linter.unusedSimpArgs false
set_option linter.unusedVariables false
namespace Go.Avm
open Go
section
variable {C : Ctx} {K : St → Prop} {os : List IStep} {cl : List Nat} {ops : Array Oper}

/-- What is listed: those of a list. -/
def Lst (ops : Array Oper) (pre : List Nat) (L : Array Bool) : Prop := L.size = ops.size ∧ ∀ j, j < ops.size → (L.getD j true = true ↔ j ∈ pre)

theorem Lst.add {pre : List Nat} {L : Array Bool} (h : Lst ops pre L) {i : Nat} (hi : i < ops.size) : Lst ops (pre ++ [i]) (L.setIfInBounds i true) := by
  refine ⟨by simp [h.1], fun j hj => ?_⟩
  by_cases hij : i = j
  · subst hij
    have : i < L.size := by rw [h.1]; exact hi
    simp [this]
  · rw [getD_set_ne true hij, h.2 j hj]
    simp [Ne.symm hij]

theorem edges_get {j : Nat} {o : Oper} (h : ops[j]? = some o) (e : Edge) (he : e ∈ o.after) (hb : Region.binds .any e = true) : e.on ∈ (edgesOf ops).getD j [] := by
  simp only [edgesOf, List.getD_eq_getElem?_getD, List.getElem?_map, Array.getElem?_toList, h, Option.map_some, Option.getD_some, List.mem_map, List.mem_filter]
  exact ⟨e, ⟨by simpa using he, hb⟩, rfl⟩
theorem edges_of {j : Nat} {o : Oper} (h : ops[j]? = some o) {a : Nat} (ha : a ∈ (edgesOf ops).getD j []) : ∃ e ∈ o.after, Region.binds .any e = true ∧ e.on = a := by
  simp only [edgesOf, List.getD_eq_getElem?_getD, List.getElem?_map, Array.getElem?_toList, h, Option.map_some, Option.getD_some, List.mem_map, List.mem_filter] at ha
  obtain ⟨e, ⟨he, hb⟩, rfl⟩ := ha
  exact ⟨e, by simpa using he, hb, rfl⟩

theorem chkAnc_spec {es an : List (List Nat)} (h : chkAnc es an = true) {j : Nat} (hj : j < es.length) : (∀ e ∈ es.getD j [], e < j) ∧ ∀ a ∈ an.getD j [], a ∈ es.getD j [] ∨ ∃ e ∈ es.getD j [], a ∈ an.getD e [] := by
  simp only [chkAnc, List.all_eq_true, List.mem_range, Bool.and_eq_true, Bool.or_eq_true, List.any_eq_true, memN_iff, Nat.blt_eq] at h
  exact h j hj

/-- All that stands ahead of a ready one is listed. -/
theorem anc_listed {an : List (List Nat)} (hA : chkAnc (edgesOf ops) an = true) {L : Array Bool} (hd : Down ops L) : ∀ (j : Nat) (o : Oper), ops[j]? = some o → (∀ e ∈ o.after, Region.binds .any e = true → L.getD e.on false = true) →
    ∀ a ∈ an.getD j [], L.getD a false = true := by
  intro j
  induction j using Nat.strongRecOn with
  | ind j ih =>
    intro o ho hall a ha
    have hj : j < ops.size := (Array.getElem?_eq_some_iff.1 ho).1
    obtain ⟨h1, h2⟩ := chkAnc_spec hA (j := j) (by simpa [edgesOf] using hj)
    have key : ∀ e ∈ (edgesOf ops).getD j [], L.getD e false = true := fun e he => by
      obtain ⟨e', he', hb, rfl⟩ := edges_of ho he
      exact hall e' he' hb
    rcases h2 a ha with h3 | ⟨e, he, h3⟩
    · exact key a h3
    · have hej := h1 e he
      have helt : e < ops.size := by omega
      have hee := Array.getElem?_eq_getElem helt
      refine ih e hej _ hee (fun e' he' hb => ?_) a h3
      have h4 := key e he
      refine hd.2 e _ hee ?_ e' he' hb
      rw [getD_tf (by rw [hd.1]; exact helt)]
      exact h4

theorem dany_told (hC : Reg C) {an : List (List Nat)} (hes : (edgesOf ops).length = os.length) (hA : chkAnc (edgesOf ops) an = true) : ∀ (suf pre : List Nat) (L : Array Bool) (s : St), Lst ops pre L → Down ops L →
    pre.length + suf.length = os.length → pre.Nodup → (∀ i ∈ pre, i < os.length) → chkOrd (edgesOf ops) an ((List.range os.length).map (infOf os cl)) os.length pre suf = true → dops C K (suf.map fun i => (os.getD i default, cl.getD i 4)) s → dany C K os cl ops suf.length L s
  | [], pre, L, s, hL, hd, hn, hnd, hlt, hc, h => by
    refine ⟨?_, h⟩
    have hops : ops.size = os.length := by rw [← hes]; simp [edgesOf]
    refine List.eq_nil_iff_forall_not_mem.2 fun i hi => ?_
    have hi' := ready_lt hi
    have h0 := (mem_ready.1 hi).1
    have : i ∈ pre := by
      by_cases hm : i ∈ pre
      · exact hm
      · exfalso
        have hnd' : (i :: pre).Nodup := List.nodup_cons.2 ⟨hm, hnd⟩
        have hsub : (i :: pre) ⊆ List.range os.length := by
          intro x hx
          rw [List.mem_range]
          rcases List.mem_cons.1 hx with rfl | hx
          · omega
          · exact hlt x hx
        have := hnd'.length_le_of_subset hsub
        simp at this hn
        omega
    rw [(hL.2 i hi').2 this] at h0
    cases h0
  | i :: suf, pre, L, s, hL, hd, hn, hnd, hlt, hc, h => by
    have hops : ops.size = os.length := by rw [← hes]; simp [edgesOf]
    simp only [chkOrd, Bool.and_eq_true, Bool.not_eq_true', memN_iff, ← Bool.not_eq_true, Nat.blt_eq, List.all_eq_true, Bool.or_eq_true] at hc
    obtain ⟨⟨⟨⟨h1, h2⟩, h3⟩, h4⟩, h5⟩ := hc
    have hinf : ∀ q, q < os.length → ((List.range os.length).map (infOf os cl)).getD q noInf = infOf os cl q := fun q hq => by simp [List.getD_eq_getElem?_getD, hq]
    have hi : i < ops.size := by omega
    have hlisted : ∀ e ∈ pre, L.getD e false = true := fun e he => by
      have := (hL.2 e (by have := hlt e he; omega)).2 he
      rw [getD_tf (by rw [hL.1]; have := hlt e he; omega)] at this
      exact this
    have hr : i ∈ Region.ready .any ops L := mem_ready.2 ⟨by
        have := (hL.2 i hi)
        cases hb : L.getD i true with
        | false => rfl
        | true => exact absurd (this.1 hb) h1, _, Array.getElem?_eq_getElem hi, fun e he hb => hlisted _ (h3 _ (edges_get (Array.getElem?_eq_getElem hi) e he hb))⟩
    have hmem : ∀ j, j < ops.size → j ∉ pre → j ≠ i → j ∈ suf := by
      intro j hj hjp hji
      by_cases hm : j ∈ suf
      · exact hm
      · exfalso
        have hnd2 : suf.Nodup ∧ ∀ x ∈ suf, x ∉ pre ++ [i] ∧ x < os.length := by
          clear h4 h
          have gen : ∀ (suf pre : List Nat), chkOrd (edgesOf ops) an ((List.range os.length).map (infOf os cl)) os.length pre suf = true → suf.Nodup ∧ ∀ x ∈ suf, x ∉ pre ∧ x < os.length := by
            intro suf
            induction suf with
            | nil => intro pre _; simp
            | cons y suf ih =>
              intro pre hc
              simp only [chkOrd, Bool.and_eq_true, Bool.not_eq_true', memN_iff, ← Bool.not_eq_true, Nat.blt_eq] at hc
              obtain ⟨g1, g2⟩ := ih _ hc.2
              refine ⟨List.nodup_cons.2 ⟨fun hy => (g2 y hy).1 (by simp), g1⟩, fun x hx => ?_⟩
              rcases List.mem_cons.1 hx with rfl | hx
              · exact ⟨hc.1.1.1.1, hc.1.1.1.2⟩
              · exact ⟨fun hp => (g2 x hx).1 (by simp [hp]), (g2 x hx).2⟩
          exact gen _ _ h5
        have hnd' : (j :: (pre ++ i :: suf)).Nodup := by
          refine List.nodup_cons.2 ⟨by simp [hjp, hji, hm], ?_⟩
          refine List.nodup_append.2 ⟨hnd, List.nodup_cons.2 ⟨fun hx => (hnd2.2 i hx).1 (by simp), hnd2.1⟩, fun a ha b hb hab => ?_⟩
          subst hab
          rcases List.mem_cons.1 hb with rfl | hb
          · exact h1 ha
          · exact (hnd2.2 a hb).1 (by simp [ha])
        have hsub : (j :: (pre ++ i :: suf)) ⊆ List.range os.length := by
          intro x hx
          rw [List.mem_range]
          simp only [List.mem_cons, List.mem_append] at hx
          rcases hx with rfl | hx | rfl | hx
          · omega
          · exact hlt x hx
          · exact h2
          · exact (hnd2.2 x hx).2
        have := hnd'.length_le_of_subset hsub
        simp at this hn
        omega
    show dany C K os cl ops (suf.length + 1) L s
    refine dany_first hC suf.length L s hd hr ?_ ?_
    · rintro j hj hji ⟨L', hd', hi', hj'⟩
      have hjlt := ready_lt hj'
      have hjp : j ∉ pre := fun hp => by
        have h6 := (hL.2 j hjlt).2 hp
        rcases hj with hj | hj
        · rw [(mem_ready.1 hj).1] at h6; cases h6
        · rw [hj] at h6; cases h6
      have h7 := h4 j (hmem j hjlt hjp hji)
      rcases h7 with h7 | h7
      · exfalso
        obtain ⟨_, o, ho, hall⟩ := mem_ready.1 hj'
        have := anc_listed hA hd' j o ho hall i h7
        rw [← getD_tf (by rw [hd'.1]; exact hi), hi'] at this
        cases this
      · rw [hinf i h2, hinf j (by omega)] at h7
        simp only [compat, Bool.and_eq_true, Bool.or_eq_true] at h7
        refine ⟨?_, h7.2⟩
        rcases h7.1 with h8 | ⟨h8, h9⟩
        · exact .inl (Nat.eq_of_beq_eq_true h8)
        · refine .inr ⟨Nat.eq_of_beq_eq_true h8, ?_⟩
          rcases h9 with h9 | ⟨h9, h10⟩
          · have := Nat.le_of_ble_eq_true h9
            simp only [infOf] at this
            exact .inl (by omega)
          · exact .inr ⟨Nat.eq_of_beq_eq_true h9, h10⟩
    · refine dst1_mono hC (fun s' h' => ?_) h
      exact dany_told hC hes hA suf (pre ++ [i]) _ s' (hL.add hi) (hd.add hr) (by simp at hn ⊢; omega) (by
        refine List.nodup_append.2 ⟨hnd, by simp, fun a ha b hb hab => ?_⟩
        simp at hb; subst hb; subst hab; exact h1 ha) (fun x hx => by
        simp at hx
        rcases hx with hx | rfl
        · exact hlt x hx
        · exact h2) h5 h'
end

/-! ### Soundness -/
theorem nil_ext {Z : Prop} {T : List AObj → (AV → Prop) → Prop} {Φ : AV → Prop} (hd : Det Z T []) (h : T [] Φ) (H : List AObj) : T H Φ := by
  obtain ⟨v, h1, _, h3⟩ := hd Φ h
  exact h3 H (Ext.nil H) Φ h1

theorem fop_rop {C : Ctx} {o : IOp} {f : List AV} {Φ : AV → Prop} (h : fop C o f Φ) (h1 : ∀ g args, o ≠ .call g args) (h2 : ∀ t sz len zero parts, o ≠ .bslice t sz len zero parts) (h3 : ∀ g args, o ≠ .callv g args) (H : List AObj) : rop o f H Φ := by
  cases o <;> simp only [fop] at h <;> simp only [rop]
  case mov => exact h.2
  case pick => exact h.2
  case call g args => exact absurd rfl (h1 g args)
  case bslice t sz len zero parts => exact absurd rfl (h2 _ _ _ _ _)
  case callv g args => exact absurd rfl (h3 g args)
  case build zero parts => exact ⟨fillOk_ext (Ext.nil H) h.2.1, h.2.2⟩
  case bin => exact h.2
  case eqb => exact h.2
  case not => exact h.2
  case neg => exact h.2
  case conv => exact h.2
  case idxS => exact h.2
  case lenS => exact h.2
  case max => exact h.2
  case min => exact h.2
  case eqin => exact h.2
  case ext => exact h.2
  case slcS => exact h.2
  case eqpn n x => exact nil_ext (eqpnP_det _ _) h.2 H
  case eqsn n x => exact nil_ext (eqsnP_det _ _) h.2 H
  case nilck x => exact nil_ext (nilckP_det _) h.2 H
  case fld n x => exact nil_ext (fldP_det _ _) h.2 H
  case idxA n x i => exact nil_ext (idxAP_det _ _ _) h.2 H
  case idxP m n x i => exact nil_ext (idxPP_det _ _ _ _) h.2 H
  case load n x => exact nil_ext (loadP_det _ _) h.2 H
  case len x => exact nil_ext (lenQ_det _) h.2 H
  case slc n x lo hi => exact nil_ext (slcP_det _ _ _ _) h.2 H
  case b2s x => exact nil_ext (b2sP_det _) h.2 H

theorem rop_aop {C : Ctx} {o : IOp} {s : St} {K : AV → St → Prop} (h : rop o s.f s.H (K · s)) : aop C o s K := by
  cases o <;> simp only [rop] at h <;> simp only [aop] <;> try exact h
  case len x =>
    generalize ev s.f x = q at h
    cases q <;> simp only [lenQ] at h <;> simp only [lenP]
    · exact h
    · exact fun _ => h.2
    · exact (live_ext (Ext.refl _) h).2 _ (fun _ => (live_of h).2)
  all_goals exact h.elim

theorem wop_aop {C : Ctx} (hg : ∀ s, C.gh s s) {o : IOp} {s : St} {K : AV → St → Prop} (h : wop C o s.f s.H fun x k H => K x ⟨killF k s.f, H⟩) : aop C o s K := by
  cases o <;> simp only [wop] at h <;> simp only [aop]
  case store n x v => exact h
  case alloc t z => exact h
  case box t sz x => exact h
  case mk t sz bytes zero l c =>
    generalize ev s.f l = q at h
    generalize ev s.f c = r at h
    cases q <;> cases r <;> simp only [wmkP] at h <;> simp only [mkP]
    exact h
  case app t sz bytes b x =>
    have key : ∀ m src, wappB C s.H t sz bytes (ev s.f b) m src (fun x k H => K x ⟨killF k s.f, H⟩) → appB C.n0 s t sz bytes (ev s.f b) m src K := by
      intro m src h
      generalize ev s.f b = q at h
      cases q <;> simp only [wappB] at h <;> simp only [appB]
      · exact h
      · rename_i id off len
        generalize s.H.getD id .dead = ob at h
        cases ob <;> simp only [wappO] at h <;> simp only [appO]
        exact h
    unfold wappP at h
    unfold appP
    generalize ev s.f x = q at h
    cases q <;> simp only [srcP] at h ⊢
    · exact key _ _ h
    · exact ⟨h.1, key _ _ h.2⟩
    · rename_i id off len
      generalize s.H.getD id .dead = ob at h
      cases ob <;> simp only [srcO] at h ⊢
      exact ⟨h.1, key _ _ h.2⟩
  case call g args => exact ⟨s, _, rfl, hg _, h⟩

variable {P : Program} {G : Glob} {φ : Phi} {bl : Nat → BL} {w : World}

/-- A block that is written once and told as a tree. -/
theorem inv_frz_new {H : List AObj} (hi : Inv G φ bl H w) {w' : World} {t : TypeId} {cs : List AV} {cur : Array Value} (hh : w'.heap = w.heap.push (.cells cur t (0, 0))) (ho : w'.os = w.os) (ht : w'.tape = w.tape) (hou : w'.output = w.output)
    (hle : cs.length ≤ cur.size) (hz : FrzL cs) (hr : RepL φ bl cs (cur.toList.take cs.length)) :
    ∃ φ', Inv G φ' bl H w' ∧ Fr φ bl w φ' bl w' ∧ RepRow φ' cs w.heap.size 0 := by
  have hold : ∀ b, b < w.heap.size → w'.heap[b]? = w.heap[b]? := fun b hb => by rw [hh, Array.getElem?_push, if_neg (by omega)]
  have hnew : w'.heap[w.heap.size]? = some (.cells cur t (0, 0)) := by rw [hh]; simp
  have hsz : w'.heap.size = w.heap.size + 1 := by rw [hh]; simp
  have hnone : ∀ o, φ w.heap.size o = none := fun o => by
    cases hq : φ w.heap.size o with
    | none => rfl
    | some u => exact absurd (phi_lt hi hq) (by omega)
  have hle' : φ.le (phiAt φ w.heap.size true cs.length cur) := fun b o u hu => by
    have : b ≠ w.heap.size := fun e => by rw [e, hnone] at hu; cases hu
    simp [phiAt, this, hu]
  have hoth : ∀ b, b < w.heap.size → phiAt φ w.heap.size true cs.length cur b = φ b := fun b hb => by
    have : b ≠ w.heap.size := by omega
    funext o; simp [phiAt, this]
  refine ⟨phiAt φ w.heap.size true cs.length cur, ⟨fun b hb => ?_, by rw [hsz]; have := hi.gsz; omega, hi.gow, fun b o u hu => ?_, fun id o hoo => ?_, hi.inj, hi.out⟩, ⟨ho, ht, hou, by omega, fun b hb _ => ⟨hold b hb, hoth b hb⟩, fun id b n es hb => .inr ⟨n, es, hb⟩, hle', BLle.refl _⟩, ?_⟩
  · rw [hold b (Nat.lt_of_lt_of_le hb hi.gsz)]; exact hi.glo b hb
  · by_cases e : b = w.heap.size
    · subst e
      simp only [phiAt, if_true, true_and] at hu
      split at hu
      · rename_i hlt
        rw [cell_of_row w' w.heap.size o cur t (0, 0) hnew]
        exact hu
      · cases hu
    · have hb : φ b o = some u := by simpa [phiAt, e] using hu
      rw [← hi.fr b o u hb]
      exact World.cell?_of_block (hold b (phi_lt hi hb))
  · exact (hi.obj id o hoo).mono hle' (BLle.refl _) rfl (fun b n es hb => ⟨hold b (inv_lt hi hb), hoth b (inv_lt hi hb)⟩)
  · refine RepRow.iff.2 fun i c hc => ?_
    have hil : i < cs.length := by
      rcases Nat.lt_or_ge i cs.length with h | h
      · exact h
      · rw [List.getElem?_eq_none h] at hc; cases hc
    obtain ⟨v, hv, hrv⟩ := hr.get hil
    have hcd : cs.getD i .junk = c := by simp [List.getD_eq_getElem?_getD, hc]
    rw [hcd] at hrv
    have hcur : cur[i]? = some v := by
      rw [List.getElem?_take] at hv
      simpa [hil] using hv
    refine ⟨v, by simp [phiAt, hil, hcur], ?_⟩
    refine Rep.mono hle' (BLle.refl _) c v (hrv.frz _ _ ?_)
    rw [FrzL.iff] at hz
    exact hz c (List.mem_of_getElem? hc)
end Go.Avm
/- What the abstract machine owes, the model keeps: whole functions. -/
set_option linter.unusedSimpArgs false
set_option linter.unusedVariables false
namespace Go.Avm
open Go
variable {P : Program} {G : Glob} {φ : Phi} {bl : Nat → BL} {w : World}

theorem put_rep {f : List AV} {a : Act} (hf : RepL φ bl f a.tmps.toList) {x : AV} {v : Value} (hx : Rep φ bl x v) (d : Option Nat) : RepL φ bl (put f d x) (a.put d v).tmps.toList := by
  cases d with
  | none => exact hf
  | some d =>
    simp only [put, Act.put, Array.toList_setIfInBounds]
    exact hf.set hx d

theorem put_defers (a : Act) (d : Option Nat) (v : Value) : (a.put d v).defers = a.defers := by cases d <;> rfl

theorem undef_rep : Rep φ bl (.tup []) undef := by simp [Rep, RepL, undef]

theorem guard_rep {f : List AV} {a : Act} (hf : RepL φ bl f a.tmps.toList) {ops : Array Oper} {j t : Nat} (ht : (ops[j]?).bind (·.dst) = some t) {b : Bool} {A B : Prop} (h : wantB b (f.getD t .junk) A B) :
    (yielded ops a.tmps j = some b ∧ A) ∨ ((yielded ops a.tmps j == some b) = false ∧ B) := by
  by_cases hl : t < f.length
  · obtain ⟨v, hv, hr⟩ := hf.get hl
    have hv' : a.tmps[t]? = some v := by simpa using hv
    generalize f.getD t .junk = x at h hr
    cases x <;> simp only [wantB] at h
    case bool tb =>
      simp only [Rep] at hr
      subst hr
      have hy : yielded ops a.tmps j = some tb := by simp [yielded, ht, hv']
      obtain ⟨h1, h2⟩ := h
      rw [hy]
      by_cases e : tb = b
      · subst e; exact .inl ⟨rfl, h1 (by simp)⟩
      · refine .inr ⟨by simp [e], h2 (by simp [e])⟩
    case tup vs =>
      cases vs with
      | nil =>
        simp only at h
        simp only [Rep, RepL] at hr
        obtain ⟨us, rfl, rfl⟩ := hr
        have hy : yielded ops a.tmps j = none := by simp [yielded, ht, hv']
        rw [hy]
        exact .inr ⟨rfl, h⟩
      | cons c cs => simp at h
  · rw [show f.getD t .junk = .junk from by simp [List.getD_eq_getElem?_getD, List.getElem?_eq_none (Nat.le_of_not_lt hl)]] at h
    simp only [wantB] at h

theorem aops_sound {C : Ctx} (hS : Sound P G C) {ops : Array Oper} {Kn : St → Prop} {Q : Exit → Act → World → Prop} {φ0 : Phi} {bl0 : Nat → BL} {w0 : World} (hn : ∀ j, C.n0 ≤ j → bl0 j = .unused)
    (hK : ∀ s φ bl a w, Kn s → Rel G φ bl s a w → Fr φ0 bl0 w0 φ bl w → Q .normal a w) :
    ∀ (l : List Oper) (os : List IStep), l.mapM (lowOper P ops) = some os → ∀ (s : St) (φ : Phi) (bl : Nat → BL) (a : Act) (w : World), aops C Kn os s → Rel G φ bl s a w → Fr φ0 bl0 w0 φ bl w → wpList P ops Q l a w
  | [], os, hl, s, φ, bl, a, w, h, hr, hfr => by
    simp at hl
    subst hl
    exact hK s φ bl a w h hr hfr
  | o :: l, os, hl, s, φ, bl, a, w, h, hr, hfr => by
    simp only [List.mapM_cons] at hl
    cases ho : lowOper P ops o with
    | none => simp [ho] at hl
    | some io =>
      cases hrest : l.mapM (lowOper P ops) with
      | none => simp [ho, hrest] at hl
      | some os' =>
        simp [ho, hrest] at hl
        subst hl
        unfold lowOper at ho
        obtain ⟨op, h1, ho⟩ := bind_some' ho
        have run : aop C op s (fun x s' => aops C Kn os' ⟨put s'.f o.dst x, s'.H⟩) → o.wp P a w (wpList P ops Q l) Q := by
          intro hop
          refine aop_sound hS h1 hr.inv hr.f hop ?_
          intro x s' φ' bl' v w' hk hf' hi' hadv hx
          exact aops_sound hS hn hK l os' hrest ⟨put s'.f o.dst x, s'.H⟩ φ' bl' (a.put o.dst v) w' hk ⟨put_rep hf' hx o.dst, (put_defers a o.dst v).trans hr.d, hi'⟩ (hadv φ0 bl0 w0 hn hfr)
        cases hg : o.guard with
        | none =>
          rw [hg] at ho
          injection ho with ho
          subst ho
          simp only [aops] at h
          unfold wpList
          rw [if_pos (by simp [Region.wanted, hg])]
          exact .inl (run h)
        | some gb =>
          obtain ⟨j, b⟩ := gb
          rw [hg] at ho
          obtain ⟨t, ht, ho⟩ := bind_some' ho
          injection ho with ho
          subst ho
          simp only [aops] at h
          unfold wpList
          rcases guard_rep hr.f ht h with ⟨hy, h⟩ | ⟨hy, h⟩
          · rw [if_pos (by simp [Region.wanted, hg, hy])]
            exact .inl (run h)
          · rw [if_neg (by simp only [Region.wanted, hg]; rw [hy]; simp)]
            exact aops_sound hS hn hK l os' hrest ⟨put s.f o.dst (.tup []), s.H⟩ φ bl (a.put o.dst undef) w h ⟨put_rep hr.f undef_rep o.dst, (put_defers a o.dst undef).trans hr.d, hr.inv⟩ hfr

/-! ### Regions whose order is drawn -/
theorem Sound.reg {C : Ctx} (hS : Sound P G C) : Reg C := ⟨hS.mono, hS.pcf⟩

theorem fop_aop {C : Ctx} (hS : Sound P G C) {o : IOp} {s : St} {Φ : AV → Prop} (h : fop C o s.f Φ) (h2 : ∀ t sz len zero parts, o ≠ .bslice t sz len zero parts) : aop C o s fun x s' => s' = s ∧ Φ x := by
  by_cases hc : ∃ g args, o = .call g args
  · obtain ⟨g, args, rfl⟩ := hc
    simp only [fop] at h
    obtain ⟨hz, v, hv, hp⟩ := h
    simp only [aop]
    exact ⟨s, _, rfl, hS.ghr _, hS.mono _ _ _ _ _ (fun x H' ⟨e1, e2⟩ => by subst e1 e2; exact ⟨rfl, hp⟩) (hS.pc _ _ _ hv hz s.H)⟩
  · by_cases hv : ∃ g args, o = .callv g args
    · obtain ⟨g, args, rfl⟩ := hv
      simp only [fop] at h
      simp only [aop]
      generalize ev s.f g = q at h
      cases q <;> simp only [fcallvP] at h
      rename_i g' cap
      obtain ⟨⟨he, hz, hzc⟩, v, hv, hp⟩ := h
      exact ⟨he, s, _, rfl, hS.ghr _, hS.mono _ _ _ _ _ (fun x H' ⟨e1, e2⟩ => by subst e1 e2; exact ⟨rfl, hp⟩) (hS.pc _ _ _ hv (frzL_append.2 ⟨hz, hzc⟩) s.H)⟩
    have h3 := fop_rop h (fun g args e => hc ⟨g, args, e⟩) h2 (fun g args e => hv ⟨g, args, e⟩) s.H
    refine rop_aop ?_
    have : (fun x => s = s ∧ Φ x) = Φ := by funext x; simp
    show rop o s.f s.H (fun x => s = s ∧ Φ x)
    rw [this]
    exact h3

theorem bslice_run {t : TypeId} {len : Nat} {parts : Array (Nat × Operand)} {e sz : TypeId} {z : List AV} {ps : List (Nat × Nat × IA)} {H : List AObj} {f : List AV} {a : Act} (hi : Inv G φ bl H w) (hf : RepL φ bl f a.tmps.toList)
    (h1 : sliceT P t = some e) (h2 : szOf P e = some sz) (h3 : zeroOf P e = some z) (h4 : (z.length == sz && decide (len * sz ≤ 16777216) && decide (len ≤ 16777216)) = true) (h5 : lowParts (fun i => some (i * sz, sz)) parts = some ps)
    (hok : fillOk H (len * sz) (evP f ps)) : ∃ cells' : Array Value, (Instr.buildSlice t len (parts.map fun p => (p.1, a.eval p.2))).run P w = .ok (.slice (some ⟨w.heap.size, 0, none⟩) len len) (w.alloc (.cells cells' e)) ∧
      RepL φ bl (fillP (reps len z) (evP f ps)) cells'.toList ∧ len ≤ maxLen := by
  simp only [Bool.and_eq_true, beq_iff_eq, decide_eq_true_eq] at h4
  obtain ⟨⟨h6, h7⟩, h8⟩ := h4
  obtain ⟨zv, hzrun, ⟨i, hie, hiz⟩, hzr⟩ := zero_rep h3
  have hm := made_rep (hzr φ bl) len len (Nat.le_refl _)
  rw [h6] at hm
  have hml : (madeCells zv.cells (len * sz)).toList.take (len * sz) = (madeCells zv.cells (len * sz)).toList := List.take_of_length_le (by simp [madeCells])
  rw [hml] at hm
  obtain ⟨cells', g1, g2, g3⟩ := fill_rep hi hf (fun i => some (i * sz, sz)) parts.toList ps h5 (madeCells zv.cells (len * sz)) (reps len z) hm (by rw [reps_length, h6]; exact hok)
  refine ⟨cells', ?_, g3, by unfold maxLen; omega⟩
  have hfill : Instr.fill (fun i => some (i * sz, sz)) (madeCells zv.cells (len * sz)) (parts.map fun p => (p.1, a.eval p.2)).toList = some cells' := by
    rw [Array.toList_map]; exact g1
  unfold Instr.buildSlice
  simp only [Sem.run_bind, run_underlying (sliceT_some h1), Result.andThen_ok, run_szOf h2]
  rw [if_neg (by omega)]
  by_cases h0 : len * sz = 0
  · have hmk : madeCells zv.cells (len * sz) = #[] := by rw [h0]; simp [madeCells, Array.range_zero']
    have g1' := g1
    rw [hmk] at g1'
    simp [h0, newRow, Array.range_zero', g1']
  · have hmk : (Array.range (len * sz)).map (zv.cells[· % zv.cells.size]!) = madeCells zv.cells (len * sz) := rfl
    simp only [h0, if_false, Sem.run_bind, hzrun, Result.andThen_ok, Sem.run_pure, hmk, hfill]
    simp [newRow]

theorem low_bs {op : Op} {t sz len : Nat} {z : List AV} {ps : List (Nat × Nat × IA)} (h : lowOp P op = some (.bslice t sz len z ps)) : ∃ t l ps, op = .buildSlice t l ps := by
  cases op <;> simp only [lowOp] at h <;> try (cases h; done)
  case buildSlice t l ps => exact ⟨_, _, _, rfl⟩
  case binOp op t x y yt =>
    unfold lowBin at h
    cases op <;> simp only [lowEq] at h <;> (repeat' split at h) <;> (try (simp [Option.bind_eq_some_iff] at h; done))
  case unOp u t x => unfold lowUn at h; cases u <;> simp [Option.bind_eq_some_iff] at h
  case convert s d x => unfold lowConv at h; simp only [Option.bind_eq_bind, Option.bind_eq_some_iff] at h; obtain ⟨x', _, h⟩ := h; split at h <;> simp [Option.bind_eq_some_iff] at h
  case fieldAddr s x i => unfold lowFld at h; simp [Option.bind_eq_some_iff] at h
  case indexAddr s x i => unfold lowIdx at h; simp only [Option.bind_eq_bind, Option.bind_eq_some_iff] at h; obtain ⟨x', _, y', _, h⟩ := h; split at h <;> simp [Option.bind_eq_some_iff] at h
  case load s x => unfold lowLoad at h; simp only [Option.bind_eq_bind, Option.bind_eq_some_iff] at h; obtain ⟨x', _, y', _, h⟩ := h; split at h <;> simp [Option.bind_eq_some_iff] at h
  case slice s x lo hi mx => unfold lowSlice at h; simp only [Option.bind_eq_bind, Option.bind_eq_some_iff] at h; obtain ⟨x', _, y', _, z', _, q', _, h⟩ := h; split at h <;> simp [Option.bind_eq_some_iff] at h
  case build s ps => unfold lowBuild at h; simp [Option.bind_eq_some_iff] at h
  case makeSlice s l c => unfold lowMake at h; simp [Option.bind_eq_some_iff] at h
  case makeMap s r => unfold lowMkmap at h; simp [Option.bind_eq_some_iff] at h
  case lookup s x k c => unfold lowLkup at h; simp [Option.bind_eq_some_iff] at h
  case mapUpdate s x k c => unfold lowMapup at h; simp [Option.bind_eq_some_iff] at h
  case makeFunc fn a b => unfold lowFn at h; cases fn <;> simp [Option.bind_eq_some_iff] at h
  case call c =>
    unfold lowCall at h
    split at h
    · rename_i b _
      unfold lowBuiltin at h
      cases b <;> simp only at h <;> try (cases h; done)
      · unfold lowApp at h; simp [Option.bind_eq_some_iff] at h
      · unfold lowLen at h; simp only [Option.bind_eq_bind, Option.bind_eq_some_iff] at h; obtain ⟨x', _, y', _, z', _, q', _, h⟩ := h; split at h <;> simp [Option.bind_eq_some_iff] at h
      · simp [Option.bind_eq_some_iff] at h
      · simp [Option.bind_eq_some_iff] at h
    · unfold lowCallee at h
      split at h <;> simp [Option.bind_eq_some_iff] at h
    · cases h
  all_goals (simp [Option.bind_eq_some_iff] at h)

set_option maxHeartbeats 2000000 in
theorem fop_sound {C : Ctx} (hS : Sound P G C) {o : Oper} {io : IOp} (hl : lowOp P o.op = some io) {s : St} {Φ : AV → Prop} {a : Act} {next : Act → World → Prop} {Q : Exit → Act → World → Prop}
    (hi : Inv G φ bl s.H w) (hf : RepL φ bl s.f a.tmps.toList) (h : fop C io s.f Φ) (k : Then G C.n0 φ bl w (fun x s' => s' = s ∧ Φ x) a o next) : o.wp P a w next Q := by
  by_cases hb : ∃ t sz len zero parts, io = .bslice t sz len zero parts
  · obtain ⟨t0, sz0, len0, zero0, ps0, rfl⟩ := hb
    obtain ⟨t, len, parts, hop⟩ := low_bs hl
    rw [hop] at hl
    simp only [lowOp, lowBslice] at hl
    obtain ⟨e, h1, hl⟩ := bind_some' hl
    obtain ⟨sz, h2, hl⟩ := bind_some' hl
    obtain ⟨z, h3, hl⟩ := bind_some' hl
    obtain ⟨h4, hl⟩ := ok_true hl
    obtain ⟨ps, h5, hl⟩ := bind_some' hl
    injection hl with hl
    injection hl with l1 l2 l3 l4 l5
    subst l1 l2 l3 l4 l5
    simp only [fop] at h
    obtain ⟨⟨z1, z2⟩, hok, hK⟩ := h
    obtain ⟨cells', hrun, g3, hmax⟩ := bslice_run hi hf h1 h2 h3 h4 h5 (fillOk_ext (Ext.nil s.H) hok)
    have hlen := g3.length
    obtain ⟨φ', k1, k2, k3⟩ := inv_frz_new (t := e) (cs := fillP (reps len z) (evP s.f ps)) (cur := cells') hi (w' := w.alloc (.cells cells' e)) rfl rfl rfl rfl (by rw [hlen]; simp) (frz_fill (frz_reps z1 _) z2) (by rw [hlen, List.take_length]; exact g3)
    have hrep : Rep φ' bl (.sl len (fillP (reps len z) (evP s.f ps))) (.slice (some ⟨w.heap.size, 0, none⟩) len len) := by
      simp only [Rep]
      exact .inr ⟨w.heap.size, 0, len, rfl, Nat.le_refl _, hmax, k3⟩
    have hnext := k _ s φ' bl _ (w.alloc (.cells cells' e)) ⟨rfl, hK⟩ (RepL.mono k2.phi (BLle.refl _) _ _ hf) k1 (k2.adv _) hrep
    exact upon_val (m := Instr.buildSlice t len (parts.map fun p => (p.1, a.eval p.2))) (by simp only [execOp, hop]) hrun hnext
  · exact aop_sound hS hl hi hf (fop_aop hS h (fun t sz len zero parts e => hb ⟨t, sz, len, zero, parts, e⟩)) k

theorem dst1_sound {C : Ctx} (hS : Sound P G C) {ops : Array Oper} {Q : Exit → Act → World → Prop} {φ0 : Phi} {bl0 : Nat → BL} {w0 : World} (hn : ∀ j, C.n0 ≤ j → bl0 j = .unused) {i : Nat} {o : Oper} (hio : ops[i]? = some o) {io : IStep} (hl : lowOper P ops o = some io)
    {c : Nat} {s : St} {K : St → Prop} {a : Act} {next : Act → World → Prop} (h : dst1 C c io s K) (hr : Rel G φ bl s a w) (hfr : Fr φ0 bl0 w0 φ bl w) (k : ∀ s φ bl a w, K s → Rel G φ bl s a w → Fr φ0 bl0 w0 φ bl w → next a w) : wpOp P ops Q i next a w := by
  unfold lowOper at hl
  obtain ⟨op, h1, hl⟩ := bind_some' hl
  have run : ex1 C c op s.f s.H (fun x k H => K ⟨put (killF k s.f) o.dst x, H⟩) → o.wp P a w next Q := by
    intro hx
    have fin : ∀ (x : AV) (s' : St) (φ' : Phi) (bl' : Nat → BL) (v : Value) (w' : World), K ⟨put s'.f o.dst x, s'.H⟩ → RepL φ' bl' s'.f a.tmps.toList → Inv G φ' bl' s'.H w' → Adv C.n0 φ bl w φ' bl' w' → Rep φ' bl' x v → next (a.put o.dst v) w' := by
      intro x s' φ' bl' v w' hk hf' hi' hadv hx
      exact k ⟨put s'.f o.dst x, s'.H⟩ φ' bl' _ _ hk ⟨put_rep hf' hx o.dst, (put_defers a o.dst v).trans hr.d, hi'⟩ (hadv φ0 bl0 w0 hn hfr)
    match c with
    | 0 =>
      rw [ex1_0] at hx
      refine fop_sound hS h1 hr.inv hr.f hx ?_
      rintro x s' φ' bl' v w' ⟨rfl, hk⟩ hf' hi' hadv hxr
      exact fin x s' φ' bl' v w' hk hf' hi' hadv hxr
    | 1 =>
      rw [ex1_1] at hx
      exact aop_sound hS h1 hr.inv hr.f (K := fun x s' => K ⟨put s'.f o.dst x, s'.H⟩) (rop_aop hx) (fun x s' φ' bl' v w' hk hf' hi' hadv hxr => fin x s' φ' bl' v w' hk hf' hi' hadv hxr)
    | c + 2 =>
      exact aop_sound hS h1 hr.inv hr.f (K := fun x s' => K ⟨put s'.f o.dst x, s'.H⟩) (wop_aop hS.ghr hx) (fun x s' φ' bl' v w' hk hf' hi' hadv hxr => fin x s' φ' bl' v w' hk hf' hi' hadv hxr)
  unfold wpOp
  simp only [hio]
  cases hg : o.guard with
  | none =>
    rw [hg] at hl
    injection hl with hl
    subst hl
    simp only [dst1] at h
    rw [if_pos (by simp [Region.wanted, hg])]
    exact .inl (run h)
  | some gb =>
    obtain ⟨j, b⟩ := gb
    rw [hg] at hl
    obtain ⟨t, ht, hl⟩ := bind_some' hl
    injection hl with hl
    subst hl
    simp only [dst1] at h
    rcases guard_rep hr.f ht h with ⟨hy, h⟩ | ⟨hy, h⟩
    · rw [if_pos (by simp [Region.wanted, hg, hy])]
      exact .inl (run h)
    · rw [if_neg (by simp only [Region.wanted, hg]; rw [hy]; simp)]
      exact k ⟨put s.f o.dst (.tup []), s.H⟩ φ bl _ _ h ⟨put_rep hr.f undef_rep o.dst, (put_defers a o.dst undef).trans hr.d, hr.inv⟩ hfr

theorem mapM_get {α β : Type} {f : α → Option β} : ∀ {l : List α} {m : List β}, l.mapM f = some m → ∀ (i : Nat) a, l[i]? = some a → ∃ b, m[i]? = some b ∧ f a = some b
  | [], _, _, i, a, hi => by simp at hi
  | x :: l, m, h, i, a, hi => by
    simp only [List.mapM_cons] at h
    cases hx : f x with
    | none => simp [hx] at h
    | some y =>
      cases hl : l.mapM f with
      | none => simp [hx, hl] at h
      | some ys =>
        simp [hx, hl] at h
        subst h
        cases i with
        | zero => simp at hi; subst hi; exact ⟨y, rfl, hx⟩
        | succ i => exact mapM_get hl i a (by simpa using hi)

theorem mapM_length {α β : Type} {f : α → Option β} : ∀ {l : List α} {m : List β}, l.mapM f = some m → m.length = l.length
  | [], _, h => by simp at h; subst h; rfl
  | x :: l, m, h => by
    simp only [List.mapM_cons] at h
    cases hx : f x with
    | none => simp [hx] at h
    | some y =>
      cases hl : l.mapM f with
      | none => simp [hx, hl] at h
      | some ys =>
        simp [hx, hl] at h
        subst h
        simp [mapM_length hl]

theorem dany_sound {C : Ctx} (hS : Sound P G C) {ops : Array Oper} {os : List IStep} (hos : ops.toList.mapM (lowOper P ops) = some os) {cl : List Nat} {K : St → Prop} {Q : Exit → Act → World → Prop} {φ0 : Phi} {bl0 : Nat → BL} {w0 : World} (hn : ∀ j, C.n0 ≤ j → bl0 j = .unused)
    (hK : ∀ s φ bl a w, K s → Rel G φ bl s a w → Fr φ0 bl0 w0 φ bl w → Q .normal a w) :
    ∀ (n : Nat) (L : Array Bool) (s : St) (φ : Phi) (bl : Nat → BL) (a : Act) (w : World), dany C K os cl ops n L s → Rel G φ bl s a w → Fr φ0 bl0 w0 φ bl w → wpAny P .any ops Q n L a w
  | 0, L, s, φ, bl, a, w, h, hr, hfr => ⟨h.1, hK s φ bl a w h.2 hr hfr⟩
  | n + 1, L, s, φ, bl, a, w, h, hr, hfr => by
    refine ⟨fun e => hK s φ bl a w (h.1 e) hr hfr, fun i hi => ?_⟩
    have hlt := ready_lt hi
    have hio := Array.getElem?_eq_getElem hlt
    obtain ⟨io, h1, h2⟩ := mapM_get hos i _ (by rw [Array.getElem?_toList]; exact hio)
    have h3 := h.2 i hi
    have h4 : os.getD i default = io := by rw [List.getD_eq_getElem?_getD, h1]; rfl
    rw [h4] at h3
    exact dst1_sound hS hn hio h2 h3 hr hfr fun s φ bl a w hk hr hfr => dany_sound hS hos hn hK n _ s φ bl a w hk hr hfr

theorem ancs_some {β : Type} : ∀ {es acc : List (List Nat)} {k : List (List Nat) → Option β} {y : β}, ancs es acc k = some y → ∃ an, k an = some y
  | [], acc, k, y, h => ⟨acc, h⟩
  | e :: es, acc, k, y, h => by
    simp only [ancs, frcL_eq] at h
    exact ancs_some h

theorem draw_sound {C : Ctx} (hS : Sound P G C) {id : Nat} {ops : Array Oper} {os : List IStep} (hos : ops.toList.mapM (lowOper P ops) = some os) {ic : IC} {ks : List Nat} (hic : drawIC (edgesOf ops) ks os = some ic) {K : Ex → St → Prop} {Q : Exit → Act → World → Prop} {φ0 : Phi} {bl0 : Nat → BL} {w0 : World} (hn : ∀ j, C.n0 ≤ j → bl0 j = .unused)
    (hK : ∀ s φ bl a w, K .normal s → Rel G φ bl s a w → Fr φ0 bl0 w0 φ bl w → Q .normal a w) {s : St} {a : Act} (h : awp C ic K s) (hr : Rel G φ bl s a w) (hfr : Fr φ0 bl0 w0 φ bl w) : (Code.region id ops true).wp P Q a w := by
  unfold drawIC at hic
  rw [frcLL_eq, frcL_eq] at hic
  obtain ⟨an, hic⟩ := ancs_some hic
  rw [frcL_eq, frcI_eq, frcL_eq] at hic
  generalize hcl : classes an ks = cl at hic
  generalize hod : canon (edgesOf ops) cl (List.range os.length) os.length [] = od at hic
  have h1 : chkDraw (edgesOf ops) an ((List.range os.length).map (infOf os cl)) os.length od = true := by
    cases hb : chkDraw (edgesOf ops) an ((List.range os.length).map (infOf os cl)) os.length od with
    | true => rfl
    | false => rw [hb] at hic; cases hic
  rw [h1] at hic
  injection hic with hic
  subst hic
  simp only [chkDraw, Bool.and_eq_true] at h1
  obtain ⟨⟨⟨c1, c3⟩, c5⟩, c6⟩ := h1
  have c1 := Nat.eq_of_beq_eq_true c1
  have c3 := Nat.eq_of_beq_eq_true c3
  have hlen := mapM_length hos
  simp only [Array.length_toList] at hlen
  refine wp_region_any hS.fol ?_
  have hr' : Rel G φ bl s a { w with drawn := w.drawn + 1 } := ⟨hr.f, hr.d, ⟨hr.inv.glo, hr.inv.gsz, hr.inv.gow, hr.inv.fr, fun id o ho => ObjOK.mono (Phi.le_refl _) (BLle.refl _) rfl (fun _ _ _ _ => ⟨rfl, rfl⟩) (hr.inv.obj id o ho), hr.inv.inj, hr.inv.out⟩⟩
  have hfr' : Fr φ0 bl0 w0 φ bl { w with drawn := w.drawn + 1 } := ⟨hfr.os, hfr.tape, hfr.output, hfr.size, hfr.old, hfr.own, hfr.phi, hfr.ids⟩
  refine dany_sound hS hos (cl := cl) hn hK _ _ s φ bl a _ ?_ hr' hfr'
  simp only [awp] at h
  have hsz : ∀ j, j < ops.size → (Array.replicate ops.size false).getD j true = false := fun j hj => by simp [hj]
  have := dany_told (K := K .normal) (ops := ops) hS.reg c1 c5 _ [] (Array.replicate ops.size false) s ⟨by simp, fun j hj => by rw [hsz j hj]; simp⟩
    ⟨by simp, fun j o ho hj => by
      rw [hsz j (Array.getElem?_eq_some_iff.1 ho).1] at hj; cases hj⟩ (by simpa using c3) (by simp) (by simp) c6 h
  rw [c3, hlen] at this
  exact this

/-- What stands behind a piece of code. -/
def QE (G : Glob) (φ0 : Phi) (bl0 : Nat → BL) (w0 : World) (K : Ex → St → Prop) : Exit → Act → World → Prop
  | .normal, a, w => ∃ s φ bl, K .normal s ∧ Rel G φ bl s a w ∧ Fr φ0 bl0 w0 φ bl w
  | .exit i, a, w => ∃ s φ bl, K (.exit i) s ∧ Rel G φ bl s a w ∧ Fr φ0 bl0 w0 φ bl w
  | .ret, a, w => ∃ s φ bl, K .ret s ∧ Rel G φ bl s a w ∧ Fr φ0 bl0 w0 φ bl w
  | _, _, _ => False

theorem cond_rep {x : AV} {v : Value} {A B : Prop} (hx : Rep φ bl x v) (h : condP x A B) : ∃ t, v = .bool t ∧ (t = true → A) ∧ (t = false → B) := by
  cases x <;> simp only [condP] at h
  simp only [Rep] at hx
  exact ⟨_, hx, h.1, h.2⟩

theorem gh_rel {n0 : Nat} {s s' : St} (h : Gh G n0 s s') {a : Act} {φ0 : Phi} {bl0 : Nat → BL} {w0 : World} (hn : ∀ j, n0 ≤ j → bl0 j = .unused) (hr : Rel G φ bl s a w) (hf : Fr φ0 bl0 w0 φ bl w) :
    ∃ φ' bl', Rel G φ' bl' s' a w ∧ Fr φ0 bl0 w0 φ' bl' w := by
  obtain ⟨φ', bl', h1, h2, h3⟩ := h φ bl a.tmps.toList w hr.inv hr.f
  exact ⟨φ', bl', ⟨h2, hr.d, h1⟩, h3 φ0 bl0 w0 hn hf⟩

theorem awp_sound {C : Ctx} (hS : Sound P G C) {φ0 : Phi} {bl0 : Nat → BL} {w0 : World} (hn : ∀ j, C.n0 ≤ j → bl0 j = .unused) :
    ∀ (c : Code) (ic : IC), lower P c = some ic → ∀ (K : Ex → St → Prop) (s : St) (φ : Phi) (bl : Nat → BL) (a : Act) (w : World), awp C ic K s → Rel G φ bl s a w → Fr φ0 bl0 w0 φ bl w → c.wp P (QE G φ0 bl0 w0 K) a w := by
  intro c
  induction c with
  | skip =>
    intro ic hl K s φ bl a w h hr hf
    simp only [lower] at hl
    injection hl with hl; subst hl
    exact wp_skip ⟨s, φ, bl, h, hr, hf⟩
  | region id ops draw =>
    intro ic hl K s φ bl a w h hr hf
    simp only [lower] at hl
    obtain ⟨os, h1, hl⟩ := bind_some' hl
    cases draw with
    | true => 
      simp only [if_true] at hl
      exact draw_sound hS h1 hl hn (fun s φ bl a w hk hr hf => ⟨s, φ, bl, hk, hr, hf⟩) h hr hf
    | false =>
      simp only [Bool.false_eq_true, if_false] at hl
      injection hl with hl; subst hl
      exact wp_region_list (aops_sound hS hn (fun s φ bl a w hk hr hf => ⟨s, φ, bl, hk, hr, hf⟩) ops.toList os h1 s φ bl a w h hr hf)
  | seq x y ihx ihy =>
    intro ic hl K s φ bl a w h hr hf
    simp only [lower] at hl
    obtain ⟨x', h1, hl⟩ := bind_some' hl
    obtain ⟨y', h2, hl⟩ := bind_some' hl
    injection hl with hl; subst hl
    refine wp_seq (wp_mono (ihx x' h1 _ s φ bl a w h hr hf) ?_)
    rintro e a' w' hq
    cases e with
    | normal =>
      obtain ⟨s', φ', bl', hk, hr', hf'⟩ := hq
      exact ihy y' h2 K s' φ' bl' a' w' hk hr' hf'
    | exit i => exact hq
    | ret => exact hq
    | goto l => exact hq.elim
    | panic ch => exact hq.elim
    | outgrown => exact hq.elim
  | cond c x y ihx ihy =>
    intro ic hl K s φ bl a w h hr hf
    simp only [lower] at hl
    obtain ⟨c', h0, hl⟩ := bind_some' hl
    obtain ⟨x', h1, hl⟩ := bind_some' hl
    obtain ⟨y', h2, hl⟩ := bind_some' hl
    injection hl with hl; subst hl
    obtain ⟨t, ht, hA, hB⟩ := cond_rep (lowA_rep hr.f h0) h
    exact wp_cond_split ht (fun e => ihx x' h1 K s φ bl a w (hA e) hr hf) (fun e => ihy y' h2 K s φ bl a w (hB e) hr hf)
  | block id b ih =>
    intro ic hl K s φ bl a w h hr hf
    simp only [lower] at hl
    obtain ⟨b', h1, hl⟩ := bind_some' hl
    injection hl with hl; subst hl
    refine wp_block (wp_mono (ih b' h1 _ s φ bl a w h hr hf) ?_)
    rintro e a' w' hq
    cases e with
    | normal => exact hq
    | exit i =>
      obtain ⟨s', φ', bl', hk, hr', hf'⟩ := hq
      simp only [exBlock] at hk
      simp only [Exit.inBlock]
      by_cases e : i = id
      · rw [if_pos e] at hk ⊢
        exact ⟨s', φ', bl', hk, hr', hf'⟩
      · rw [if_neg e] at hk ⊢
        exact ⟨s', φ', bl', hk, hr', hf'⟩
    | ret => exact hq
    | goto l => exact hq.elim
    | panic ch => exact hq.elim
    | outgrown => exact hq.elim
  | loop b ih =>
    intro ic hl K s φ bl a w h hr hf
    simp only [lower] at hl
    obtain ⟨b', h1, hl⟩ := bind_some' hl
    injection hl with hl; subst hl
    obtain ⟨I, n, s0, hg, hI, hround⟩ := h
    obtain ⟨φ', bl', hr', hf'⟩ := gh_rel (hS.gh _ _ hg) hn hr hf
    refine wp_loop_ghost (fun n a w => ∃ s φ bl, I n s ∧ Rel G φ bl s a w ∧ Fr φ0 bl0 w0 φ bl w) n ⟨s0, φ', bl', hI, hr', hf'⟩ ?_
    rintro n a w ⟨s, φ, bl, hI, hr, hf⟩
    refine wp_mono (ih b' h1 _ s φ bl a w (hround n s hI) hr hf) ?_
    rintro e a' w' hq
    cases e with
    | normal =>
      obtain ⟨s', φ', bl', hk, hr', hf'⟩ := hq
      obtain ⟨s1, m, hg, hm, hI'⟩ := hk
      obtain ⟨φ1, bl1, hr1, hf1⟩ := gh_rel (hS.gh _ _ hg) hn hr' hf'
      exact ⟨m, hm, s1, φ1, bl1, hI', hr1, hf1⟩
    | exit i => exact hq
    | ret => exact hq
    | goto l => exact hq.elim
    | panic ch => exact hq.elim
    | outgrown => exact hq.elim
  | exit i =>
    intro ic hl K s φ bl a w h hr hf
    simp only [lower] at hl
    injection hl with hl; subst hl
    exact wp_exit ⟨s, φ, bl, h, hr, hf⟩
  | ret =>
    intro ic hl K s φ bl a w h hr hf
    simp only [lower] at hl
    injection hl with hl; subst hl
    exact wp_ret ⟨s, φ, bl, h, hr, hf⟩
  | rangeFunc => intro ic hl; simp [lower] at hl
  | scope => intro ic hl; simp [lower] at hl
  | label => intro ic hl; simp [lower] at hl
  | goto => intro ic hl; simp [lower] at hl
  | refuse => intro ic hl; simp [lower] at hl

end Go.Avm
/- Contracts: out of a walk; used in another; what may be told otherwise. -/
set_option linter.unusedSimpArgs false
set_option linter.unusedVariables false
namespace Go.Avm
open Go
variable {P : Program} {G : Glob} {φ : Phi} {bl : Nat → BL} {w : World}

/-! ### Functions that only compute -/
def PC (P : Program) (G : Glob) (f : FuncId) (args : List AV) (R : AV → Prop) : Prop := AC P G f args [] fun x _ => Frz x ∧ R x

theorem PC.at_ {f : FuncId} {args : List AV} {R : AV → Prop} (h : PC P G f args R) (hz : FrzL args) (H : List AObj) : AC P G f args H fun x H' => H' = H ∧ Frz x ∧ R x := by
  intro φ bl w vs hi hr
  have hi0 : Inv G φ nob [] w := ⟨hi.glo, hi.gsz, fun _ _ _ _ h => (by cases h), hi.fr, fun _ _ h => (by simp at h), fun _ _ _ _ _ _ _ h => (by cases h), fun _ _ => rfl⟩
  refine (h φ nob w vs hi0 (RepL.frz _ _ hz hr)).mono ?_
  rintro e w' ⟨v, φ', bl1, x, H1, rfl, ⟨hfz, hR⟩, hi1, hx, hfr⟩
  have hold : ∀ b, b < w.heap.size → w'.heap[b]? = w.heap[b]? ∧ φ' b = φ b := fun b hb => hfr.old b hb (fun _ _ _ h => (by cases h))
  refine ⟨v, φ', bl, x, H, rfl, ⟨rfl, hfz, hR⟩, ⟨hi1.glo, hi1.gsz, hi.gow, hi1.fr, fun id o ho => ?_, hi.inj, hi.out⟩, (Rep.frz _ _ hfz hx).up, ⟨hfr.os, hfr.tape, hfr.output, hfr.size, fun b hb _ => hold b hb, fun id b n es hb => .inr ⟨n, es, hb⟩, hfr.phi, BLle.refl _⟩⟩
  exact (hi.obj id o ho).mono hfr.phi (BLle.refl _) rfl (fun b n es hb => hold b (inv_lt hi hb))

theorem PC.mono {f : FuncId} {args : List AV} {R R' : AV → Prop} (h : PC P G f args R) (k : ∀ x, R x → R' x) : PC P G f args R' := AC.mono h fun x _ ⟨h1, h2⟩ => ⟨h1, k x h2⟩

/-- It returns just this. -/
def PE (P : Program) (G : Glob) (f : FuncId) (args : List AV) (v : AV) : Prop := Frz v ∧ PC P G f args fun x => x = v

def ctx (P : Program) (G : Glob) (n0 : Nat) : Ctx := { call := AC P G, n0 := n0, ent := Ent P, gh := Gh G n0, pc := PE P G }
theorem ctx_sound (P : Program) (G : Glob) (n0 : Nat) (hm : P.follows .mixedOrders = true) : Sound P G (ctx P G n0) :=
  ⟨fun _ _ _ _ h => h, fun _ h => h, fun _ _ h => h, fun s => Gh.refl G n0 s, fun _ _ _ _ _ k h => AC.mono h k, fun _ _ _ h => h.1, fun _ _ _ h hz H => AC.mono (h.2.at_ hz H) fun _ _ ⟨e, _, e2⟩ => ⟨e, e2⟩, hm⟩

def lowRes (P : Program) (r : ResultVar) : Option IR := match r with
  | .tmp t => some (.t t)
  | .cell a t => do
    let b ← isAggT P t
    if b = true then do
      let sz ← szOf P t
      pure (.c a (some sz))
    else pure (.c a none)

structure IF where
  body : IC
  res : List IR
  n : Nat

def lowF (P : Program) (f : FuncId) : Option IF := do
  let fn ← P.funcs[f]?
  let c ← fn.body
  let ic ← lower P c
  let rs ← fn.results.toList.mapM (lowRes P)
  pure ⟨ic, rs, fn.ntmps⟩

def initF (args : List AV) (n : Nat) : List AV := args ++ List.replicate (n - args.length) (.tup [])

def resOne (tmps : Array Value) : ResultVar → Sem Value
  | .tmp t => pure (tmps.getD t undef)
  | .cell b t => do loadVar t (← asAddr (tmps.getD b undef))

theorem res1_sound {a : Act} {s : St} (hi : Inv G φ bl s.H w) (hf : RepL φ bl s.f a.tmps.toList) {r : ResultVar} {r' : IR} (hl : lowRes P r = some r') {K : AV → Prop} (h : resP1 s r' K) :
    Gives P φ bl (resOne a.tmps r) w K := by
  cases r with
  | tmp t =>
    simp only [lowRes] at hl
    injection hl with hl; subst hl
    have := lowA_rep hf (x := .tmp t) (ia := .t t) rfl
    exact ⟨_, _, rfl, this, h⟩
  | cell b t =>
    simp only [lowRes] at hl
    obtain ⟨g, h1, hl⟩ := bind_some' hl
    have hx := lowA_rep hf (x := .tmp b) (ia := .t b) rfl
    have key : ∀ q, (match q with | none => isAggT P t = some false | some m => isAggT P t = some true ∧ szOf P t = some m) → loadP s.H q (s.f.getD b .junk) K →
        Gives P φ bl (do loadVar t (← asAddr (a.tmps.getD b undef))) w K := by
      intro q hq hp
      obtain ⟨r, z, h2, h3, h4⟩ := load_sound hi hq hx hp
      refine ⟨r, z, ?_, h3, h4⟩
      rw [← h2]
      simp only [Act.eval, Instr.loadAt, ev] at hp hx ⊢
      generalize a.tmps.getD b undef = v at hx
      generalize s.f.getD b .junk = x at hp hx
      cases x <;> simp only [loadP] at hp
      case ptr cs o =>
        simp only [Rep] at hx
        obtain ⟨b', o', rfl, _⟩ := hx
        simp [asAddr, Instr.sureAddr]
      case own i o =>
        cases ho : s.H[i]? with
        | none => simp [List.getD_eq_getElem?_getD, ho, loadO] at hp
        | some ob =>
          cases ob with
          | dead => simp [List.getD_eq_getElem?_getD, ho, loadO] at hp
          | mp _ _ => simp [List.getD_eq_getElem?_getD, ho, loadO] at hp
          | arr t' es l cs =>
            obtain ⟨b', n, cur, hb, rfl, _⟩ := own_rep hi hx ho
            simp [asAddr, Instr.sureAddr]
    cases g with
    | true =>
      simp only [if_true] at hl
      obtain ⟨sz, h2, hl⟩ := bind_some' hl
      injection hl with hl; subst hl
      exact key (some sz) ⟨h1, h2⟩ h
    | false =>
      simp only [Bool.false_eq_true, if_false] at hl
      injection hl with hl; subst hl
      exact key none h1 h

theorem res_sound {a : Act} {s : St} (hi : Inv G φ bl s.H w) (hf : RepL φ bl s.f a.tmps.toList) : ∀ (rs : List ResultVar) (rs' : List IR), rs.mapM (lowRes P) = some rs' → ∀ (K : List AV → Prop), resP s rs' K →
    ∃ xs vs, (rs.mapM (resOne a.tmps)).run P w = .ok vs w ∧ RepL φ bl xs vs ∧ K xs
  | [], rs', hl, K, h => by
    simp at hl
    subst hl
    exact ⟨[], [], by simp, by simp only [RepL], h⟩
  | r :: rs, rs', hl, K, h => by
    simp only [List.mapM_cons] at hl
    cases hr : lowRes P r with
    | none => simp [hr] at hl
    | some r' =>
      cases hrest : rs.mapM (lowRes P) with
      | none => simp [hr, hrest] at hl
      | some rs'' =>
        simp [hr, hrest] at hl
        subst hl
        simp only [resP] at h
        obtain ⟨x, v, h1, h2, h3⟩ := res1_sound hi hf hr h
        obtain ⟨xs, vs, h4, h5, h6⟩ := res_sound hi hf rs rs'' hrest _ h3
        refine ⟨x :: xs, v :: vs, ?_, ?_, h6⟩
        · simp only [List.mapM_cons, Sem.run_bind, h1, Result.andThen_ok, h4, Sem.run_pure]
        · simp only [RepL]
          exact ⟨v, vs, rfl, h2, h5⟩

theorem results_run {fn : Func} {tmps : Array Value} {vs : List Value} (h : (fn.results.toList.mapM (resOne tmps)).run P w = .ok vs w) :
    (results fn tmps).run P w = .ok (if h : vs.toArray.size = 1 then vs.toArray[0] else .tuple vs.toArray) w := by
  have e : results fn tmps = (do let vs ← fn.results.mapM (resOne tmps); pure (if h : vs.size = 1 then vs[0] else .tuple vs)) := by
    unfold results
    congr 1
  rw [e, Array.mapM_eq_mapM_toList]
  simp only [Sem.run_bind, Sem.run_map, h, Result.andThen_ok, Sem.run_pure]

theorem tup_rep {xs : List AV} {vs : List Value} (h : RepL φ bl xs vs) : Rep φ bl (tupOf xs) (if h : vs.toArray.size = 1 then vs.toArray[0] else .tuple vs.toArray) := by
  have hl := h.length
  match xs, vs, h, hl with
  | [], [], h, _ => simp [tupOf, Rep, RepL]
  | [x], [v], h, _ =>
    simp only [RepL] at h
    obtain ⟨u, us, e, hr, _⟩ := h
    injection e with e1 e2
    subst e1
    simpa [tupOf] using hr
  | x :: y :: xs, u :: v :: vs, h, _ =>
    simp only [tupOf]
    rw [dif_neg (by simp)]
    simp only [Rep]
    exact ⟨_, rfl, h⟩

/-- A FUNCTION's CONTRACT, OUT OF A WALK. -/
theorem AC_of_awp {n0 : Nat} {f : FuncId} {F : IF} (hF : lowF P f = some F) {args : List AV} {H : List AObj} {R : AV → List AObj → Prop} (hn : H.length = n0)
    (hm : P.follows .mixedOrders = true) (h : awp (ctx P G n0) F.body (exRet (ctx P G n0) F.res R) ⟨initF args F.n, H⟩) : AC P G f args H R := by
  unfold lowF at hF
  obtain ⟨fn, h1, hF⟩ := bind_some' hF
  obtain ⟨c, h2, hF⟩ := bind_some' hF
  obtain ⟨ic, h3, hF⟩ := bind_some' hF
  obtain ⟨rs, h4, hF⟩ := bind_some' hF
  injection hF with hF
  subst hF
  intro φ bl w vs hi hr
  have hn' : ∀ j, (ctx P G n0).n0 ≤ j → bl j = .unused := fun j hj => hi.out j (by rw [hn]; exact hj)
  have hlen := hr.length
  have hrel : Rel G φ bl ⟨initF args fn.ntmps, H⟩ { tmps := vs.toArray ++ Array.replicate (fn.ntmps - vs.toArray.size) undef, defers := [] } w := by
    refine ⟨?_, rfl, hi⟩
    simp only [initF, Array.toList_append, List.toList_toArray, Array.toList_replicate, List.size_toArray]
    rw [hlen]
    refine hr.append ?_
    generalize fn.ntmps - vs.length = k
    induction k with
    | zero => simp [RepL]
    | succ k ih =>
      simp only [List.replicate_succ, RepL]
      exact ⟨_, _, rfl, undef_rep, ih⟩
  refine calls_of_wp h1 h2 (wp_mono (awp_sound (ctx_sound P G n0 hm) hn' c ic h3 _ _ φ bl _ w h hrel (Fr.refl φ bl w)) ?_)
  have key : ∀ (a : Act) (w' : World), (∃ s φ' bl', RetOK (ctx P G n0) rs R s ∧ Rel G φ' bl' s a w' ∧ Fr φ bl w φ' bl' w') → a.defers = [] ∧ ∃ v, (results fn a.tmps).run P w' = .ok v w' ∧
      ∃ v' φ' bl' x H', Ending.returned v = .returned v' ∧ R x H' ∧ Inv G φ' bl' H' w' ∧ Rep φ' bl' x v' ∧ Fr φ bl w φ' bl' w' := by
    rintro a w' ⟨s, φ', bl', ⟨s', hg, hres⟩, hr', hf'⟩
    obtain ⟨φ1, bl1, hr1, hf1⟩ := gh_rel hg hn' hr' hf'
    obtain ⟨xs, us, h5, h6, h7⟩ := res_sound hr1.inv hr1.f _ _ h4 _ hres
    exact ⟨hr1.d, _, results_run h5, _, φ1, bl1, tupOf xs, s'.H, rfl, h7, hr1.inv, tup_rep h6, hf1⟩
  intro e a w' hq
  cases e with
  | normal => exact key a w' hq
  | ret => exact key a w' hq
  | exit i =>
    obtain ⟨_, _, _, hk, _⟩ := hq
    exact hk.elim
  | goto l => exact hq.elim
  | panic ch => exact hq.elim
  | outgrown => exact hq.elim

/-- At a call. -/
theorem PC.call {n0 : Nat} {f : FuncId} {args : List AV} {R : AV → Prop} (h : PC P G f args R) (hz : FrzL args) {s : St} {K : AV → St → Prop} (k : ∀ x, Frz x → R x → K x s) : ACall (ctx P G n0) f args s K :=
  ⟨s, args, rfl, Gh.refl G n0 _, (h.at_ hz s.H).mono fun x H' ⟨e, h1, h2⟩ => by subst e; exact k x h1 h2⟩

theorem AC.call {n0 : Nat} {f : FuncId} {args : List AV} {s : St} {R : AV → List AObj → Prop} (h : AC P G f args s.H R) {K : AV → St → Prop} (k : ∀ x H', R x H' → K x ⟨s.f, H'⟩) : ACall (ctx P G n0) f args s K :=
  ⟨s, args, rfl, Gh.refl G n0 _, h.mono k⟩

theorem ACall.gh {n0 : Nat} {f : FuncId} {args args' : List AV} {s s' : St} {K : AV → St → Prop} (hl : s'.f.length = s.f.length) (hg : Gh G n0 ⟨s.f ++ args, s.H⟩ ⟨s'.f ++ args', s'.H⟩) (h : ACall (ctx P G n0) f args' s' K) : ACall (ctx P G n0) f args s K := by
  obtain ⟨s2, a2, h1, h2, h3⟩ := h
  exact ⟨s2, a2, h1.trans hl, hg.trans h2, h3⟩

/-- A function's contract out of a walk: it only computes. -/
theorem PC_of_awp {f : FuncId} {F : IF} (hF : lowF P f = some F) {args : List AV} {R : AV → Prop}
    (hm : P.follows .mixedOrders = true) (h : awp (ctx P G 0) F.body (exRet (ctx P G 0) F.res fun x _ => Frz x ∧ R x) ⟨initF args F.n, []⟩) : PC P G f args R := AC_of_awp hF rfl hm h

end Go.Avm
