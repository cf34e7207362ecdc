/- The operations of the abstract machine are those of the model: all of them. -/
import Derived.Test.YtflfgjhdofphnabGreatDoorSndN
set_option linter.unusedSimpArgs false
set_option linter.unusedVariables false
namespace Go.Avm
open Go
variable {P : Program} {G : Glob} {n0 : Nat} {φ : Phi} {bl : Nat → BL} {H : List AObj} {w : World}

def Ent (P : Program) (f : FuncId) : Prop := ∃ fn, P.funcs[f]? = some fn ∧ (fn.name == "runtime.NumGoroutine") = false ∧ fn.body.isNone = false

/-- What is asked of the contracts that a walk leans on. -/
structure Sound (P : Program) (G : Glob) (C : Ctx) : Prop where
  call : ∀ f args H R, C.call f args H R → AC P G f args H R
  ent : ∀ f, C.ent f → Ent P f
  gh : ∀ s s', C.gh s s' → Gh G C.n0 s s'
  ghr : ∀ s, C.gh s s
  mono : ∀ f args H R R', (∀ x H', R x H' → R' x H') → C.call f args H R → C.call f args H R'
  pcf : ∀ g args v, C.pc g args v → Frz v
  pc : ∀ g args v, C.pc g args v → FrzL args → ∀ H, C.call g args H fun x H' => H' = H ∧ x = v
  fol : P.follows .mixedOrders = true

theorem callFunc_run {f : FuncId} (h : Ent P f) (args : Array Value) (w : World) : (callFunc f args).run P w = .ok (.enter f args) w := by
  obtain ⟨fn, h1, h2, h3⟩ := h
  simp only [callFunc, Sem.run_bind, run_program, Result.andThen_ok, h1, h2, h3, Bool.false_eq_true, if_false, Sem.run_pure]

theorem upon_val {o : Oper} {a : Act} {w w' : World} {next : Act → World → Prop} {Q : Exit → Act → World → Prop} {m : Sem Value} {z : Value} (he : execOp a.eval o = (do pure (Next.value (← m)))) (hm : m.run P w = .ok z w') (hk : next (a.put o.dst z) w') : o.wp P a w next Q := by
  unfold Oper.wp
  rw [he]
  simp only [Sem.run_bind, hm, Result.andThen_ok, Sem.run_pure]
  exact hk

section
variable {C : Ctx} {o : Oper} {s : St} {K : AV → St → Prop} {a : Act} {next : Act → World → Prop} {Q : Exit → Act → World → Prop}

/-- What comes behind an operation. -/
def Then (G : Glob) (n0 : Nat) (φ : Phi) (bl : Nat → BL) (w : World) (K : AV → St → Prop) (a : Act) (o : Oper) (next : Act → World → Prop) : Prop :=
  ∀ x s' φ' bl' v w', K x s' → RepL φ' bl' s'.f a.tmps.toList → Inv G φ' bl' s'.H w' → Adv n0 φ bl w φ' bl' w' → Rep φ' bl' x v → next (a.put o.dst v) w'

theorem wp_gives (hi : Inv G φ bl s.H w) (hf : RepL φ bl s.f a.tmps.toList) {m : Sem Value} (he : execOp a.eval o = (do pure (Next.value (← m)))) (h : Gives P φ bl m w (K · s)) (k : Then G n0 φ bl w K a o next) : o.wp P a w next Q := by
  obtain ⟨r, z, h1, h2, h3⟩ := h
  exact upon_val he h1 (k r s φ bl z w h3 hf hi (Adv.refl n0 φ bl w) h2)

theorem wp_givesM {m : Sem Value} (he : execOp a.eval o = (do pure (Next.value (← m)))) (h : GivesM P G n0 φ bl w a.tmps.toList m K) (k : Then G n0 φ bl w K a o next) : o.wp P a w next Q := by
  obtain ⟨r, z, w', φ', bl', s', h1, h2, h3, h4, h5, h6⟩ := h
  exact upon_val he h1 (k r s' φ' bl' z w' h6 h3 h4 h5 h2)

theorem RepL.split {φ : Phi} {bl : Nat → BL} : ∀ {xs ys : List AV} {us vs : List Value}, RepL φ bl (xs ++ ys) (us ++ vs) → xs.length = us.length → RepL φ bl xs us ∧ RepL φ bl ys vs
  | [], ys, us, vs, h, hl => by
    have : us = [] := List.eq_nil_of_length_eq_zero (by simpa using hl.symm)
    subst this
    exact ⟨by simp only [RepL], h⟩
  | x :: xs, ys, us, vs, h, hl => by
    cases us with
    | nil => simp at hl
    | cons u us =>
      simp only [List.cons_append, RepL] at h ⊢
      obtain ⟨u', us', e, hr, hrest⟩ := h
      injection e with e1 e2
      subst e1 e2
      have := RepL.split hrest (by simpa using hl)
      exact ⟨⟨u, us, rfl, hr, this.1⟩, this.2⟩

theorem wp_call (hS : Sound P G C) (hi : Inv G φ bl s.H w) (hf : RepL φ bl s.f a.tmps.toList) {f : FuncId} {args : List AV} {vs : List Value} (hr : RepL φ bl args vs) (he : (execOp a.eval o).run P w = .ok (.enter f vs.toArray) w)
    (h : ACall C f args s K) (k : Then G C.n0 φ bl w K a o next) : o.wp P a w next Q := by
  unfold Oper.wp
  rw [he]
  show Calls P f vs.toArray w _
  obtain ⟨s', args', hl, hg, h⟩ := h
  obtain ⟨φ1, bl1, hi1, hr1, ha1⟩ := hS.gh _ _ hg φ bl (a.tmps.toList ++ vs) w hi (hf.append hr)
  obtain ⟨hf1, hr1⟩ := RepL.split hr1 (by rw [hl]; exact hf.length)
  have hc := hS.call _ _ _ _ h φ1 bl1 w vs hi1 hr1
  refine hc.mono ?_
  rintro e w' ⟨v, φ', bl', x, H', rfl, hK, hi', hr', hfr⟩
  exact k x ⟨s'.f, H'⟩ φ' bl' v w' hK (RepL.mono hfr.phi hfr.ids _ _ hf1) hi' (ha1.trans (hfr.adv C.n0)) hr'
end

theorem bind_some' {α β : Type} {x : Option α} {f : α → Option β} {y : β} (h : (do let a ← x; f a) = some y) : ∃ a, x = some a ∧ f a = some y := by
  cases x with
  | none => cases h
  | some a => exact ⟨a, rfl, h⟩

theorem lowO_rep {f : List AV} {a : Act} (hf : RepL φ bl f a.tmps.toList) {x : Option Operand} {y : Option IA} (h : lowO x = some y) :
    match y.map (ev f), x.map a.eval with | none, none => True | some y, some u => Rep φ bl y u | _, _ => False := by
  cases x with
  | none =>
    simp [lowO] at h
    subst h
    trivial
  | some x =>
    simp [lowO] at h
    obtain ⟨i, h1, rfl⟩ := h
    exact lowA_rep hf h1

theorem ok_true {b : Bool} {α : Type} {f : Unit → Option α} {y : α} (h : (do let x ← ok b; f x) = some y) : b = true ∧ f () = some y := by
  obtain ⟨u, h1, h2⟩ := bind_some' h
  unfold ok at h1
  split at h1
  · exact ⟨‹_›, h2⟩
  · cases h1

theorem sliceT_some {t e : TypeId} (h : sliceT P t = some e) : P.underlying t = some (.slice e) := by
  unfold sliceT at h
  cases hu : P.underlying t with
  | none => simp [hu] at h
  | some d => cases d <;> simp [hu] at h; subst h; rfl
theorem arrayT_some {t : TypeId} {p : Nat × TypeId} (h : arrayT P t = some p) : P.underlying t = some (.array p.1 p.2) := by
  unfold arrayT at h
  cases hu : P.underlying t with
  | none => simp [hu] at h
  | some d => cases d <;> simp [hu] at h; subst h; rfl
theorem intT_some {t : TypeId} {k : IntKind} (h : intT P t = some k) : P.underlying t = some (.int k) := by
  unfold intT at h
  cases hu : P.underlying t with
  | none => simp [hu] at h
  | some d => cases d <;> simp [hu] at h; subst h; rfl
theorem stringT_some {t : TypeId} {u : Unit} (h : stringT P t = some u) : P.underlying t = some .string := by
  unfold stringT at h
  cases hu : P.underlying t with
  | none => simp [hu] at h
  | some d => cases d <;> simp [hu] at h; rfl
theorem boolT_some {t : TypeId} {u : Unit} (h : boolT P t = some u) : P.underlying t = some .bool := by
  unfold boolT at h
  cases hu : P.underlying t with
  | none => simp [hu] at h
  | some d => cases d <;> simp [hu] at h; rfl
theorem ptrT_some {t e : TypeId} (h : ptrT P t = some e) : P.underlying t = some (.pointer e) := by
  unfold ptrT at h
  cases hu : P.underlying t with
  | none => simp [hu] at h
  | some d => cases d <;> simp [hu] at h; subst h; rfl
theorem ifaceT_some {t : TypeId} {u : Unit} (h : ifaceT P t = some u) : ∃ ms, P.underlying t = some (.interface ms) := by
  unfold ifaceT at h
  cases hu : P.underlying t with
  | none => simp [hu] at h
  | some d => cases d <;> simp [hu] at h; exact ⟨_, rfl⟩
theorem mapT_some {t : TypeId} {ke : TypeId × TypeId} (h : mapT P t = some ke) : P.underlying t = some (.map ke.1 ke.2) := by
  unfold mapT at h
  cases hu : P.underlying t with
  | none => simp [hu] at h
  | some d => cases d <;> simp [hu] at h; subst h; rfl
theorem structT_some {t : TypeId} {fs : Array Field} (h : structT P t = some fs) : P.underlying t = some (.struct fs) := by
  unfold structT at h
  cases hu : P.underlying t with
  | none => simp [hu] at h
  | some d => cases d <;> simp [hu] at h; subst h; rfl

section
variable {C : Ctx} {o : Oper} {io : IOp} {s : St} {K : AV → St → Prop} {a : Act} {next : Act → World → Prop} {Q : Exit → Act → World → Prop}

theorem bin_sound (hi : Inv G φ bl s.H w) (hf : RepL φ bl s.f a.tmps.toList) {op : BinOp} {t yt : TypeId} {x y : Operand} (hop : o.op = .binOp op t x y yt) {x' y' : IA} (hx : lowA x = some x') (hy : lowA y = some y') (h : binP op (ev s.f x') (ev s.f y') (K · s)) (k : Then G n0 φ bl w K a o next) : o.wp P a w next Q :=
  wp_gives hi hf (m := do eqGuard op t x y (a.eval x) (a.eval y); binOp op t (a.eval x) (a.eval y)) (by simp only [execOp, hop]) (binP_sound (lowA_rep hf hx) (lowA_rep hf hy) h t x y w) k

theorem eq_sound (hi : Inv G φ bl s.H w) (hf : RepL φ bl s.f a.tmps.toList) {op : BinOp} {t yt : TypeId} {x y : Operand} (hop : o.op = .binOp op t x y yt) {n : Bool} (hn : op = .eql ∧ n = false ∨ op = .neq ∧ n = true) (hl : lowEq P n op t x y = some io) (h : aop C io s K) (k : Then G n0 φ bl w K a o next) : o.wp P a w next Q := by
  unfold lowEq at hl
  split at hl
  · obtain ⟨x', hx, hl⟩ := bind_some' hl
    obtain ⟨y', hy, hl⟩ := bind_some' hl
    injection hl with hl; subst hl
    exact bin_sound hi hf hop hx hy h k
  · split at hl
    · rename_i ht
      obtain ⟨u, ht⟩ := Option.isSome_iff_exists.1 ht
      obtain ⟨x', hx, hl⟩ := bind_some' hl
      obtain ⟨y', hy, hl⟩ := bind_some' hl
      injection hl with hl; subst hl
      simp only [aop] at h
      exact wp_gives hi hf (m := do eqGuard op t x y (a.eval x) (a.eval y); binOp op t (a.eval x) (a.eval y)) (by simp only [execOp, hop]) (eqb_sound (lowA_rep hf hx) (lowA_rep hf hy) h (boolT_some ht) x y hn) k
    · split at hl
      · rename_i ht
        obtain ⟨e, ht⟩ := Option.isSome_iff_exists.1 ht
        obtain ⟨hnil, hl⟩ := ok_true hl
        obtain ⟨x', hx, hl⟩ := bind_some' hl
        injection hl with hl; subst hl
        have hy : a.eval y = .pointer none := by
          cases y <;> simp only [isNilP] at hnil <;> try (cases hnil; done)
          rename_i v
          cases v <;> simp only at hnil <;> try (cases hnil; done)
          rename_i p
          cases p
          · rfl
          · cases hnil
        simp only [aop] at h
        exact wp_gives hi hf (m := do eqGuard op t x y (a.eval x) (.pointer none); binOp op t (a.eval x) (.pointer none)) (by simp only [execOp, hop, hy]) (eqpn_sound hi (lowA_rep hf hx) h (ptrT_some ht) x y hn) k
      · split at hl
        · rename_i ht
          obtain ⟨e, ht⟩ := Option.isSome_iff_exists.1 ht
          obtain ⟨hnil, hl⟩ := ok_true hl
          obtain ⟨x', hx, hl⟩ := bind_some' hl
          injection hl with hl; subst hl
          have hy : a.eval y = .slice none 0 0 := by
            cases y <;> simp only [isNilS] at hnil <;> try (cases hnil; done)
            rename_i v
            cases v <;> simp only at hnil <;> try (cases hnil; done)
            rename_i p n' c
            cases p
            · simp at hnil
              obtain ⟨rfl, rfl⟩ := hnil
              rfl
            · simp at hnil
          simp only [aop] at h
          exact wp_gives hi hf (m := do eqGuard op t x y (a.eval x) (.slice none 0 0); binOp op t (a.eval x) (.slice none 0 0)) (by simp only [execOp, hop, hy]) (eqsn_sound hi (lowA_rep hf hx) h (sliceT_some ht) x y hn) k
        · split at hl
          · rename_i ht
            obtain ⟨e, ht⟩ := Option.isSome_iff_exists.1 ht
            obtain ⟨hnil, hl⟩ := ok_true hl
            obtain ⟨x', hx, hl⟩ := bind_some' hl
            injection hl with hl; subst hl
            obtain ⟨ms, hms⟩ := ifaceT_some ht
            have hy : y = .const .nilIface := by
              cases y <;> simp only [isNilI] at hnil <;> try (cases hnil; done)
              rename_i v
              cases v <;> simp only at hnil <;> try (cases hnil; done)
              rfl
            subst hy
            simp only [aop] at h
            exact wp_gives hi hf (m := do eqGuard op t x (.const .nilIface) (a.eval x) .nilIface; binOp op t (a.eval x) .nilIface) (by simp only [execOp, hop]; rfl) (eqin_sound (lowA_rep hf hx) h hms x hn) k
          · cases hl
end

theorem one?_some {xs : Array Operand} {x : Operand} (h : one? xs = some x) : xs = #[x] := by
  unfold one? at h
  split at h
  · rename_i y hy
    injection h with h
    subst h
    exact Array.toList_inj.1 hy
  · cases h
theorem two?_some {xs : Array Operand} {p : Operand × Operand} (h : two? xs = some p) : xs = #[p.1, p.2] := by
  unfold two? at h
  split at h
  · rename_i x y hy
    injection h with h
    subst h
    exact Array.toList_inj.1 hy
  · cases h

theorem builtin_exec {o : Oper} {a : Act} {b : Builtin} {c : Call} (hop : o.op = .call c) (hc : c.callee = .builtin b) :
    execOp a.eval o = builtin b c.argTypes o.type (c.args.map fun | .const _ => true | _ => false) (c.args.map a.eval) := by
  simp only [execOp, hop, resolve, hc, pure_bind, invoke]
  rfl

set_option maxHeartbeats 2000000 in
theorem aop_sound {C : Ctx} (hS : Sound P G C) {o : Oper} {io : IOp} (hl : lowOp P o.op = some io) {s : St} {K : AV → St → Prop} {a : Act} {next : Act → World → Prop} {Q : Exit → Act → World → Prop}
    (hi : Inv G φ bl s.H w) (hf : RepL φ bl s.f a.tmps.toList) (h : aop C io s K) (k : Then G C.n0 φ bl w K a o next) : o.wp P a w next Q := by
  cases hop : o.op <;> rw [hop] at hl <;> simp only [lowOp] at hl <;> try (cases hl; done)
  case move x =>
    obtain ⟨x', h1, hl⟩ := bind_some' hl
    injection hl with hl; subst hl
    simp only [aop] at h
    exact upon_val (m := pure (a.eval x)) (by simp only [execOp, hop]; rfl) rfl (k _ s φ bl _ w h hf hi (Adv.refl _ φ bl w) (lowA_rep hf h1))
  case assign x =>
    obtain ⟨x', h1, hl⟩ := bind_some' hl
    injection hl with hl; subst hl
    simp only [aop] at h
    exact upon_val (m := pure (a.eval x)) (by simp only [execOp, hop]; rfl) rfl (k _ s φ bl _ w h hf hi (Adv.refl _ φ bl w) (lowA_rep hf h1))
  case pick c x y =>
    obtain ⟨c', h1, hl⟩ := bind_some' hl
    obtain ⟨x', h2, hl⟩ := bind_some' hl
    obtain ⟨y', h3, hl⟩ := bind_some' hl
    injection hl with hl; subst hl
    simp only [aop] at h
    refine wp_gives hi hf (m := do pure (if ← asBool (a.eval c) then a.eval x else a.eval y)) ?_ (pick_sound (lowA_rep hf h1) (lowA_rep hf h2) (lowA_rep hf h3) h) k
    simp only [execOp, hop, bind_assoc, pure_bind]
  case binOp op t x y yt =>
    unfold lowBin at hl
    cases op <;> simp only at hl
    case eql => exact eq_sound hi hf hop (.inl ⟨rfl, rfl⟩) hl h k
    case neq => exact eq_sound hi hf hop (.inr ⟨rfl, rfl⟩) hl h k
    all_goals
      obtain ⟨x', h1, hl⟩ := bind_some' hl
      obtain ⟨y', h2, hl⟩ := bind_some' hl
      injection hl with hl; subst hl
      exact bin_sound hi hf hop h1 h2 h k
  case unOp u t x =>
    unfold lowUn at hl
    cases u <;> simp only at hl <;> try (cases hl; done)
    all_goals
      obtain ⟨x', h1, hl⟩ := bind_some' hl
      injection hl with hl; subst hl
      simp only [aop] at h
    case neg => exact wp_gives hi hf (m := Op.unary .neg (a.eval x)) (by simp only [execOp, hop]) (neg_sound (lowA_rep hf h1) h) k
    case not => exact wp_gives hi hf (m := Op.unary .not (a.eval x)) (by simp only [execOp, hop]) (not_sound (lowA_rep hf h1) h) k
  case convert src dst x =>
    unfold lowConv at hl
    obtain ⟨x', h1, hl⟩ := bind_some' hl
    split at hl
    · rename_i k0 h2
      obtain ⟨k1, h3, hl⟩ := bind_some' hl
      injection hl with hl; subst hl
      simp only [aop] at h
      exact wp_gives hi hf (m := convert src dst (a.eval x)) (by simp only [execOp, hop]) (conv_sound (lowA_rep hf h1) h (intT_some h2) (intT_some h3)) k
    · obtain ⟨e, h2, hl⟩ := bind_some' hl
      obtain ⟨k0, h3, hl⟩ := bind_some' hl
      obtain ⟨h4, hl⟩ := ok_true hl
      obtain ⟨u, h5, hl⟩ := bind_some' hl
      injection hl with hl; subst hl
      simp only [aop] at h
      have hk0 : k0 = .u8 := by simpa using h4
      subst hk0
      exact wp_gives hi hf (m := convert src dst (a.eval x)) (by simp only [execOp, hop]) (b2s_sound hi (sliceT_some h2) (intT_some h3) (stringT_some h5) (lowA_rep hf h1) h) k
  case nilCheck x =>
    obtain ⟨x', h1, hl⟩ := bind_some' hl
    injection hl with hl; subst hl
    simp only [aop] at h
    obtain ⟨r, p, e, hr, hK⟩ := nilck_sound hi (lowA_rep hf h1) h
    refine upon_val (m := pure (a.eval x)) ?_ rfl (k _ s φ bl _ w hK hf hi (Adv.refl _ φ bl w) hr)
    simp only [execOp, hop, e]
    rfl
  case fieldAddr t x i =>
    unfold lowFld at hl
    obtain ⟨x', h1, hl⟩ := bind_some' hl
    obtain ⟨fs, h2, hl⟩ := bind_some' hl
    obtain ⟨f, h3, hl⟩ := bind_some' hl
    obtain ⟨sz, h4, hl⟩ := bind_some' hl
    obtain ⟨h5, hl⟩ := ok_true hl
    injection hl with hl; subst hl
    simp only [aop] at h
    exact wp_gives hi hf (m := Instr.fieldAt t (a.eval x) i) (by simp only [execOp, hop]) (fld_sound hi (structT_some h2) h3 h4 (by simpa using h5) (lowA_rep hf h1) h) k
  case indexAddr t x i =>
    unfold lowIdx at hl
    obtain ⟨x', h1, hl⟩ := bind_some' hl
    obtain ⟨i', h2, hl⟩ := bind_some' hl
    split at hl
    · rename_i e he
      obtain ⟨sz, h3, hl⟩ := bind_some' hl
      injection hl with hl; subst hl
      simp only [aop] at h
      exact wp_gives hi hf (m := Instr.indexAt t (a.eval x) (a.eval i)) (by simp only [execOp, hop]) (idxA_sound hi (sliceT_some he) h3 (lowA_rep hf h1) (lowA_rep hf h2) h) k
    · obtain ⟨ne, h3, hl⟩ := bind_some' hl
      obtain ⟨h4, hl⟩ := ok_true hl
      obtain ⟨sz, h5, hl⟩ := bind_some' hl
      injection hl with hl; subst hl
      simp only [aop] at h
      exact wp_gives hi hf (m := Instr.indexAt t (a.eval x) (a.eval i)) (by simp only [execOp, hop]) (idxP_sound hi (arrayT_some h3) (by simp at h4; omega) h5 (lowA_rep hf h1) (lowA_rep hf h2) h) k
  case index t x i =>
    obtain ⟨x', h1, hl⟩ := bind_some' hl
    obtain ⟨i', h2, hl⟩ := bind_some' hl
    obtain ⟨u, h3, hl⟩ := bind_some' hl
    injection hl with hl; subst hl
    simp only [aop] at h
    exact wp_gives hi hf (m := Instr.index t (a.eval x) (a.eval i)) (by simp only [execOp, hop]) (idxS_sound (stringT_some h3) (lowA_rep hf h1) (lowA_rep hf h2) h) k
  case load t x =>
    unfold lowLoad at hl
    obtain ⟨x', h1, hl⟩ := bind_some' hl
    obtain ⟨b, h2, hl⟩ := bind_some' hl
    cases b with
    | true =>
      simp only [if_true] at hl
      obtain ⟨sz, h3, hl⟩ := bind_some' hl
      injection hl with hl; subst hl
      simp only [aop] at h
      exact wp_gives hi hf (m := Instr.loadAt t (a.eval x)) (by simp only [execOp, hop]) (load_sound hi (q := some sz) ⟨h2, h3⟩ (lowA_rep hf h1) h) k
    | false =>
      simp only [Bool.false_eq_true, if_false] at hl
      injection hl with hl; subst hl
      simp only [aop] at h
      exact wp_gives hi hf (m := Instr.loadAt t (a.eval x)) (by simp only [execOp, hop]) (load_sound hi (q := none) h2 (lowA_rep hf h1) h) k
  case store t x y =>
    obtain ⟨x', h1, hl⟩ := bind_some' hl
    obtain ⟨y', h2, hl⟩ := bind_some' hl
    obtain ⟨sz, h3, hl⟩ := bind_some' hl
    injection hl with hl; subst hl
    simp only [aop] at h
    obtain ⟨w', s', e, g1, g2, g3, g4⟩ := store_sound (K := K) hi hf h3 (lowA_rep hf h1) (lowA_rep hf h2) h
    unfold Oper.wp
    have : (execOp a.eval o).run P w = .ok .skip w' := by
      simp only [execOp, hop, Sem.run_bind, e, Result.andThen_ok, Sem.run_pure]
    rw [this]
    exact k _ s' φ bl undef w' g4 g1 g2 (g3.adv _) (by simp [Rep, RepL, undef])
  case slice t x lo hi' mx =>
    unfold lowSlice at hl
    obtain ⟨x', h1, hl⟩ := bind_some' hl
    obtain ⟨lo', h2, hl⟩ := bind_some' hl
    obtain ⟨hi'', h3, hl⟩ := bind_some' hl
    obtain ⟨h4, hl⟩ := ok_true hl
    have hmx : mx = none := by simpa using h4
    split at hl
    · rename_i e he
      obtain ⟨sz, h5, hl⟩ := bind_some' hl
      injection hl with hl; subst hl
      simp only [aop] at h
      exact wp_gives hi hf (m := Instr.sliceAt t (a.eval x) (lo.map a.eval) (hi'.map a.eval) none) (by simp only [execOp, hop, hmx, Option.map_none]) (slc_sound hi (sliceT_some he) h5 (lowA_rep hf h1) (lowO_rep hf h2) (lowO_rep hf h3) h) k
    · obtain ⟨u, h5, hl⟩ := bind_some' hl
      injection hl with hl; subst hl
      simp only [aop] at h
      exact wp_gives hi hf (m := Instr.sliceAt t (a.eval x) (lo.map a.eval) (hi'.map a.eval) none) (by simp only [execOp, hop, hmx, Option.map_none]) (slcS_sound (stringT_some h5) (lowA_rep hf h1) (lowO_rep hf h2) (lowO_rep hf h3) h) k
  case extract x i =>
    obtain ⟨x', h1, hl⟩ := bind_some' hl
    injection hl with hl; subst hl
    simp only [aop] at h
    exact wp_gives hi hf (m := Instr.extract (a.eval x) i) (by simp only [execOp, hop]) (ext_sound (lowA_rep hf h1) h) k
  case alloc t =>
    obtain ⟨z, h1, hl⟩ := bind_some' hl
    injection hl with hl; subst hl
    simp only [aop] at h
    exact wp_givesM (m := Instr.alloc t true (.tuple #[])) (by simp only [execOp, hop]) (alloc_sound hi hf h1 h) k
  case box t x =>
    obtain ⟨sz, h1, hl⟩ := bind_some' hl
    obtain ⟨x', h2, hl⟩ := bind_some' hl
    injection hl with hl; subst hl
    simp only [aop] at h
    exact wp_givesM (m := Instr.box t (a.eval x)) (by simp only [execOp, hop]) (box_sound hi hf (lowA_rep hf h2) h) k
  case build t parts =>
    unfold lowBuild at hl
    obtain ⟨fs, h1, hl⟩ := bind_some' hl
    obtain ⟨places, h2, hl⟩ := bind_some' hl
    obtain ⟨ps, h3, hl⟩ := bind_some' hl
    obtain ⟨z, h4, hl⟩ := bind_some' hl
    injection hl with hl; subst hl
    simp only [aop] at h
    obtain ⟨hok, hK⟩ := h
    obtain ⟨zv, _, ⟨i, hie, hiz⟩, hzr⟩ := zero_rep h4
    have hl := (hzr φ bl).length
    obtain ⟨cells', g1, g2, g3⟩ := fill_rep hi hf _ _ _ h3 zv.cells z (hzr φ bl) hok
    have hb : P.built t (parts.map fun p => (p.1, a.eval p.2)).toList = some cells' := by
      unfold Program.built
      simp only [hie, structT_some h1, hiz, h2]
      rw [Array.toList_map]
      exact g1
    refine upon_val (m := Instr.build t (parts.map fun p => (p.1, a.eval p.2))) ?_ (run_build w t _ cells' hb) (k _ s φ bl _ w hK hf hi (Adv.refl _ φ bl w) ?_)
    · simp only [execOp, hop]
    · simp only [Rep]
      exact ⟨cells'.toList, by simp, g3⟩
  case buildSlice t len parts =>
    unfold lowBslice at hl
    obtain ⟨e, h1, hl⟩ := bind_some' hl
    obtain ⟨sz, h2, hl⟩ := bind_some' hl
    obtain ⟨z, h3, hl⟩ := bind_some' hl
    obtain ⟨h4, hl⟩ := ok_true hl
    obtain ⟨ps, h5, hl⟩ := bind_some' hl
    injection hl with hl; subst hl
    simp only [aop] at h
    obtain ⟨hok, hK⟩ := h
    simp only [Bool.and_eq_true, beq_iff_eq, decide_eq_true_eq] at h4
    obtain ⟨⟨h6, h7⟩, h8⟩ := h4
    obtain ⟨zv, hzrun, ⟨i, hie, hiz⟩, hzr⟩ := zero_rep h3
    have hm := made_rep (hzr φ bl) len len (Nat.le_refl _)
    rw [h6] at hm
    have hml : (madeCells zv.cells (len * sz)).toList.take (len * sz) = (madeCells zv.cells (len * sz)).toList := List.take_of_length_le (by simp [madeCells])
    rw [hml] at hm
    obtain ⟨cells', g1, g2, g3⟩ := fill_rep hi hf (fun i => some (i * sz, sz)) parts.toList ps h5 (madeCells zv.cells (len * sz)) (reps len z) hm (by rw [reps_length, h6]; exact hok) 
    have hrun : (Instr.buildSlice t len (parts.map fun p => (p.1, a.eval p.2))).run P w = .ok (.slice (some ⟨w.heap.size, 0, none⟩) len len) (w.alloc (.cells cells' e)) := by
      have hfill : Instr.fill (fun i => some (i * sz, sz)) (madeCells zv.cells (len * sz)) (parts.map fun p => (p.1, a.eval p.2)).toList = some cells' := by
        rw [Array.toList_map]; exact g1
      unfold Instr.buildSlice
      simp only [Sem.run_bind, run_underlying (sliceT_some h1), Result.andThen_ok, run_szOf h2]
      rw [if_neg (by omega)]
      by_cases h0 : len * sz = 0
      · have hmk : madeCells zv.cells (len * sz) = #[] := by rw [h0]; simp [madeCells, Array.range_zero']
        have g1' := g1
        rw [hmk] at g1'
        simp [h0, newRow, Array.range_zero', g1']
      · have hmk : (Array.range (len * sz)).map (zv.cells[· % zv.cells.size]!) = madeCells zv.cells (len * sz) := rfl
        simp only [h0, if_false, Sem.run_bind, hzrun, Result.andThen_ok, Sem.run_pure, hmk, hfill]
        simp [newRow]
    have hlen : (fillP (reps len z) (evP s.f ps)).length = cells'.toList.length := g3.length
    obtain ⟨bl', k1, k2, k3, k4⟩ := new_sound (s := s) (t := e) (es := sz) (cs := fillP (reps len z) (evP s.f ps)) (cur := cells') hi hf (w' := w.alloc (.cells cells' e)) rfl rfl rfl rfl (by rw [hlen]; simp) (by rw [hlen, List.take_length]; exact g3)
    refine upon_val (m := Instr.buildSlice t len (parts.map fun p => (p.1, a.eval p.2))) (by simp only [execOp, hop]) hrun (k _ _ φ bl' _ _ hK k2 k3 (k4.adv _) ?_)
    simp only [Rep, k1]
    refine ⟨len, rfl, Nat.le_refl _, by unfold maxLen; omega, ?_⟩
    rw [g2, size_madeCells]
    omega
  case makeSlice t l c =>
    unfold lowMake at hl
    obtain ⟨e, h1, hl⟩ := bind_some' hl
    obtain ⟨sz, h2, hl⟩ := bind_some' hl
    obtain ⟨by_, h3, hl⟩ := bind_some' hl
    obtain ⟨z, h4, hl⟩ := bind_some' hl
    obtain ⟨h5, hl⟩ := ok_true hl
    obtain ⟨l', h6, hl⟩ := bind_some' hl
    obtain ⟨c', h7, hl⟩ := bind_some' hl
    injection hl with hl; subst hl
    simp only [aop] at h
    simp at h5
    exact wp_givesM (m := Instr.makeSlice t (a.eval l) (a.eval c)) (by simp only [execOp, hop]) (mk_sound hi hf (sliceT_some h1) h2 h3 h4 h5.1 h5.2 (lowA_rep hf h6) (lowA_rep hf h7) h) k
  case makeFunc fn first cap =>
    unfold lowFn at hl
    cases fn <;> simp only at hl <;> try (cases hl; done)
    rename_i f
    obtain ⟨h1, hl⟩ := ok_true hl
    obtain ⟨cs, h2, hl⟩ := bind_some' hl
    injection hl with hl; subst hl
    simp only [aop] at h
    have hfirst : first = #[] := by simpa using h1
    refine upon_val (m := Instr.makeFunc (.func f) #[] (cap.map a.eval)) (by simp only [execOp, hop, hfirst, Array.map_empty]) rfl (k _ s φ bl _ w h hf hi (Adv.refl _ φ bl w) ?_)
    simp only [Rep]
    exact ⟨cap.toList.map a.eval, by simp [← Array.toList_inj], lowAs_rep hf h2⟩
  case call c =>
    unfold lowCall at hl
    cases hc : c.callee <;> rw [hc] at hl <;> simp only at hl
    case invoke r m => cases hl
    case value f =>
      unfold lowCallee at hl
      cases f <;> simp only at hl
      case const v => cases hl
      case global g => cases hl
      case func f =>
        obtain ⟨fn, h1, hl⟩ := bind_some' hl
        obtain ⟨h2, hl⟩ := ok_true hl
        obtain ⟨as, h3, hl⟩ := bind_some' hl
        injection hl with hl; subst hl
        simp only [aop] at h
        simp only [Bool.and_eq_true, Bool.not_eq_true'] at h2
        refine wp_call hS hi hf (lowAs_rep hf h3) ?_ h k
        have : execOp a.eval o = callFunc f (c.args.map a.eval) := by
          simp only [execOp, hop, resolve, hc, Act.eval, Deferred.ofValue, pure_bind, invoke]
          simp
        rw [this, callFunc_run ⟨fn, h1, h2.1, h2.2⟩]
        congr 2
        simp [← Array.toList_inj]
      case tmp t =>
        obtain ⟨as, h3, hl⟩ := bind_some' hl
        injection hl with hl; subst hl
        simp only [aop] at h
        have hg := lowA_rep hf (x := .tmp t) (ia := .t t) rfl
        generalize ev s.f (.t t) = g at h hg
        cases g <;> simp only [callvP] at h
        rename_i f cap
        simp only [Rep] at hg
        obtain ⟨vs, hv, hvr⟩ := hg
        refine wp_call hS hi hf ((lowAs_rep hf h3).append hvr) ?_ h.2 k
        have : execOp a.eval o = callFunc f (c.args.map a.eval ++ vs.toArray) := by
          simp only [execOp, hop, resolve, hc, hv, Deferred.ofValue, pure_bind, invoke]
          simp
        rw [this, callFunc_run (hS.ent f h.1)]
        congr 2
        simp [← Array.toList_inj]
    case builtin b =>
      have hex := builtin_exec (a := a) hop hc
      unfold lowBuiltin at hl
      cases b <;> simp only at hl <;> try (cases hl; done)
      case len =>
        unfold lowLen at hl
        obtain ⟨x, h1, hl⟩ := bind_some' hl
        obtain ⟨t, h2, hl⟩ := bind_some' hl
        obtain ⟨h3, hl⟩ := ok_true hl
        obtain ⟨x', h4, hl⟩ := bind_some' hl
        have hargs := one?_some h1
        have hts : c.argTypes = #[t] := by
          simp at h3
          apply Array.ext
          · simp [h3]
          · intro i hi1 hi2
            simp at hi2
            subst hi2
            rw [Array.getElem?_eq_getElem (by omega)] at h2
            injection h2 with h2
        rw [hargs, hts] at hex
        simp only [builtin, Array.map_singleton] at hex
        split at hl
        · rename_i e he
          injection hl with hl; subst hl
          simp only [aop] at h
          exact wp_gives hi hf (m := Builtin.len_ #[t] o.type #[a.eval x]) (by simpa using hex) (len_sound hi (sliceT_some he) (lowA_rep hf h4) h) k
        · obtain ⟨u, h5, hl⟩ := bind_some' hl
          injection hl with hl; subst hl
          simp only [aop] at h
          exact wp_gives hi hf (m := Builtin.len_ #[t] o.type #[a.eval x]) (by simpa using hex) (lenS_sound (stringT_some h5) (lowA_rep hf h4) h) k
      case append =>
        unfold lowApp at hl
        obtain ⟨xy, h1, hl⟩ := bind_some' hl
        obtain ⟨t, h2, hl⟩ := bind_some' hl
        obtain ⟨h3, hl⟩ := ok_true hl
        obtain ⟨e, h4, hl⟩ := bind_some' hl
        obtain ⟨sz, h5, hl⟩ := bind_some' hl
        obtain ⟨by_, h6, hl⟩ := bind_some' hl
        obtain ⟨z, h7, hl⟩ := bind_some' hl
        obtain ⟨h8, hl⟩ := ok_true hl
        obtain ⟨s', h9, hl⟩ := bind_some' hl
        obtain ⟨x', h10, hl⟩ := bind_some' hl
        injection hl with hl; subst hl
        simp only [aop] at h
        have hargs := two?_some h1
        have hts : c.argTypes = #[t, t] := by simpa using h3
        rw [hargs, hts] at hex
        simp at h8
        exact wp_givesM (m := Builtin.append_ #[t, t] o.type #[a.eval xy.1, a.eval xy.2]) (by simpa [builtin] using hex) (app_sound hi hf (sliceT_some h4) h5 h6 h7 h8.1 h8.2 (lowA_rep hf h9) (lowA_rep hf h10) h) k
      case max =>
        obtain ⟨xy, h1, hl⟩ := bind_some' hl
        obtain ⟨x', h2, hl⟩ := bind_some' hl
        obtain ⟨y', h3, hl⟩ := bind_some' hl
        injection hl with hl; subst hl
        simp only [aop] at h
        have hargs := two?_some h1
        rw [hargs] at hex
        exact wp_gives hi hf (m := Builtin.max_ c.argTypes o.type #[a.eval xy.1, a.eval xy.2]) (by simpa [builtin] using hex) (max_sound (lowA_rep hf h2) (lowA_rep hf h3) h _ _) k
      case min =>
        obtain ⟨xy, h1, hl⟩ := bind_some' hl
        obtain ⟨x', h2, hl⟩ := bind_some' hl
        obtain ⟨y', h3, hl⟩ := bind_some' hl
        injection hl with hl; subst hl
        simp only [aop] at h
        have hargs := two?_some h1
        rw [hargs] at hex
        exact wp_gives hi hf (m := Builtin.min_ c.argTypes o.type #[a.eval xy.1, a.eval xy.2]) (by simpa [builtin] using hex) (min_sound (lowA_rep hf h2) (lowA_rep hf h3) h _ _) k
  case makeMap t r =>
    unfold lowMkmap at hl
    obtain ⟨h0, hl⟩ := ok_true hl
    obtain ⟨ke, h1, hl⟩ := bind_some' hl
    obtain ⟨k0, h2, hl⟩ := bind_some' hl
    injection hl with hl; subst hl
    simp only [aop] at h
    have hr : r = none := by simpa using h0
    subst hr
    obtain ⟨g1, g2⟩ := inv_newM (k := k0) hi (w' := w.alloc (.map #[] 0)) rfl rfl rfl rfl
    refine upon_val (m := Instr.makeMap t none) (by simp only [execOp, hop]; rfl) (z := .map (some w.heap.size)) (w' := w.alloc (.map #[] 0)) (by simp [Instr.makeMap]) (k _ _ φ _ _ _ h (RepL.mono (Phi.le_refl _) g2.ids _ _ hf) g1 (g2.adv _) ?_)
    simp only [Rep, updB_same]
  case lookup t x y c =>
    unfold lowLkup at hl
    obtain ⟨x', h1, hl⟩ := bind_some' hl
    obtain ⟨y', h2, hl⟩ := bind_some' hl
    obtain ⟨h3, hl⟩ := ok_true hl
    obtain ⟨ke, h4, hl⟩ := bind_some' hl
    obtain ⟨k0, h5, hl⟩ := bind_some' hl
    obtain ⟨z, h6, hl⟩ := bind_some' hl
    injection hl with hl; subst hl
    simp only [aop] at h
    have hc : c = false := by simpa using h3
    subst hc
    exact wp_gives hi hf (m := Instr.lookup t (a.eval x) (a.eval y) false) (by simp only [execOp, hop]) (lkup_sound hi (mapT_some h4) (intT_some h5) h6 (lowA_rep hf h1) (lowA_rep hf h2) h) k
  case mapUpdate t x y z =>
    unfold lowMapup at hl
    obtain ⟨x', h1, hl⟩ := bind_some' hl
    obtain ⟨y', h2, hl⟩ := bind_some' hl
    obtain ⟨z', h3, hl⟩ := bind_some' hl
    obtain ⟨ke, h4, hl⟩ := bind_some' hl
    obtain ⟨k0, h5, hl⟩ := bind_some' hl
    injection hl with hl; subst hl
    simp only [aop] at h
    obtain ⟨w', s', e, g1, g2, g3, g4⟩ := mapup_sound (K := K) hi hf (mapT_some h4) (intT_some h5) (lowA_rep hf h1) (lowA_rep hf h2) (lowA_rep hf h3) h
    unfold Oper.wp
    have : (execOp a.eval o).run P w = .ok .skip w' := by
      simp only [execOp, hop, Sem.run_bind, e, Result.andThen_ok, Sem.run_pure]
    rw [this]
    exact k _ s' φ bl undef w' g4 g1 g2 (g3.adv _) (by simp [Rep, RepL, undef])
end Go.Avm
