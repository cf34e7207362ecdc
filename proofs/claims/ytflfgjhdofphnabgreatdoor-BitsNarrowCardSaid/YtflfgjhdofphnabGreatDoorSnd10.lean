/- Contracts: out of a walk; used in another; what may be told otherwise. -/
import Derived.Test.YtflfgjhdofphnabGreatDoorSnd9
set_option linter.unusedSimpArgs false
set_option linter.unusedVariables false
namespace Go.Avm
open Go
variable {P : Program} {G : Glob} {φ : Phi} {bl : Nat → BL} {w : World}

/-! ### Functions that only compute -/
def PC (P : Program) (G : Glob) (f : FuncId) (args : List AV) (R : AV → Prop) : Prop := AC P G f args [] fun x _ => Frz x ∧ R x

theorem PC.at_ {f : FuncId} {args : List AV} {R : AV → Prop} (h : PC P G f args R) (hz : FrzL args) (H : List AObj) : AC P G f args H fun x H' => H' = H ∧ Frz x ∧ R x := by
  intro φ bl w vs hi hr
  have hi0 : Inv G φ nob [] w := ⟨hi.glo, hi.gsz, fun _ _ _ _ h => (by cases h), hi.fr, fun _ _ h => (by simp at h), fun _ _ _ _ _ _ _ h => (by cases h), fun _ _ => rfl⟩
  refine (h φ nob w vs hi0 (RepL.frz _ _ hz hr)).mono ?_
  rintro e w' ⟨v, φ', bl1, x, H1, rfl, ⟨hfz, hR⟩, hi1, hx, hfr⟩
  have hold : ∀ b, b < w.heap.size → w'.heap[b]? = w.heap[b]? ∧ φ' b = φ b := fun b hb => hfr.old b hb (fun _ _ _ h => (by cases h))
  refine ⟨v, φ', bl, x, H, rfl, ⟨rfl, hfz, hR⟩, ⟨hi1.glo, hi1.gsz, hi.gow, hi1.fr, fun id o ho => ?_, hi.inj, hi.out⟩, (Rep.frz _ _ hfz hx).up, ⟨hfr.os, hfr.tape, hfr.output, hfr.size, fun b hb _ => hold b hb, fun id b n es hb => .inr ⟨n, es, hb⟩, hfr.phi, BLle.refl _⟩⟩
  exact (hi.obj id o ho).mono hfr.phi (BLle.refl _) rfl (fun b n es hb => hold b (inv_lt hi hb))

theorem PC.mono {f : FuncId} {args : List AV} {R R' : AV → Prop} (h : PC P G f args R) (k : ∀ x, R x → R' x) : PC P G f args R' := AC.mono h fun x _ ⟨h1, h2⟩ => ⟨h1, k x h2⟩

/-- It returns just this. -/
def PE (P : Program) (G : Glob) (f : FuncId) (args : List AV) (v : AV) : Prop := Frz v ∧ PC P G f args fun x => x = v

def ctx (P : Program) (G : Glob) (n0 : Nat) : Ctx := { call := AC P G, n0 := n0, ent := Ent P, gh := Gh G n0, pc := PE P G }
theorem ctx_sound (P : Program) (G : Glob) (n0 : Nat) (hm : P.follows .mixedOrders = true) : Sound P G (ctx P G n0) :=
  ⟨fun _ _ _ _ h => h, fun _ h => h, fun _ _ h => h, fun s => Gh.refl G n0 s, fun _ _ _ _ _ k h => AC.mono h k, fun _ _ _ h => h.1, fun _ _ _ h hz H => AC.mono (h.2.at_ hz H) fun _ _ ⟨e, _, e2⟩ => ⟨e, e2⟩, hm⟩

def lowRes (P : Program) (r : ResultVar) : Option IR := match r with
  | .tmp t => some (.t t)
  | .cell a t => do
    let b ← isAggT P t
    if b = true then do
      let sz ← szOf P t
      pure (.c a (some sz))
    else pure (.c a none)

structure IF where
  body : IC
  res : List IR
  n : Nat

def lowF (P : Program) (f : FuncId) : Option IF := do
  let fn ← P.funcs[f]?
  let c ← fn.body
  let ic ← lower P c
  let rs ← fn.results.toList.mapM (lowRes P)
  pure ⟨ic, rs, fn.ntmps⟩

def initF (args : List AV) (n : Nat) : List AV := args ++ List.replicate (n - args.length) (.tup [])

def resOne (tmps : Array Value) : ResultVar → Sem Value
  | .tmp t => pure (tmps.getD t undef)
  | .cell b t => do loadVar t (← asAddr (tmps.getD b undef))

theorem res1_sound {a : Act} {s : St} (hi : Inv G φ bl s.H w) (hf : RepL φ bl s.f a.tmps.toList) {r : ResultVar} {r' : IR} (hl : lowRes P r = some r') {K : AV → Prop} (h : resP1 s r' K) :
    Gives P φ bl (resOne a.tmps r) w K := by
  cases r with
  | tmp t =>
    simp only [lowRes] at hl
    injection hl with hl; subst hl
    have := lowA_rep hf (x := .tmp t) (ia := .t t) rfl
    exact ⟨_, _, rfl, this, h⟩
  | cell b t =>
    simp only [lowRes] at hl
    obtain ⟨g, h1, hl⟩ := bind_some' hl
    have hx := lowA_rep hf (x := .tmp b) (ia := .t b) rfl
    have key : ∀ q, (match q with | none => isAggT P t = some false | some m => isAggT P t = some true ∧ szOf P t = some m) → loadP s.H q (s.f.getD b .junk) K →
        Gives P φ bl (do loadVar t (← asAddr (a.tmps.getD b undef))) w K := by
      intro q hq hp
      obtain ⟨r, z, h2, h3, h4⟩ := load_sound hi hq hx hp
      refine ⟨r, z, ?_, h3, h4⟩
      rw [← h2]
      simp only [Act.eval, Instr.loadAt, ev] at hp hx ⊢
      generalize a.tmps.getD b undef = v at hx
      generalize s.f.getD b .junk = x at hp hx
      cases x <;> simp only [loadP] at hp
      case ptr cs o =>
        simp only [Rep] at hx
        obtain ⟨b', o', rfl, _⟩ := hx
        simp [asAddr, Instr.sureAddr]
      case own i o =>
        cases ho : s.H[i]? with
        | none => simp [List.getD_eq_getElem?_getD, ho, loadO] at hp
        | some ob =>
          cases ob with
          | dead => simp [List.getD_eq_getElem?_getD, ho, loadO] at hp
          | mp _ _ => simp [List.getD_eq_getElem?_getD, ho, loadO] at hp
          | arr t' es l cs =>
            obtain ⟨b', n, cur, hb, rfl, _⟩ := own_rep hi hx ho
            simp [asAddr, Instr.sureAddr]
    cases g with
    | true =>
      simp only [if_true] at hl
      obtain ⟨sz, h2, hl⟩ := bind_some' hl
      injection hl with hl; subst hl
      exact key (some sz) ⟨h1, h2⟩ h
    | false =>
      simp only [Bool.false_eq_true, if_false] at hl
      injection hl with hl; subst hl
      exact key none h1 h

theorem res_sound {a : Act} {s : St} (hi : Inv G φ bl s.H w) (hf : RepL φ bl s.f a.tmps.toList) : ∀ (rs : List ResultVar) (rs' : List IR), rs.mapM (lowRes P) = some rs' → ∀ (K : List AV → Prop), resP s rs' K →
    ∃ xs vs, (rs.mapM (resOne a.tmps)).run P w = .ok vs w ∧ RepL φ bl xs vs ∧ K xs
  | [], rs', hl, K, h => by
    simp at hl
    subst hl
    exact ⟨[], [], by simp, by simp only [RepL], h⟩
  | r :: rs, rs', hl, K, h => by
    simp only [List.mapM_cons] at hl
    cases hr : lowRes P r with
    | none => simp [hr] at hl
    | some r' =>
      cases hrest : rs.mapM (lowRes P) with
      | none => simp [hr, hrest] at hl
      | some rs'' =>
        simp [hr, hrest] at hl
        subst hl
        simp only [resP] at h
        obtain ⟨x, v, h1, h2, h3⟩ := res1_sound hi hf hr h
        obtain ⟨xs, vs, h4, h5, h6⟩ := res_sound hi hf rs rs'' hrest _ h3
        refine ⟨x :: xs, v :: vs, ?_, ?_, h6⟩
        · simp only [List.mapM_cons, Sem.run_bind, h1, Result.andThen_ok, h4, Sem.run_pure]
        · simp only [RepL]
          exact ⟨v, vs, rfl, h2, h5⟩

theorem results_run {fn : Func} {tmps : Array Value} {vs : List Value} (h : (fn.results.toList.mapM (resOne tmps)).run P w = .ok vs w) :
    (results fn tmps).run P w = .ok (if h : vs.toArray.size = 1 then vs.toArray[0] else .tuple vs.toArray) w := by
  have e : results fn tmps = (do let vs ← fn.results.mapM (resOne tmps); pure (if h : vs.size = 1 then vs[0] else .tuple vs)) := by
    unfold results
    congr 1
  rw [e, Array.mapM_eq_mapM_toList]
  simp only [Sem.run_bind, Sem.run_map, h, Result.andThen_ok, Sem.run_pure]

theorem tup_rep {xs : List AV} {vs : List Value} (h : RepL φ bl xs vs) : Rep φ bl (tupOf xs) (if h : vs.toArray.size = 1 then vs.toArray[0] else .tuple vs.toArray) := by
  have hl := h.length
  match xs, vs, h, hl with
  | [], [], h, _ => simp [tupOf, Rep, RepL]
  | [x], [v], h, _ =>
    simp only [RepL] at h
    obtain ⟨u, us, e, hr, _⟩ := h
    injection e with e1 e2
    subst e1
    simpa [tupOf] using hr
  | x :: y :: xs, u :: v :: vs, h, _ =>
    simp only [tupOf]
    rw [dif_neg (by simp)]
    simp only [Rep]
    exact ⟨_, rfl, h⟩

/-- A FUNCTION's CONTRACT, OUT OF A WALK. -/
theorem AC_of_awp {n0 : Nat} {f : FuncId} {F : IF} (hF : lowF P f = some F) {args : List AV} {H : List AObj} {R : AV → List AObj → Prop} (hn : H.length = n0)
    (hm : P.follows .mixedOrders = true) (h : awp (ctx P G n0) F.body (exRet (ctx P G n0) F.res R) ⟨initF args F.n, H⟩) : AC P G f args H R := by
  unfold lowF at hF
  obtain ⟨fn, h1, hF⟩ := bind_some' hF
  obtain ⟨c, h2, hF⟩ := bind_some' hF
  obtain ⟨ic, h3, hF⟩ := bind_some' hF
  obtain ⟨rs, h4, hF⟩ := bind_some' hF
  injection hF with hF
  subst hF
  intro φ bl w vs hi hr
  have hn' : ∀ j, (ctx P G n0).n0 ≤ j → bl j = .unused := fun j hj => hi.out j (by rw [hn]; exact hj)
  have hlen := hr.length
  have hrel : Rel G φ bl ⟨initF args fn.ntmps, H⟩ { tmps := vs.toArray ++ Array.replicate (fn.ntmps - vs.toArray.size) undef, defers := [] } w := by
    refine ⟨?_, rfl, hi⟩
    simp only [initF, Array.toList_append, List.toList_toArray, Array.toList_replicate, List.size_toArray]
    rw [hlen]
    refine hr.append ?_
    generalize fn.ntmps - vs.length = k
    induction k with
    | zero => simp [RepL]
    | succ k ih =>
      simp only [List.replicate_succ, RepL]
      exact ⟨_, _, rfl, undef_rep, ih⟩
  refine calls_of_wp h1 h2 (wp_mono (awp_sound (ctx_sound P G n0 hm) hn' c ic h3 _ _ φ bl _ w h hrel (Fr.refl φ bl w)) ?_)
  have key : ∀ (a : Act) (w' : World), (∃ s φ' bl', RetOK (ctx P G n0) rs R s ∧ Rel G φ' bl' s a w' ∧ Fr φ bl w φ' bl' w') → a.defers = [] ∧ ∃ v, (results fn a.tmps).run P w' = .ok v w' ∧
      ∃ v' φ' bl' x H', Ending.returned v = .returned v' ∧ R x H' ∧ Inv G φ' bl' H' w' ∧ Rep φ' bl' x v' ∧ Fr φ bl w φ' bl' w' := by
    rintro a w' ⟨s, φ', bl', ⟨s', hg, hres⟩, hr', hf'⟩
    obtain ⟨φ1, bl1, hr1, hf1⟩ := gh_rel hg hn' hr' hf'
    obtain ⟨xs, us, h5, h6, h7⟩ := res_sound hr1.inv hr1.f _ _ h4 _ hres
    exact ⟨hr1.d, _, results_run h5, _, φ1, bl1, tupOf xs, s'.H, rfl, h7, hr1.inv, tup_rep h6, hf1⟩
  intro e a w' hq
  cases e with
  | normal => exact key a w' hq
  | ret => exact key a w' hq
  | exit i =>
    obtain ⟨_, _, _, hk, _⟩ := hq
    exact hk.elim
  | goto l => exact hq.elim
  | panic ch => exact hq.elim
  | outgrown => exact hq.elim

/-- At a call. -/
theorem PC.call {n0 : Nat} {f : FuncId} {args : List AV} {R : AV → Prop} (h : PC P G f args R) (hz : FrzL args) {s : St} {K : AV → St → Prop} (k : ∀ x, Frz x → R x → K x s) : ACall (ctx P G n0) f args s K :=
  ⟨s, args, rfl, Gh.refl G n0 _, (h.at_ hz s.H).mono fun x H' ⟨e, h1, h2⟩ => by subst e; exact k x h1 h2⟩

theorem AC.call {n0 : Nat} {f : FuncId} {args : List AV} {s : St} {R : AV → List AObj → Prop} (h : AC P G f args s.H R) {K : AV → St → Prop} (k : ∀ x H', R x H' → K x ⟨s.f, H'⟩) : ACall (ctx P G n0) f args s K :=
  ⟨s, args, rfl, Gh.refl G n0 _, h.mono k⟩

theorem ACall.gh {n0 : Nat} {f : FuncId} {args args' : List AV} {s s' : St} {K : AV → St → Prop} (hl : s'.f.length = s.f.length) (hg : Gh G n0 ⟨s.f ++ args, s.H⟩ ⟨s'.f ++ args', s'.H⟩) (h : ACall (ctx P G n0) f args' s' K) : ACall (ctx P G n0) f args s K := by
  obtain ⟨s2, a2, h1, h2, h3⟩ := h
  exact ⟨s2, a2, h1.trans hl, hg.trans h2, h3⟩

/-- A function's contract out of a walk: it only computes. -/
theorem PC_of_awp {f : FuncId} {F : IF} (hF : lowF P f = some F) {args : List AV} {R : AV → Prop}
    (hm : P.follows .mixedOrders = true) (h : awp (ctx P G 0) F.body (exRet (ctx P G 0) F.res fun x _ => Frz x ∧ R x) ⟨initF args F.n, []⟩) : PC P G f args R := AC_of_awp hF rfl hm h

end Go.Avm
