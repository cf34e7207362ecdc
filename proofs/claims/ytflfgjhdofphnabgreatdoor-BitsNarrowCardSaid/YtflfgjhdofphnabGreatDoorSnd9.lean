/- What the abstract machine owes, the model keeps: whole functions. -/
import Derived.Test.YtflfgjhdofphnabGreatDoorDr3
import Derived.Deep.LoopGhost
set_option linter.unusedSimpArgs false
set_option linter.unusedVariables false
namespace Go.Avm
open Go
variable {P : Program} {G : Glob} {φ : Phi} {bl : Nat → BL} {w : World}

theorem put_rep {f : List AV} {a : Act} (hf : RepL φ bl f a.tmps.toList) {x : AV} {v : Value} (hx : Rep φ bl x v) (d : Option Nat) : RepL φ bl (put f d x) (a.put d v).tmps.toList := by
  cases d with
  | none => exact hf
  | some d =>
    simp only [put, Act.put, Array.toList_setIfInBounds]
    exact hf.set hx d

theorem put_defers (a : Act) (d : Option Nat) (v : Value) : (a.put d v).defers = a.defers := by cases d <;> rfl

theorem undef_rep : Rep φ bl (.tup []) undef := by simp [Rep, RepL, undef]

theorem guard_rep {f : List AV} {a : Act} (hf : RepL φ bl f a.tmps.toList) {ops : Array Oper} {j t : Nat} (ht : (ops[j]?).bind (·.dst) = some t) {b : Bool} {A B : Prop} (h : wantB b (f.getD t .junk) A B) :
    (yielded ops a.tmps j = some b ∧ A) ∨ ((yielded ops a.tmps j == some b) = false ∧ B) := by
  by_cases hl : t < f.length
  · obtain ⟨v, hv, hr⟩ := hf.get hl
    have hv' : a.tmps[t]? = some v := by simpa using hv
    generalize f.getD t .junk = x at h hr
    cases x <;> simp only [wantB] at h
    case bool tb =>
      simp only [Rep] at hr
      subst hr
      have hy : yielded ops a.tmps j = some tb := by simp [yielded, ht, hv']
      obtain ⟨h1, h2⟩ := h
      rw [hy]
      by_cases e : tb = b
      · subst e; exact .inl ⟨rfl, h1 (by simp)⟩
      · refine .inr ⟨by simp [e], h2 (by simp [e])⟩
    case tup vs =>
      cases vs with
      | nil =>
        simp only at h
        simp only [Rep, RepL] at hr
        obtain ⟨us, rfl, rfl⟩ := hr
        have hy : yielded ops a.tmps j = none := by simp [yielded, ht, hv']
        rw [hy]
        exact .inr ⟨rfl, h⟩
      | cons c cs => simp at h
  · rw [show f.getD t .junk = .junk from by simp [List.getD_eq_getElem?_getD, List.getElem?_eq_none (Nat.le_of_not_lt hl)]] at h
    simp only [wantB] at h

theorem aops_sound {C : Ctx} (hS : Sound P G C) {ops : Array Oper} {Kn : St → Prop} {Q : Exit → Act → World → Prop} {φ0 : Phi} {bl0 : Nat → BL} {w0 : World} (hn : ∀ j, C.n0 ≤ j → bl0 j = .unused)
    (hK : ∀ s φ bl a w, Kn s → Rel G φ bl s a w → Fr φ0 bl0 w0 φ bl w → Q .normal a w) :
    ∀ (l : List Oper) (os : List IStep), l.mapM (lowOper P ops) = some os → ∀ (s : St) (φ : Phi) (bl : Nat → BL) (a : Act) (w : World), aops C Kn os s → Rel G φ bl s a w → Fr φ0 bl0 w0 φ bl w → wpList P ops Q l a w
  | [], os, hl, s, φ, bl, a, w, h, hr, hfr => by
    simp at hl
    subst hl
    exact hK s φ bl a w h hr hfr
  | o :: l, os, hl, s, φ, bl, a, w, h, hr, hfr => by
    simp only [List.mapM_cons] at hl
    cases ho : lowOper P ops o with
    | none => simp [ho] at hl
    | some io =>
      cases hrest : l.mapM (lowOper P ops) with
      | none => simp [ho, hrest] at hl
      | some os' =>
        simp [ho, hrest] at hl
        subst hl
        unfold lowOper at ho
        obtain ⟨op, h1, ho⟩ := bind_some' ho
        have run : aop C op s (fun x s' => aops C Kn os' ⟨put s'.f o.dst x, s'.H⟩) → o.wp P a w (wpList P ops Q l) Q := by
          intro hop
          refine aop_sound hS h1 hr.inv hr.f hop ?_
          intro x s' φ' bl' v w' hk hf' hi' hadv hx
          exact aops_sound hS hn hK l os' hrest ⟨put s'.f o.dst x, s'.H⟩ φ' bl' (a.put o.dst v) w' hk ⟨put_rep hf' hx o.dst, (put_defers a o.dst v).trans hr.d, hi'⟩ (hadv φ0 bl0 w0 hn hfr)
        cases hg : o.guard with
        | none =>
          rw [hg] at ho
          injection ho with ho
          subst ho
          simp only [aops] at h
          unfold wpList
          rw [if_pos (by simp [Region.wanted, hg])]
          exact .inl (run h)
        | some gb =>
          obtain ⟨j, b⟩ := gb
          rw [hg] at ho
          obtain ⟨t, ht, ho⟩ := bind_some' ho
          injection ho with ho
          subst ho
          simp only [aops] at h
          unfold wpList
          rcases guard_rep hr.f ht h with ⟨hy, h⟩ | ⟨hy, h⟩
          · rw [if_pos (by simp [Region.wanted, hg, hy])]
            exact .inl (run h)
          · rw [if_neg (by simp only [Region.wanted, hg]; rw [hy]; simp)]
            exact aops_sound hS hn hK l os' hrest ⟨put s.f o.dst (.tup []), s.H⟩ φ bl (a.put o.dst undef) w h ⟨put_rep hr.f undef_rep o.dst, (put_defers a o.dst undef).trans hr.d, hr.inv⟩ hfr

/-! ### Regions whose order is drawn -/
theorem Sound.reg {C : Ctx} (hS : Sound P G C) : Reg C := ⟨hS.mono, hS.pcf⟩

theorem fop_aop {C : Ctx} (hS : Sound P G C) {o : IOp} {s : St} {Φ : AV → Prop} (h : fop C o s.f Φ) (h2 : ∀ t sz len zero parts, o ≠ .bslice t sz len zero parts) : aop C o s fun x s' => s' = s ∧ Φ x := by
  by_cases hc : ∃ g args, o = .call g args
  · obtain ⟨g, args, rfl⟩ := hc
    simp only [fop] at h
    obtain ⟨hz, v, hv, hp⟩ := h
    simp only [aop]
    exact ⟨s, _, rfl, hS.ghr _, hS.mono _ _ _ _ _ (fun x H' ⟨e1, e2⟩ => by subst e1 e2; exact ⟨rfl, hp⟩) (hS.pc _ _ _ hv hz s.H)⟩
  · by_cases hv : ∃ g args, o = .callv g args
    · obtain ⟨g, args, rfl⟩ := hv
      simp only [fop] at h
      simp only [aop]
      generalize ev s.f g = q at h
      cases q <;> simp only [fcallvP] at h
      rename_i g' cap
      obtain ⟨⟨he, hz, hzc⟩, v, hv, hp⟩ := h
      exact ⟨he, s, _, rfl, hS.ghr _, hS.mono _ _ _ _ _ (fun x H' ⟨e1, e2⟩ => by subst e1 e2; exact ⟨rfl, hp⟩) (hS.pc _ _ _ hv (frzL_append.2 ⟨hz, hzc⟩) s.H)⟩
    have h3 := fop_rop h (fun g args e => hc ⟨g, args, e⟩) h2 (fun g args e => hv ⟨g, args, e⟩) s.H
    refine rop_aop ?_
    have : (fun x => s = s ∧ Φ x) = Φ := by funext x; simp
    show rop o s.f s.H (fun x => s = s ∧ Φ x)
    rw [this]
    exact h3

theorem bslice_run {t : TypeId} {len : Nat} {parts : Array (Nat × Operand)} {e sz : TypeId} {z : List AV} {ps : List (Nat × Nat × IA)} {H : List AObj} {f : List AV} {a : Act} (hi : Inv G φ bl H w) (hf : RepL φ bl f a.tmps.toList)
    (h1 : sliceT P t = some e) (h2 : szOf P e = some sz) (h3 : zeroOf P e = some z) (h4 : (z.length == sz && decide (len * sz ≤ 16777216) && decide (len ≤ 16777216)) = true) (h5 : lowParts (fun i => some (i * sz, sz)) parts = some ps)
    (hok : fillOk H (len * sz) (evP f ps)) : ∃ cells' : Array Value, (Instr.buildSlice t len (parts.map fun p => (p.1, a.eval p.2))).run P w = .ok (.slice (some ⟨w.heap.size, 0, none⟩) len len) (w.alloc (.cells cells' e)) ∧
      RepL φ bl (fillP (reps len z) (evP f ps)) cells'.toList ∧ len ≤ maxLen := by
  simp only [Bool.and_eq_true, beq_iff_eq, decide_eq_true_eq] at h4
  obtain ⟨⟨h6, h7⟩, h8⟩ := h4
  obtain ⟨zv, hzrun, ⟨i, hie, hiz⟩, hzr⟩ := zero_rep h3
  have hm := made_rep (hzr φ bl) len len (Nat.le_refl _)
  rw [h6] at hm
  have hml : (madeCells zv.cells (len * sz)).toList.take (len * sz) = (madeCells zv.cells (len * sz)).toList := List.take_of_length_le (by simp [madeCells])
  rw [hml] at hm
  obtain ⟨cells', g1, g2, g3⟩ := fill_rep hi hf (fun i => some (i * sz, sz)) parts.toList ps h5 (madeCells zv.cells (len * sz)) (reps len z) hm (by rw [reps_length, h6]; exact hok)
  refine ⟨cells', ?_, g3, by unfold maxLen; omega⟩
  have hfill : Instr.fill (fun i => some (i * sz, sz)) (madeCells zv.cells (len * sz)) (parts.map fun p => (p.1, a.eval p.2)).toList = some cells' := by
    rw [Array.toList_map]; exact g1
  unfold Instr.buildSlice
  simp only [Sem.run_bind, run_underlying (sliceT_some h1), Result.andThen_ok, run_szOf h2]
  rw [if_neg (by omega)]
  by_cases h0 : len * sz = 0
  · have hmk : madeCells zv.cells (len * sz) = #[] := by rw [h0]; simp [madeCells, Array.range_zero']
    have g1' := g1
    rw [hmk] at g1'
    simp [h0, newRow, Array.range_zero', g1']
  · have hmk : (Array.range (len * sz)).map (zv.cells[· % zv.cells.size]!) = madeCells zv.cells (len * sz) := rfl
    simp only [h0, if_false, Sem.run_bind, hzrun, Result.andThen_ok, Sem.run_pure, hmk, hfill]
    simp [newRow]

theorem low_bs {op : Op} {t sz len : Nat} {z : List AV} {ps : List (Nat × Nat × IA)} (h : lowOp P op = some (.bslice t sz len z ps)) : ∃ t l ps, op = .buildSlice t l ps := by
  cases op <;> simp only [lowOp] at h <;> try (cases h; done)
  case buildSlice t l ps => exact ⟨_, _, _, rfl⟩
  case binOp op t x y yt =>
    unfold lowBin at h
    cases op <;> simp only [lowEq] at h <;> (repeat' split at h) <;> (try (simp [Option.bind_eq_some_iff] at h; done))
  case unOp u t x => unfold lowUn at h; cases u <;> simp [Option.bind_eq_some_iff] at h
  case convert s d x => unfold lowConv at h; simp only [Option.bind_eq_bind, Option.bind_eq_some_iff] at h; obtain ⟨x', _, h⟩ := h; split at h <;> simp [Option.bind_eq_some_iff] at h
  case fieldAddr s x i => unfold lowFld at h; simp [Option.bind_eq_some_iff] at h
  case indexAddr s x i => unfold lowIdx at h; simp only [Option.bind_eq_bind, Option.bind_eq_some_iff] at h; obtain ⟨x', _, y', _, h⟩ := h; split at h <;> simp [Option.bind_eq_some_iff] at h
  case load s x => unfold lowLoad at h; simp only [Option.bind_eq_bind, Option.bind_eq_some_iff] at h; obtain ⟨x', _, y', _, h⟩ := h; split at h <;> simp [Option.bind_eq_some_iff] at h
  case slice s x lo hi mx => unfold lowSlice at h; simp only [Option.bind_eq_bind, Option.bind_eq_some_iff] at h; obtain ⟨x', _, y', _, z', _, q', _, h⟩ := h; split at h <;> simp [Option.bind_eq_some_iff] at h
  case build s ps => unfold lowBuild at h; simp [Option.bind_eq_some_iff] at h
  case makeSlice s l c => unfold lowMake at h; simp [Option.bind_eq_some_iff] at h
  case makeMap s r => unfold lowMkmap at h; simp [Option.bind_eq_some_iff] at h
  case lookup s x k c => unfold lowLkup at h; simp [Option.bind_eq_some_iff] at h
  case mapUpdate s x k c => unfold lowMapup at h; simp [Option.bind_eq_some_iff] at h
  case makeFunc fn a b => unfold lowFn at h; cases fn <;> simp [Option.bind_eq_some_iff] at h
  case call c =>
    unfold lowCall at h
    split at h
    · rename_i b _
      unfold lowBuiltin at h
      cases b <;> simp only at h <;> try (cases h; done)
      · unfold lowApp at h; simp [Option.bind_eq_some_iff] at h
      · unfold lowLen at h; simp only [Option.bind_eq_bind, Option.bind_eq_some_iff] at h; obtain ⟨x', _, y', _, z', _, q', _, h⟩ := h; split at h <;> simp [Option.bind_eq_some_iff] at h
      · simp [Option.bind_eq_some_iff] at h
      · simp [Option.bind_eq_some_iff] at h
    · unfold lowCallee at h
      split at h <;> simp [Option.bind_eq_some_iff] at h
    · cases h
  all_goals (simp [Option.bind_eq_some_iff] at h)

set_option maxHeartbeats 2000000 in
theorem fop_sound {C : Ctx} (hS : Sound P G C) {o : Oper} {io : IOp} (hl : lowOp P o.op = some io) {s : St} {Φ : AV → Prop} {a : Act} {next : Act → World → Prop} {Q : Exit → Act → World → Prop}
    (hi : Inv G φ bl s.H w) (hf : RepL φ bl s.f a.tmps.toList) (h : fop C io s.f Φ) (k : Then G C.n0 φ bl w (fun x s' => s' = s ∧ Φ x) a o next) : o.wp P a w next Q := by
  by_cases hb : ∃ t sz len zero parts, io = .bslice t sz len zero parts
  · obtain ⟨t0, sz0, len0, zero0, ps0, rfl⟩ := hb
    obtain ⟨t, len, parts, hop⟩ := low_bs hl
    rw [hop] at hl
    simp only [lowOp, lowBslice] at hl
    obtain ⟨e, h1, hl⟩ := bind_some' hl
    obtain ⟨sz, h2, hl⟩ := bind_some' hl
    obtain ⟨z, h3, hl⟩ := bind_some' hl
    obtain ⟨h4, hl⟩ := ok_true hl
    obtain ⟨ps, h5, hl⟩ := bind_some' hl
    injection hl with hl
    injection hl with l1 l2 l3 l4 l5
    subst l1 l2 l3 l4 l5
    simp only [fop] at h
    obtain ⟨⟨z1, z2⟩, hok, hK⟩ := h
    obtain ⟨cells', hrun, g3, hmax⟩ := bslice_run hi hf h1 h2 h3 h4 h5 (fillOk_ext (Ext.nil s.H) hok)
    have hlen := g3.length
    obtain ⟨φ', k1, k2, k3⟩ := inv_frz_new (t := e) (cs := fillP (reps len z) (evP s.f ps)) (cur := cells') hi (w' := w.alloc (.cells cells' e)) rfl rfl rfl rfl (by rw [hlen]; simp) (frz_fill (frz_reps z1 _) z2) (by rw [hlen, List.take_length]; exact g3)
    have hrep : Rep φ' bl (.sl len (fillP (reps len z) (evP s.f ps))) (.slice (some ⟨w.heap.size, 0, none⟩) len len) := by
      simp only [Rep]
      exact .inr ⟨w.heap.size, 0, len, rfl, Nat.le_refl _, hmax, k3⟩
    have hnext := k _ s φ' bl _ (w.alloc (.cells cells' e)) ⟨rfl, hK⟩ (RepL.mono k2.phi (BLle.refl _) _ _ hf) k1 (k2.adv _) hrep
    exact upon_val (m := Instr.buildSlice t len (parts.map fun p => (p.1, a.eval p.2))) (by simp only [execOp, hop]) hrun hnext
  · exact aop_sound hS hl hi hf (fop_aop hS h (fun t sz len zero parts e => hb ⟨t, sz, len, zero, parts, e⟩)) k

theorem dst1_sound {C : Ctx} (hS : Sound P G C) {ops : Array Oper} {Q : Exit → Act → World → Prop} {φ0 : Phi} {bl0 : Nat → BL} {w0 : World} (hn : ∀ j, C.n0 ≤ j → bl0 j = .unused) {i : Nat} {o : Oper} (hio : ops[i]? = some o) {io : IStep} (hl : lowOper P ops o = some io)
    {c : Nat} {s : St} {K : St → Prop} {a : Act} {next : Act → World → Prop} (h : dst1 C c io s K) (hr : Rel G φ bl s a w) (hfr : Fr φ0 bl0 w0 φ bl w) (k : ∀ s φ bl a w, K s → Rel G φ bl s a w → Fr φ0 bl0 w0 φ bl w → next a w) : wpOp P ops Q i next a w := by
  unfold lowOper at hl
  obtain ⟨op, h1, hl⟩ := bind_some' hl
  have run : ex1 C c op s.f s.H (fun x k H => K ⟨put (killF k s.f) o.dst x, H⟩) → o.wp P a w next Q := by
    intro hx
    have fin : ∀ (x : AV) (s' : St) (φ' : Phi) (bl' : Nat → BL) (v : Value) (w' : World), K ⟨put s'.f o.dst x, s'.H⟩ → RepL φ' bl' s'.f a.tmps.toList → Inv G φ' bl' s'.H w' → Adv C.n0 φ bl w φ' bl' w' → Rep φ' bl' x v → next (a.put o.dst v) w' := by
      intro x s' φ' bl' v w' hk hf' hi' hadv hx
      exact k ⟨put s'.f o.dst x, s'.H⟩ φ' bl' _ _ hk ⟨put_rep hf' hx o.dst, (put_defers a o.dst v).trans hr.d, hi'⟩ (hadv φ0 bl0 w0 hn hfr)
    match c with
    | 0 =>
      rw [ex1_0] at hx
      refine fop_sound hS h1 hr.inv hr.f hx ?_
      rintro x s' φ' bl' v w' ⟨rfl, hk⟩ hf' hi' hadv hxr
      exact fin x s' φ' bl' v w' hk hf' hi' hadv hxr
    | 1 =>
      rw [ex1_1] at hx
      exact aop_sound hS h1 hr.inv hr.f (K := fun x s' => K ⟨put s'.f o.dst x, s'.H⟩) (rop_aop hx) (fun x s' φ' bl' v w' hk hf' hi' hadv hxr => fin x s' φ' bl' v w' hk hf' hi' hadv hxr)
    | c + 2 =>
      exact aop_sound hS h1 hr.inv hr.f (K := fun x s' => K ⟨put s'.f o.dst x, s'.H⟩) (wop_aop hS.ghr hx) (fun x s' φ' bl' v w' hk hf' hi' hadv hxr => fin x s' φ' bl' v w' hk hf' hi' hadv hxr)
  unfold wpOp
  simp only [hio]
  cases hg : o.guard with
  | none =>
    rw [hg] at hl
    injection hl with hl
    subst hl
    simp only [dst1] at h
    rw [if_pos (by simp [Region.wanted, hg])]
    exact .inl (run h)
  | some gb =>
    obtain ⟨j, b⟩ := gb
    rw [hg] at hl
    obtain ⟨t, ht, hl⟩ := bind_some' hl
    injection hl with hl
    subst hl
    simp only [dst1] at h
    rcases guard_rep hr.f ht h with ⟨hy, h⟩ | ⟨hy, h⟩
    · rw [if_pos (by simp [Region.wanted, hg, hy])]
      exact .inl (run h)
    · rw [if_neg (by simp only [Region.wanted, hg]; rw [hy]; simp)]
      exact k ⟨put s.f o.dst (.tup []), s.H⟩ φ bl _ _ h ⟨put_rep hr.f undef_rep o.dst, (put_defers a o.dst undef).trans hr.d, hr.inv⟩ hfr

theorem mapM_get {α β : Type} {f : α → Option β} : ∀ {l : List α} {m : List β}, l.mapM f = some m → ∀ (i : Nat) a, l[i]? = some a → ∃ b, m[i]? = some b ∧ f a = some b
  | [], _, _, i, a, hi => by simp at hi
  | x :: l, m, h, i, a, hi => by
    simp only [List.mapM_cons] at h
    cases hx : f x with
    | none => simp [hx] at h
    | some y =>
      cases hl : l.mapM f with
      | none => simp [hx, hl] at h
      | some ys =>
        simp [hx, hl] at h
        subst h
        cases i with
        | zero => simp at hi; subst hi; exact ⟨y, rfl, hx⟩
        | succ i => exact mapM_get hl i a (by simpa using hi)

theorem mapM_length {α β : Type} {f : α → Option β} : ∀ {l : List α} {m : List β}, l.mapM f = some m → m.length = l.length
  | [], _, h => by simp at h; subst h; rfl
  | x :: l, m, h => by
    simp only [List.mapM_cons] at h
    cases hx : f x with
    | none => simp [hx] at h
    | some y =>
      cases hl : l.mapM f with
      | none => simp [hx, hl] at h
      | some ys =>
        simp [hx, hl] at h
        subst h
        simp [mapM_length hl]

theorem dany_sound {C : Ctx} (hS : Sound P G C) {ops : Array Oper} {os : List IStep} (hos : ops.toList.mapM (lowOper P ops) = some os) {cl : List Nat} {K : St → Prop} {Q : Exit → Act → World → Prop} {φ0 : Phi} {bl0 : Nat → BL} {w0 : World} (hn : ∀ j, C.n0 ≤ j → bl0 j = .unused)
    (hK : ∀ s φ bl a w, K s → Rel G φ bl s a w → Fr φ0 bl0 w0 φ bl w → Q .normal a w) :
    ∀ (n : Nat) (L : Array Bool) (s : St) (φ : Phi) (bl : Nat → BL) (a : Act) (w : World), dany C K os cl ops n L s → Rel G φ bl s a w → Fr φ0 bl0 w0 φ bl w → wpAny P .any ops Q n L a w
  | 0, L, s, φ, bl, a, w, h, hr, hfr => ⟨h.1, hK s φ bl a w h.2 hr hfr⟩
  | n + 1, L, s, φ, bl, a, w, h, hr, hfr => by
    refine ⟨fun e => hK s φ bl a w (h.1 e) hr hfr, fun i hi => ?_⟩
    have hlt := ready_lt hi
    have hio := Array.getElem?_eq_getElem hlt
    obtain ⟨io, h1, h2⟩ := mapM_get hos i _ (by rw [Array.getElem?_toList]; exact hio)
    have h3 := h.2 i hi
    have h4 : os.getD i default = io := by rw [List.getD_eq_getElem?_getD, h1]; rfl
    rw [h4] at h3
    exact dst1_sound hS hn hio h2 h3 hr hfr fun s φ bl a w hk hr hfr => dany_sound hS hos hn hK n _ s φ bl a w hk hr hfr

theorem ancs_some {β : Type} : ∀ {es acc : List (List Nat)} {k : List (List Nat) → Option β} {y : β}, ancs es acc k = some y → ∃ an, k an = some y
  | [], acc, k, y, h => ⟨acc, h⟩
  | e :: es, acc, k, y, h => by
    simp only [ancs, frcL_eq] at h
    exact ancs_some h

theorem draw_sound {C : Ctx} (hS : Sound P G C) {id : Nat} {ops : Array Oper} {os : List IStep} (hos : ops.toList.mapM (lowOper P ops) = some os) {ic : IC} {ks : List Nat} (hic : drawIC (edgesOf ops) ks os = some ic) {K : Ex → St → Prop} {Q : Exit → Act → World → Prop} {φ0 : Phi} {bl0 : Nat → BL} {w0 : World} (hn : ∀ j, C.n0 ≤ j → bl0 j = .unused)
    (hK : ∀ s φ bl a w, K .normal s → Rel G φ bl s a w → Fr φ0 bl0 w0 φ bl w → Q .normal a w) {s : St} {a : Act} (h : awp C ic K s) (hr : Rel G φ bl s a w) (hfr : Fr φ0 bl0 w0 φ bl w) : (Code.region id ops true).wp P Q a w := by
  unfold drawIC at hic
  rw [frcLL_eq, frcL_eq] at hic
  obtain ⟨an, hic⟩ := ancs_some hic
  rw [frcL_eq, frcI_eq, frcL_eq] at hic
  generalize hcl : classes an ks = cl at hic
  generalize hod : canon (edgesOf ops) cl (List.range os.length) os.length [] = od at hic
  have h1 : chkDraw (edgesOf ops) an ((List.range os.length).map (infOf os cl)) os.length od = true := by
    cases hb : chkDraw (edgesOf ops) an ((List.range os.length).map (infOf os cl)) os.length od with
    | true => rfl
    | false => rw [hb] at hic; cases hic
  rw [h1] at hic
  injection hic with hic
  subst hic
  simp only [chkDraw, Bool.and_eq_true] at h1
  obtain ⟨⟨⟨c1, c3⟩, c5⟩, c6⟩ := h1
  have c1 := Nat.eq_of_beq_eq_true c1
  have c3 := Nat.eq_of_beq_eq_true c3
  have hlen := mapM_length hos
  simp only [Array.length_toList] at hlen
  refine wp_region_any hS.fol ?_
  have hr' : Rel G φ bl s a { w with drawn := w.drawn + 1 } := ⟨hr.f, hr.d, ⟨hr.inv.glo, hr.inv.gsz, hr.inv.gow, hr.inv.fr, fun id o ho => ObjOK.mono (Phi.le_refl _) (BLle.refl _) rfl (fun _ _ _ _ => ⟨rfl, rfl⟩) (hr.inv.obj id o ho), hr.inv.inj, hr.inv.out⟩⟩
  have hfr' : Fr φ0 bl0 w0 φ bl { w with drawn := w.drawn + 1 } := ⟨hfr.os, hfr.tape, hfr.output, hfr.size, hfr.old, hfr.own, hfr.phi, hfr.ids⟩
  refine dany_sound hS hos (cl := cl) hn hK _ _ s φ bl a _ ?_ hr' hfr'
  simp only [awp] at h
  have hsz : ∀ j, j < ops.size → (Array.replicate ops.size false).getD j true = false := fun j hj => by simp [hj]
  have := dany_told (K := K .normal) (ops := ops) hS.reg c1 c5 _ [] (Array.replicate ops.size false) s ⟨by simp, fun j hj => by rw [hsz j hj]; simp⟩
    ⟨by simp, fun j o ho hj => by
      rw [hsz j (Array.getElem?_eq_some_iff.1 ho).1] at hj; cases hj⟩ (by simpa using c3) (by simp) (by simp) c6 h
  rw [c3, hlen] at this
  exact this

/-- What stands behind a piece of code. -/
def QE (G : Glob) (φ0 : Phi) (bl0 : Nat → BL) (w0 : World) (K : Ex → St → Prop) : Exit → Act → World → Prop
  | .normal, a, w => ∃ s φ bl, K .normal s ∧ Rel G φ bl s a w ∧ Fr φ0 bl0 w0 φ bl w
  | .exit i, a, w => ∃ s φ bl, K (.exit i) s ∧ Rel G φ bl s a w ∧ Fr φ0 bl0 w0 φ bl w
  | .ret, a, w => ∃ s φ bl, K .ret s ∧ Rel G φ bl s a w ∧ Fr φ0 bl0 w0 φ bl w
  | _, _, _ => False

theorem cond_rep {x : AV} {v : Value} {A B : Prop} (hx : Rep φ bl x v) (h : condP x A B) : ∃ t, v = .bool t ∧ (t = true → A) ∧ (t = false → B) := by
  cases x <;> simp only [condP] at h
  simp only [Rep] at hx
  exact ⟨_, hx, h.1, h.2⟩

theorem gh_rel {n0 : Nat} {s s' : St} (h : Gh G n0 s s') {a : Act} {φ0 : Phi} {bl0 : Nat → BL} {w0 : World} (hn : ∀ j, n0 ≤ j → bl0 j = .unused) (hr : Rel G φ bl s a w) (hf : Fr φ0 bl0 w0 φ bl w) :
    ∃ φ' bl', Rel G φ' bl' s' a w ∧ Fr φ0 bl0 w0 φ' bl' w := by
  obtain ⟨φ', bl', h1, h2, h3⟩ := h φ bl a.tmps.toList w hr.inv hr.f
  exact ⟨φ', bl', ⟨h2, hr.d, h1⟩, h3 φ0 bl0 w0 hn hf⟩

theorem awp_sound {C : Ctx} (hS : Sound P G C) {φ0 : Phi} {bl0 : Nat → BL} {w0 : World} (hn : ∀ j, C.n0 ≤ j → bl0 j = .unused) :
    ∀ (c : Code) (ic : IC), lower P c = some ic → ∀ (K : Ex → St → Prop) (s : St) (φ : Phi) (bl : Nat → BL) (a : Act) (w : World), awp C ic K s → Rel G φ bl s a w → Fr φ0 bl0 w0 φ bl w → c.wp P (QE G φ0 bl0 w0 K) a w := by
  intro c
  induction c with
  | skip =>
    intro ic hl K s φ bl a w h hr hf
    simp only [lower] at hl
    injection hl with hl; subst hl
    exact wp_skip ⟨s, φ, bl, h, hr, hf⟩
  | region id ops draw =>
    intro ic hl K s φ bl a w h hr hf
    simp only [lower] at hl
    obtain ⟨os, h1, hl⟩ := bind_some' hl
    cases draw with
    | true => 
      simp only [if_true] at hl
      exact draw_sound hS h1 hl hn (fun s φ bl a w hk hr hf => ⟨s, φ, bl, hk, hr, hf⟩) h hr hf
    | false =>
      simp only [Bool.false_eq_true, if_false] at hl
      injection hl with hl; subst hl
      exact wp_region_list (aops_sound hS hn (fun s φ bl a w hk hr hf => ⟨s, φ, bl, hk, hr, hf⟩) ops.toList os h1 s φ bl a w h hr hf)
  | seq x y ihx ihy =>
    intro ic hl K s φ bl a w h hr hf
    simp only [lower] at hl
    obtain ⟨x', h1, hl⟩ := bind_some' hl
    obtain ⟨y', h2, hl⟩ := bind_some' hl
    injection hl with hl; subst hl
    refine wp_seq (wp_mono (ihx x' h1 _ s φ bl a w h hr hf) ?_)
    rintro e a' w' hq
    cases e with
    | normal =>
      obtain ⟨s', φ', bl', hk, hr', hf'⟩ := hq
      exact ihy y' h2 K s' φ' bl' a' w' hk hr' hf'
    | exit i => exact hq
    | ret => exact hq
    | goto l => exact hq.elim
    | panic ch => exact hq.elim
    | outgrown => exact hq.elim
  | cond c x y ihx ihy =>
    intro ic hl K s φ bl a w h hr hf
    simp only [lower] at hl
    obtain ⟨c', h0, hl⟩ := bind_some' hl
    obtain ⟨x', h1, hl⟩ := bind_some' hl
    obtain ⟨y', h2, hl⟩ := bind_some' hl
    injection hl with hl; subst hl
    obtain ⟨t, ht, hA, hB⟩ := cond_rep (lowA_rep hr.f h0) h
    exact wp_cond_split ht (fun e => ihx x' h1 K s φ bl a w (hA e) hr hf) (fun e => ihy y' h2 K s φ bl a w (hB e) hr hf)
  | block id b ih =>
    intro ic hl K s φ bl a w h hr hf
    simp only [lower] at hl
    obtain ⟨b', h1, hl⟩ := bind_some' hl
    injection hl with hl; subst hl
    refine wp_block (wp_mono (ih b' h1 _ s φ bl a w h hr hf) ?_)
    rintro e a' w' hq
    cases e with
    | normal => exact hq
    | exit i =>
      obtain ⟨s', φ', bl', hk, hr', hf'⟩ := hq
      simp only [exBlock] at hk
      simp only [Exit.inBlock]
      by_cases e : i = id
      · rw [if_pos e] at hk ⊢
        exact ⟨s', φ', bl', hk, hr', hf'⟩
      · rw [if_neg e] at hk ⊢
        exact ⟨s', φ', bl', hk, hr', hf'⟩
    | ret => exact hq
    | goto l => exact hq.elim
    | panic ch => exact hq.elim
    | outgrown => exact hq.elim
  | loop b ih =>
    intro ic hl K s φ bl a w h hr hf
    simp only [lower] at hl
    obtain ⟨b', h1, hl⟩ := bind_some' hl
    injection hl with hl; subst hl
    obtain ⟨I, n, s0, hg, hI, hround⟩ := h
    obtain ⟨φ', bl', hr', hf'⟩ := gh_rel (hS.gh _ _ hg) hn hr hf
    refine wp_loop_ghost (fun n a w => ∃ s φ bl, I n s ∧ Rel G φ bl s a w ∧ Fr φ0 bl0 w0 φ bl w) n ⟨s0, φ', bl', hI, hr', hf'⟩ ?_
    rintro n a w ⟨s, φ, bl, hI, hr, hf⟩
    refine wp_mono (ih b' h1 _ s φ bl a w (hround n s hI) hr hf) ?_
    rintro e a' w' hq
    cases e with
    | normal =>
      obtain ⟨s', φ', bl', hk, hr', hf'⟩ := hq
      obtain ⟨s1, m, hg, hm, hI'⟩ := hk
      obtain ⟨φ1, bl1, hr1, hf1⟩ := gh_rel (hS.gh _ _ hg) hn hr' hf'
      exact ⟨m, hm, s1, φ1, bl1, hI', hr1, hf1⟩
    | exit i => exact hq
    | ret => exact hq
    | goto l => exact hq.elim
    | panic ch => exact hq.elim
    | outgrown => exact hq.elim
  | exit i =>
    intro ic hl K s φ bl a w h hr hf
    simp only [lower] at hl
    injection hl with hl; subst hl
    exact wp_exit ⟨s, φ, bl, h, hr, hf⟩
  | ret =>
    intro ic hl K s φ bl a w h hr hf
    simp only [lower] at hl
    injection hl with hl; subst hl
    exact wp_ret ⟨s, φ, bl, h, hr, hf⟩
  | rangeFunc => intro ic hl; simp [lower] at hl
  | scope => intro ic hl; simp [lower] at hl
  | label => intro ic hl; simp [lower] at hl
  | goto => intro ic hl; simp [lower] at hl
  | refuse => intro ic hl; simp [lower] at hl

end Go.Avm
