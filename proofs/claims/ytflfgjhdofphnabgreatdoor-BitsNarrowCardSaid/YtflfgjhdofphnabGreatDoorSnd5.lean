/- The operations of the abstract machine are those of the model: stores, new memory, append. -/
import Derived.Test.YtflfgjhdofphnabGreatDoorSnd4
import Derived.Deep.AppendSrc
import Derived.Laws.IdiomCopy
set_option linter.unusedSimpArgs false
set_option linter.unusedVariables false
namespace Go.Avm
open Go
variable {P : Program} {G : Glob} {n0 : Nat} {φ : Phi} {bl : Nat → BL} {H : List AObj} {w : World}

theorem osl_rep (hi : Inv G φ bl H w) {i o len : Nat} {u : Value} (hr : Rep φ bl (.osl i o len) u) {t es l cs} (h : H[i]? = some (.arr t es l cs)) :
    (bl i = .nil ∧ cs = [] ∧ u = .slice none 0 0 ∧ len = 0 ∧ o = 0) ∨
    ∃ b n cur cap, bl i = .blk b n es ∧ u = .slice (some ⟨b, o, none⟩) len cap ∧ len ≤ cap ∧ cap ≤ maxLen ∧ o + cap * es ≤ n ∧ w.heap[b]? = some (.cells cur t (0, 0)) ∧ cur.size = n ∧ cs.length ≤ n ∧
      RepL φ bl cs (cur.toList.take cs.length) ∧ ∀ q, φ b q = if l = true ∧ q < cs.length then cur[q]? else none := by
  have ho := hi.obj i _ h
  simp only [ObjOK] at ho
  simp only [Rep] at hr
  rcases ho with ⟨h1, h2⟩ | ⟨b, n, cur, h1, h2, h3, h4, h5, h6⟩
  · simp [h1] at hr
    exact .inl ⟨h1, h2, hr.1, hr.2.1, hr.2.2⟩
  · simp [h1] at hr
    obtain ⟨cap, e, k1, k2, k3⟩ := hr
    refine .inr ⟨b, n, cur, cap, h1, e, k1, k2, k3, h2, h3, h4, ?_, h6⟩
    split at h5
    · exact h5.up
    · exact h5

theorem one_rep (hi : Inv G φ bl H w) {x : AV} {v : Value} (h : Rep φ bl x v) (h1 : OneC H x) : v.oneCell' = true ∧ v.cells = #[v] := by
  cases x <;> simp only [OneC] at h1
  case own i o =>
    obtain ⟨_, t, es, l, cs, ho⟩ := live h1
    obtain ⟨b, n, cur, _, rfl, _⟩ := own_rep hi h ho
    exact ⟨rfl, rfl⟩
  case osl i o len =>
    obtain ⟨_, t, es, l, cs, ho⟩ := live h1
    rcases osl_rep hi h ho with ⟨_, _, rfl, _⟩ | ⟨b, n, cur, cap, _, rfl, _⟩ <;> exact ⟨rfl, rfl⟩
  case raw u =>
    simp only [Rep] at h
    subst h
    refine ⟨h1, ?_⟩
    cases v <;> first | rfl | (simp [Value.oneCell'] at h1)
  case sl len cs =>
    simp only [Rep] at h
    rcases h with ⟨rfl, _⟩ | ⟨_, _, _, rfl, _⟩ <;> exact ⟨rfl, rfl⟩
  case ptr cs o =>
    simp only [Rep] at h
    obtain ⟨_, _, rfl, _⟩ := h
    exact ⟨rfl, rfl⟩
  case fn f cs =>
    simp only [Rep] at h
    obtain ⟨_, rfl, _⟩ := h
    exact ⟨rfl, rfl⟩
  all_goals
    simp only [Rep] at h
    subst h
    exact ⟨rfl, rfl⟩

theorem oneL_rep (hi : Inv G φ bl H w) : ∀ {cs : List AV} {vs : List Value}, RepL φ bl cs vs → OneL H cs → ∀ v ∈ vs, v.oneCell' = true
  | [], _, h, _, v, hv => by simp only [RepL] at h; subst h; cases hv
  | c :: cs, _, h, h1, v, hv => by
    simp only [RepL] at h
    obtain ⟨u, us, rfl, hr, hrest⟩ := h
    rcases List.mem_cons.1 hv with rfl | hv
    · exact (one_rep hi hr (h1 c (by simp))).1
    · exact oneL_rep hi hrest (fun x hx => h1 x (by simp [hx])) v hv

theorem cells_rep (hi : Inv G φ bl H w) {x : AV} {v : Value} (h : Rep φ bl x v) {sz : Nat} (hl : (cellsOf x).length = sz) (h0 : 0 < sz) (h1 : OneL H (cellsOf x)) : RepL φ bl (cellsOf x) v.cells.toList ∧ v.cells.size = sz := by
  by_cases ha : ∃ cs, x = .agg cs
  · obtain ⟨cs, rfl⟩ := ha
    simp only [Rep] at h
    obtain ⟨vs, rfl, hr⟩ := h
    simp only [cellsOf] at hl ⊢
    exact ⟨by simpa [Value.cells] using hr, by rw [← hl, hr.length]; simp [Value.cells]⟩
  · have hc : cellsOf x = [x] := by
      cases x <;> simp only [cellsOf, List.length_nil] at hl ⊢ <;> first | omega | (exact absurd ⟨_, rfl⟩ ha)
    rw [hc] at hl h1 ⊢
    have hv := (one_rep hi h (h1 x (by simp))).2
    refine ⟨?_, by rw [hv, ← hl]; rfl⟩
    rw [hv]
    simp only [RepL]
    exact ⟨v, [], rfl, h, rfl⟩

theorem putAt_length (l : List AV) : ∀ (cs : List AV) (o : Nat), (putAt cs o l).length = cs.length := by
  induction l with
  | nil => intro cs o; rfl
  | cons x xs ih => intro cs o; simp [putAt, ih]

/-- The cells of a row, some written. -/
theorem putAt_rep {l : List AV} {us : List Value} (hu : RepL φ bl l us) : ∀ {cs : List AV} {vs : List Value} {o : Nat}, RepL φ bl cs vs → o + l.length ≤ cs.length → RepL φ bl (putAt cs o l) (vs.take o ++ us ++ vs.drop (o + us.length)) := by
  induction l generalizing us with
  | nil =>
    intro cs vs o h hle
    simp only [RepL] at hu
    subst hu
    simpa [putAt] using h
  | cons x xs ih =>
    intro cs vs o h hle
    simp only [RepL] at hu
    obtain ⟨u, us', rfl, hr, hrest⟩ := hu
    have hl := h.length
    simp at hle
    have := ih hrest (h.set hr o) (o := o + 1) (by simp; omega)
    simp only [putAt]
    have e : (vs.set o u).take (o + 1) ++ us' ++ (vs.set o u).drop (o + 1 + us'.length) = vs.take o ++ (u :: us') ++ vs.drop (o + (u :: us').length) := by
      have h1 : (vs.set o u).take (o + 1) = vs.take o ++ [u] := by
        rw [List.take_succ_eq_append_getElem (by simp; omega)]
        simp [List.take_set_of_le]
      have h2 : (vs.set o u).drop (o + 1 + us'.length) = vs.drop (o + 1 + us'.length) := by
        apply List.ext_getElem?
        intro j
        rw [List.getElem?_drop, List.getElem?_drop, List.getElem?_set]
        rw [if_neg (by omega)]
      rw [h1, h2]
      simp [Nat.add_assoc, Nat.add_comm 1]
    rwa [e] at this

def GivesM (P : Program) (G : Glob) (n0 : Nat) (φ : Phi) (bl : Nat → BL) (w : World) (us : List Value) (m : Sem Value) (K : AV → St → Prop) : Prop :=
  ∃ r z w' φ' bl' s', m.run P w = .ok z w' ∧ Rep φ' bl' r z ∧ RepL φ' bl' s'.f us ∧ Inv G φ' bl' s'.H w' ∧ Adv n0 φ bl w φ' bl' w' ∧ K r s'

theorem Gives.toM {us : List Value} {m : Sem Value} {K : AV → St → Prop} {s : St} (hi : Inv G φ bl s.H w) (hf : RepL φ bl s.f us) (h : Gives P φ bl m w (K · s)) : GivesM P G n0 φ bl w us m K := by
  obtain ⟨r, z, h1, h2, h3⟩ := h
  exact ⟨r, z, w, φ, bl, s, h1, h2, hf, hi, Adv.refl n0 φ bl w, h3⟩

theorem store_sound {s : St} {us : List Value} (hi : Inv G φ bl s.H w) (hf : RepL φ bl s.f us) {x y : AV} {u v : Value} {sz : Nat} {t : TypeId} {K : AV → St → Prop} (hz : szOf P t = some sz)
    (hx : Rep φ bl x u) (hy : Rep φ bl y v) (h : storeP s.H sz x y fun H => K (.tup []) ⟨s.f, H⟩) :
    ∃ w' s', (Instr.storeAt t u v).run P w = .ok () w' ∧ RepL φ bl s'.f us ∧ Inv G φ bl s'.H w' ∧ Fr φ bl w φ bl w' ∧ K (.tup []) s' := by
  cases x <;> simp only [storeP] at h
  case own id o =>
    cases ho : s.H[id]? with
    | none => simp [List.getD_eq_getElem?_getD, ho, storeO] at h
    | some ob =>
      cases ob with
      | dead => simp [List.getD_eq_getElem?_getD, ho, storeO] at h
      | mp _ _ => simp [List.getD_eq_getElem?_getD, ho, storeO] at h
      | arr t' es l cs =>
        cases l with
        | true => simp [List.getD_eq_getElem?_getD, ho, storeO] at h
        | false =>
          simp [List.getD_eq_getElem?_getD, ho, storeO] at h
          obtain ⟨⟨h1, h2, h3, h4⟩, hK⟩ := h
          obtain ⟨b, n, cur, hb, rfl, hheap, hsz, hle, hrep, hphi⟩ := own_rep hi hx ho
          obtain ⟨hcr, hcs⟩ := cells_rep hi hy h1 h2 h4
          have hrun := run_storeCells_at P b o t' v.cells.toList 0 cur w hheap (by simp; omega) (oneL_rep hi hcr h4)
          simp only [Nat.add_zero] at hrun
          have hrun' : (Instr.storeAt t (.pointer (some ⟨b, o, none⟩)) v).run P w = .ok () (w.setRow b (cur.toList.take o ++ v.cells.toList ++ cur.toList.drop (o + v.cells.toList.length)).toArray) := by
            simp only [Instr.storeAt, Instr.sureAddr, storeVar, Sem.run_bind, Sem.run_pure, Result.andThen_ok, run_szOf hz]
            simp only [hcs, ne_eq, not_true_eq_false, if_false, Sem.run_bind, Sem.run_pure, Result.andThen_ok]
            exact hrun
          have hvl : v.cells.toList.length = sz := by simp [hcs]
          have hkeep := putAt_rep hcr hrep (o := o) (by omega)
          have hset := inv_set hi ho (cs' := putAt cs o (cellsOf y)) (cur' := (cur.toList.take o ++ v.cells.toList ++ cur.toList.drop (o + v.cells.toList.length)).toArray) hb hheap (by simp; omega) (by rw [putAt_length]; omega) (by
            rw [putAt_length]
            have e : (cur.toList.take o ++ v.cells.toList ++ cur.toList.drop (o + v.cells.toList.length)).take cs.length = (cur.toList.take cs.length).take o ++ v.cells.toList ++ (cur.toList.take cs.length).drop (o + v.cells.toList.length) := by
              rw [List.take_append, List.take_append, List.take_take, List.take_take, List.drop_take]
              have e1 : min cs.length o = o := by omega
              have e2 : min o cs.length = o := by omega
              rw [e1, e2, List.take_of_length_le (show v.cells.toList.length ≤ cs.length - (cur.toList.take o).length by simp; omega)]
              congr 2
              simp
              omega
            rw [List.toList_toArray, e]
            exact hkeep)
          exact ⟨_, ⟨s.f, s.H.set id (.arr t' es false (putAt cs o (cellsOf y)))⟩, hrun', hf, hset.1, hset.2, hK⟩

/-- What is made, is told. -/
theorem new_sound {s : St} {us : List Value} (hi : Inv G φ bl s.H w) (hf : RepL φ bl s.f us) {w' : World} {t es : TypeId} {cs : List AV} {cur : Array Value} (hh : w'.heap = w.heap.push (.cells cur t (0, 0))) (ho : w'.os = w.os) (ht : w'.tape = w.tape) (hou : w'.output = w.output)
    (hle : cs.length ≤ cur.size) (hr : RepL φ bl cs (cur.toList.take cs.length)) :
    ∃ bl', bl' s.H.length = .blk w.heap.size cur.size es ∧ RepL φ bl' s.f us ∧ Inv G φ bl' (s.H ++ [.arr t es false cs]) w' ∧ Fr φ bl w φ bl' w' := by
  have := inv_new (es := es) hi hh ho ht hou hle hr
  exact ⟨_, updB_same _ _ _, RepL.mono (Phi.le_refl _) this.2.ids _ _ hf, this.1, this.2⟩

theorem zero_rep {t : TypeId} {z : List AV} (h : zeroOf P t = some z) : ∃ v, (∀ w : World, (zeroValue t).run P w = .ok v w) ∧ (∃ i, P.info? t = some i ∧ i.zero = some v) ∧ ∀ φ bl, RepL φ bl z v.cells.toList := by
  unfold zeroOf at h
  cases hi : P.info? t with
  | none => simp [hi] at h
  | some i =>
    cases hz : i.zero with
    | none => simp [hi, hz] at h
    | some v =>
      simp [hi, hz] at h
      refine ⟨v, fun w => by simp [zeroValue, typeInfo, hi, hz], ⟨i, rfl, hz⟩, fun φ bl => ?_⟩
      subst h
      generalize v.cells.toList = l
      induction l with
      | nil => simp only [List.map_nil, RepL]
      | cons c cs ih =>
        simp only [List.map_cons, RepL]
        exact ⟨c, cs, rfl, constAV_rep φ bl c, ih⟩

theorem alloc_sound {s : St} {us : List Value} (hi : Inv G φ bl s.H w) (hf : RepL φ bl s.f us) {t : TypeId} {z : List AV} (hz : zeroOf P t = some z) {K : AV → St → Prop}
    (h : K (.own s.H.length 0) ⟨s.f, s.H ++ [.arr t z.length false z]⟩) : GivesM P G n0 φ bl w us (Instr.alloc t true (.tuple #[])) K := by
  obtain ⟨v, hv, _, hr⟩ := zero_rep hz
  have hl := (hr φ bl).length
  obtain ⟨bl', h1, h2, h3, h4⟩ := new_sound (s := s) (t := t) (es := z.length) (cs := z) (cur := v.cells) hi hf (w' := w.alloc (.cells v.cells t)) rfl rfl rfl rfl (by rw [hl]; simp) (by rw [hl, List.take_length]; exact hr φ bl)
  refine ⟨.own s.H.length 0, .pointer (some ⟨w.heap.size, 0, none⟩), _, φ, bl', ⟨s.f, s.H ++ [.arr t z.length false z]⟩, ?_, ?_, h2, h3, h4.adv n0, h⟩
  · simp [Instr.alloc, hv, newVar, newRow]
  · simp [Rep, h1]

theorem box_sound {s : St} {us : List Value} (hi : Inv G φ bl s.H w) (hf : RepL φ bl s.f us) {t sz : TypeId} {x : AV} {v : Value} {K : AV → St → Prop} (hx : Rep φ bl x v)
    (h : (((cellsOf x).length = sz ∧ 0 < sz ∧ OneL s.H (cellsOf x)) ∧ K (.own s.H.length 0) ⟨s.f, s.H ++ [.arr t sz false (cellsOf x)]⟩)) : GivesM P G n0 φ bl w us (Instr.box t v) K := by
  obtain ⟨⟨g1, g2, g3⟩, hK⟩ := h
  obtain ⟨hr, hs⟩ := cells_rep hi hx g1 g2 g3
  obtain ⟨bl', h1, h2, h3, h4⟩ := new_sound (s := s) (t := t) (es := sz) (cs := cellsOf x) (cur := v.cells) hi hf (w' := w.alloc (.cells v.cells t)) rfl rfl rfl rfl (by omega) (by rw [hr.length, List.take_length]; exact hr)
  refine ⟨.own s.H.length 0, .pointer (some ⟨w.heap.size, 0, none⟩), _, φ, bl', ⟨s.f, s.H ++ [.arr t sz false (cellsOf x)]⟩, ?_, ?_, h2, h3, h4.adv n0, hK⟩
  · simp [Instr.box, newVar, newRow]
  · simp [Rep, h1]

end Go.Avm
