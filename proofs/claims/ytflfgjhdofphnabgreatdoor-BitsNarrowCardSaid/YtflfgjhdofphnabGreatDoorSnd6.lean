/- The operations of the abstract machine are those of the model: literals, make, append. -/
import Derived.Test.YtflfgjhdofphnabGreatDoorSnd5
set_option linter.unusedSimpArgs false
set_option linter.unusedVariables false
namespace Go.Avm
open Go
variable {P : Program} {G : Glob} {n0 : Nat} {φ : Phi} {bl : Nat → BL} {H : List AObj} {w : World}

theorem foldl_set (off : Nat) : ∀ (l : List Value) (k : Nat) (cells : Array Value), off + k + l.length ≤ cells.size →
    ((l.zipIdx k).foldl (fun cs (p : Value × Nat) => cs.setIfInBounds (off + p.2) p.1) cells).toList = cells.toList.take (off + k) ++ l ++ cells.toList.drop (off + k + l.length)
  | [], k, cells, _ => by simp
  | v :: rest, k, cells, h => by
    simp only [List.zipIdx_cons, List.foldl_cons]
    rw [foldl_set off rest (k + 1) (cells.setIfInBounds (off + k) v) (by simp at h ⊢; omega)]
    have e := list_seg_step cells.toList (off + k) v rest (by simp at h ⊢; omega)
    simpa [Array.toList_setIfInBounds, Nat.add_assoc] using e

theorem fill_one (off : Nat) (v : Value) (cells : Array Value) (h : off + v.cells.size ≤ cells.size) :
    (v.cells.zipIdx.foldl (fun cs (p : Value × Nat) => cs.setIfInBounds (off + p.2) p.1) cells).toList = cells.toList.take off ++ v.cells.toList ++ cells.toList.drop (off + v.cells.toList.length) := by
  rw [← Array.foldl_toList, Array.toList_zipIdx]
  simpa using foldl_set off v.cells.toList 0 cells (by simpa using h)

theorem fill_rep (hi : Inv G φ bl H w) {f : List AV} {a : Act} (hf : RepL φ bl f a.tmps.toList) (place : Nat → Option (Nat × Nat)) : ∀ (parts : List (Nat × Operand)) (ps : List (Nat × Nat × IA)),
    (parts.mapM fun (p : Nat × Operand) => (place p.1).bind fun q => (lowA p.2).map fun x => (q.1, q.2, x)) = some ps → ∀ (cells : Array Value) (zs : List AV), RepL φ bl zs cells.toList → fillOk H zs.length (evP f ps) →
    ∃ cells', Instr.fill place cells (parts.map fun p => (p.1, a.eval p.2)) = some cells' ∧ cells'.size = cells.size ∧ RepL φ bl (fillP zs (evP f ps)) cells'.toList
  | [], ps, h, cells, zs, hr, _ => by
    simp at h
    subst h
    exact ⟨cells, by simp [Instr.fill], rfl, by simpa [evP, fillP] using hr⟩
  | p :: parts, ps, h, cells, zs, hr, hok => by
    simp only [List.mapM_cons] at h
    cases hp : place p.1 with
    | none => simp [hp] at h
    | some q =>
      cases hx : lowA p.2 with
      | none => simp [hp, hx] at h
      | some x =>
        cases hrest : (parts.mapM fun (p : Nat × Operand) => (place p.1).bind fun q => (lowA p.2).map fun x => (q.1, q.2, x)) with
        | none => simp [hp, hx, hrest] at h
        | some ps' =>
          simp [hp, hx, hrest] at h
          subst h
          simp only [evP, List.map_cons, fillOk] at hok
          obtain ⟨⟨h1, h2, h3, h4⟩, hok'⟩ := hok
          have hv := lowA_rep hf hx
          obtain ⟨hcr, hcs⟩ := cells_rep hi hv h1 h2 h4
          have hl := hr.length
          simp at hl
          have hone := fill_one q.1 (a.eval p.2) cells (by omega)
          have hput := putAt_rep hcr hr (o := q.1) (by omega)
          rw [← hone] at hput
          obtain ⟨cells', e1, e2, e3⟩ := fill_rep hi hf place parts ps' hrest _ _ hput (by rw [putAt_length]; exact hok')
          refine ⟨cells', ?_, ?_, ?_⟩
          · simp only [List.map_cons, Instr.fill, hp]
            rw [if_neg (by simp [hcs]; omega)]
            exact e1
          · rw [e2, ← Array.length_toList, hone]
            simp
            omega
          · simpa [evP, fillP] using e3

theorem reps_succ (n : Nat) (z : List AV) : reps (n + 1) z = z ++ reps n z := by simp [reps, List.replicate_succ]
theorem reps_length (n : Nat) (z : List AV) : (reps n z).length = n * z.length := by
  induction n with
  | zero => simp [reps]
  | succ n ih => rw [reps_succ, List.length_append, ih, Nat.succ_mul, Nat.add_comm]
theorem reps_get (z : List AV) : ∀ (n i : Nat), i < n * z.length → (reps n z)[i]? = z[i % z.length]?
  | 0, i, h => by omega
  | n + 1, i, h => by
    rw [reps_succ]
    rcases Nat.lt_or_ge i z.length with hi | hi
    · rw [List.getElem?_append_left hi, Nat.mod_eq_of_lt hi]
    · rw [List.getElem?_append_right hi, reps_get z n (i - z.length) (by rw [Nat.succ_mul] at h; omega), Nat.mod_eq_sub_mod hi]

theorem made_rep {z : List AV} {zc : Array Value} (hz : RepL φ bl z zc.toList) (n m : Nat) (hnm : n ≤ m) : RepL φ bl (reps n z) ((madeCells zc (m * z.length)).toList.take (n * z.length)) := by
  have hl := hz.length
  simp at hl
  refine RepL.iff.2 ⟨?_, fun i c v hc hv => ?_⟩
  · rw [reps_length]
    simp [madeCells]
    rw [Nat.min_eq_left hnm]
  · have hi : i < n * z.length := by
      rcases Nat.lt_or_ge i (n * z.length) with h | h
      · exact h
      · rw [List.getElem?_eq_none (by rw [reps_length]; exact h)] at hc; cases hc
    rw [reps_get z n i hi] at hc
    have h0 : 0 < z.length := by
      rcases Nat.eq_zero_or_pos z.length with h | h
      · rw [h] at hi; omega
      · exact h
    have hm : i % z.length < zc.size := by rw [← hl]; exact Nat.mod_lt _ h0
    have him : i < m * z.length := Nat.lt_of_lt_of_le hi (Nat.mul_le_mul_right _ hnm)
    rw [List.getElem?_take, if_pos hi] at hv
    simp [madeCells, him] at hv
    have hv' : zc[i % z.length]? = some v := by
      rw [← hv, ← hl, getElem!_pos zc _ hm]
      exact Array.getElem?_eq_getElem hm
    exact (RepL.iff.1 hz).2 (i % z.length) c v hc (by simpa using hv')

theorem mk_sound {s : St} {us : List Value} (hi : Inv G φ bl s.H w) (hf : RepL φ bl s.f us) {t e : TypeId} {sz bytes : Nat} {z : List AV} (ht : P.underlying t = some (.slice e)) (hsz : szOf P e = some sz) (hby : bytesOf P e = some bytes) (hz : zeroOf P e = some z)
    (hb0 : bytes ≠ 0) (hzl : z.length = sz) {x y : AV} {u v : Value} {K : AV → St → Prop} (hx : Rep φ bl x u) (hy : Rep φ bl y v) (h : mkP s e sz bytes z x y K) : GivesM P G n0 φ bl w us (Instr.makeSlice t u v) K := by
  cases x <;> cases y <;> simp only [mkP] at h
  rename_i k nl k' nc
  obtain ⟨⟨h0, h1, h2⟩, hK⟩ := h
  simp only [Rep] at hx hy
  subst hx hy
  obtain ⟨zv, _, ⟨i, hie, hiz⟩, hzr⟩ := zero_rep hz
  have hisz : i.size = sz := by simpa [szOf, hie] using hsz
  have hiby : i.bytes = bytes := by simpa [bytesOf, hie] using hby
  have hle : nc ≤ nc * bytes := by
    have : (1 : Int) ≤ bytes := by omega
    have h3 := Int.mul_le_mul_of_nonneg_left this (show 0 ≤ nc by omega)
    simpa using h3
  have hrun := run_make w t e i zv ht hie hiz k k' nl nc h0 h1 (by rw [hiby, Int.mul_comm]; omega) (by omega)
  rw [hisz] at hrun
  have hm := made_rep (hzr φ bl) nl.toNat nc.toNat (by omega)
  rw [hzl] at hm
  obtain ⟨bl', g1, g2, g3, g4⟩ := new_sound (s := s) (t := e) (es := sz) (cs := reps nl.toNat z) (cur := madeCells zv.cells (nc.toNat * sz)) hi hf (w' := w.alloc (.cells (madeCells zv.cells (nc.toNat * sz)) e)) rfl rfl rfl rfl (by rw [reps_length, hzl, size_madeCells]; exact Nat.mul_le_mul_right _ (by omega)) (by rw [reps_length, hzl]; exact hm)
  refine ⟨.osl s.H.length 0 nl.toNat, .slice (some ⟨w.heap.size, 0, none⟩) nl.toNat nc.toNat, _, φ, bl', ⟨s.f, s.H ++ [.arr e sz false (reps nl.toNat z)]⟩, hrun, ?_, g2, g3, g4.adv n0, hK⟩
  simp only [Rep, g1]
  exact ⟨nc.toNat, rfl, by omega, by unfold maxLen; omega, by rw [size_madeCells]; omega⟩


/-! ### Append -/
/-- What is appended, as the model reads it. -/
theorem src_sound (hi : Inv G φ bl H w) {e' tx : TypeId} (hk : P.underlying tx = some (.slice e')) {sz : Nat} {x : AV} {u : Value} {K : Nat → List AV → Prop} (hx : Rep φ bl x u) (h : srcP H sz x K) :
    ∃ m src news, K m src ∧ RepL φ bl src news ∧ (OneL H src → Src P sz tx u m news w) := by
  cases x <;> simp only [srcP] at h
  case nils =>
    simp only [Rep] at hx
    subst hx
    exact ⟨0, [], [], h, by simp only [RepL], fun _ => Src.ofNil w hk 0⟩
  case sl len cs =>
    simp only [Rep] at hx
    obtain ⟨hl, hK⟩ := h
    rcases hx with ⟨rfl, rfl, rfl⟩ | ⟨b, o, cap, rfl, h1, h2, hr⟩
    · exact ⟨0, [], [], hK, by simp only [RepL], fun _ => Src.ofNil w hk 0⟩
    · obtain ⟨vs, hv, hf⟩ := hr.vals
      refine ⟨len, cs, vs, hK, hv.up, fun h1 => Src.ofSlice w hk ⟨b, o, none⟩ len cap vs (by rw [← hv.length, hl]) (fun j v hj => ?_) (oneL_rep hi (bl := bl) hv.up h1)⟩
      rw [addr_add]
      exact hi.fr _ _ _ (hf j v hj)
  case osl id off len =>
    cases ho : H[id]? with
    | none => simp [List.getD_eq_getElem?_getD, ho, srcO] at h
    | some ob =>
      cases ob with
      | dead => simp [List.getD_eq_getElem?_getD, ho, srcO] at h
      | mp _ _ => simp [List.getD_eq_getElem?_getD, ho, srcO] at h
      | arr t' es l cs =>
        simp [List.getD_eq_getElem?_getD, ho, srcO] at h
        obtain ⟨hle, hK⟩ := h
        rcases osl_rep hi hx ho with ⟨_, rfl, rfl, rfl, rfl⟩ | ⟨b, n, cur, cap, hb, rfl, h1, h2, h3, hheap, hcs, hcl, hrep, _⟩
        · exact ⟨0, _, [], hK, by simp [RepL], fun _ => Src.ofNil w hk 0⟩
        · have hsub : RepL φ bl ((cs.drop off).take (len * sz)) (((cur.toList.take cs.length).drop off).take (len * sz)) := (hrep.drop off).take _
          refine ⟨len, _, _, hK, hsub, fun h1 => Src.ofSlice w hk ⟨b, off, none⟩ len cap _ (by rw [← hsub.length]; simp; omega) (fun j v hj => ?_) (oneL_rep hi hsub h1)⟩
          rw [addr_add, cell_of_row w b _ cur t' (0, 0) hheap]
          rw [List.getElem?_take] at hj
          split at hj
          · rw [List.getElem?_drop, List.getElem?_take] at hj
            split at hj
            · simpa using hj
            · simp at hj
          · simp at hj

theorem setCells_nil (w : World) (b o : Nat) : w.setCells b o [] = w := by simp [World.setCells]

theorem setCells_row {b o : Nat} {t : TypeId} {vs : List Value} {cur : Array Value} (hh : w.heap[b]? = some (.cells cur t (0, 0))) (hl : o + vs.length ≤ cur.size) (h1 : ∀ v ∈ vs, v.oneCell' = true) :
    w.setCells b o vs = w.setRow b (cur.toList.take o ++ vs ++ cur.toList.drop (o + vs.length)).toArray := by
  have e1 := run_storeCells_at (default : Program) b o t vs 0 cur w hh (by simpa using hl) h1
  have e2 := run_storeCells_cells (P := (default : Program)) b o vs 0 w (fun j hj => by
    rw [Nat.add_zero, cell_of_row w b _ cur t (0, 0) hh]
    simp
    omega) (fun j hj => frozen_of_row w b _ cur t hh) h1
  rw [e1] at e2
  simp only [Nat.add_zero] at e2
  injection e2 with _ e2
  exact e2.symm

end Go.Avm
