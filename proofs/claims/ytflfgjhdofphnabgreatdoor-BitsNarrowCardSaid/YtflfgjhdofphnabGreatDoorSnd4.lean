/- The operations of the abstract machine are those of the model: what is kept where memory is made and written. -/
import Derived.Test.YtflfgjhdofphnabGreatDoorSnd3
set_option linter.unusedSimpArgs false
set_option linter.unusedVariables false
namespace Go.Avm
open Go
variable {P : Program} {G : Glob} {φ : Phi} {bl : Nat → BL} {H : List AObj} {w : World}

/-! ### Names fall away -/
mutual
theorem Rep.kill {φ φ' : Phi} {bl bl' : Nat → BL} {i : Nat} (hp : φ.le φ') (hb : ∀ j, j ≠ i → bl j = .unused ∨ bl' j = bl j) : ∀ (x : AV) (v : Value), Rep φ bl x v → Rep φ' bl' (kill i x) v
  | .int _ _, _, h => by simpa only [Avm.kill, Rep] using h
  | .bool _, _, h => by simpa only [Avm.kill, Rep] using h
  | .str _, _, h => by simpa only [Avm.kill, Rep] using h
  | .nilp, _, h => by simpa only [Avm.kill, Rep] using h
  | .nils, _, h => by simpa only [Avm.kill, Rep] using h
  | .raw _, _, h => by simpa only [Avm.kill, Rep] using h
  | .mref j, _, h => by
    simp only [Avm.kill]
    split
    · simp only [Rep]
    · rename_i hj
      simp only [Rep] at h ⊢
      rcases hb j hj with e | e
      · simp [e] at h
      · rw [e]; exact h
  | .junk, _, h => by simp only [Avm.kill, Rep]
  | .ptr cs _, _, h => by
    simp only [Avm.kill, Rep] at h ⊢
    obtain ⟨b, o, e, hr⟩ := h
    exact ⟨b, o, e, hr.mono hp⟩
  | .sl _ cs, _, h => by
    simp only [Avm.kill, Rep] at h ⊢
    rcases h with h | ⟨b, o, cap, e, h1, h2, hr⟩
    · exact .inl h
    · exact .inr ⟨b, o, cap, e, h1, h2, hr.mono hp⟩
  | .own j _, _, h => by
    simp only [Avm.kill]
    split
    · simp only [Rep]
    · rename_i hj
      simp only [Rep] at h ⊢
      rcases hb j hj with e | e
      · simp [e] at h
      · rw [e]; exact h
  | .osl j _ _, _, h => by
    simp only [Avm.kill]
    split
    · simp only [Rep]
    · rename_i hj
      simp only [Rep] at h ⊢
      rcases hb j hj with e | e
      · simp [e] at h
      · rw [e]; exact h
  | .agg cs, _, h => by
    simp only [Avm.kill, Rep] at h ⊢
    obtain ⟨vs, e, hr⟩ := h
    exact ⟨vs, e, RepL.kill hp hb cs vs hr⟩
  | .tup cs, _, h => by
    simp only [Avm.kill, Rep] at h ⊢
    obtain ⟨vs, e, hr⟩ := h
    exact ⟨vs, e, RepL.kill hp hb cs vs hr⟩
  | .fn _ cs, _, h => by
    simp only [Avm.kill, Rep] at h ⊢
    obtain ⟨vs, e, hr⟩ := h
    exact ⟨vs, e, RepL.kill hp hb cs vs hr⟩
theorem RepL.kill {φ φ' : Phi} {bl bl' : Nat → BL} {i : Nat} (hp : φ.le φ') (hb : ∀ j, j ≠ i → bl j = .unused ∨ bl' j = bl j) : ∀ (cs : List AV) (vs : List Value), RepL φ bl cs vs → RepL φ' bl' (killL i cs) vs
  | [], _, h => by simpa only [killL, RepL] using h
  | c :: cs, _, h => by
    simp only [killL, RepL] at h ⊢
    obtain ⟨u, us, e, hr, hrest⟩ := h
    exact ⟨u, us, e, Rep.kill hp hb c u hr, RepL.kill hp hb cs us hrest⟩
end

theorem killL_length (i : Nat) : ∀ cs : List AV, (killL i cs).length = cs.length
  | [] => rfl
  | c :: cs => by simp [killL, killL_length i cs]

mutual
theorem kill_frz (i : Nat) : ∀ x : AV, Frz x → kill i x = x
  | .int _ _, _ => rfl
  | .bool _, _ => rfl
  | .str _, _ => rfl
  | .nilp, _ => rfl
  | .ptr _ _, _ => rfl
  | .nils, _ => rfl
  | .sl _ _, _ => rfl
  | .own _ _, h => by simp only [Frz] at h
  | .osl _ _ _, h => by simp only [Frz] at h
  | .agg cs, h => by simp only [Frz] at h; simp only [kill, killL_frz i cs h]
  | .tup cs, h => by simp only [Frz] at h; simp only [kill, killL_frz i cs h]
  | .fn _ cs, h => by simp only [Frz] at h; simp only [kill, killL_frz i cs h]
  | .raw _, _ => rfl
  | .mref _, h => by simp only [Frz] at h
  | .junk, _ => rfl
theorem killL_frz (i : Nat) : ∀ cs : List AV, FrzL cs → killL i cs = cs
  | [], _ => rfl
  | c :: cs, h => by simp only [FrzL] at h; simp only [killL, kill_frz i c h.1, killL_frz i cs h.2]
end

/-! ### Where objects lie -/
def updB (bl : Nat → BL) (i : Nat) (b : BL) : Nat → BL := fun j => if j = i then b else bl j

theorem updB_same (bl : Nat → BL) (i : Nat) (b : BL) : updB bl i b i = b := by simp [updB]
theorem updB_other (bl : Nat → BL) {i j : Nat} (b : BL) (h : j ≠ i) : updB bl i b j = bl j := by simp [updB, h]

theorem inv_lt (hi : Inv G φ bl H w) {i b n es : Nat} (h : bl i = .blk b n es) : b < w.heap.size := by
  rcases Nat.lt_or_ge i H.length with hl | hl
  · have := hi.obj i _ (List.getElem?_eq_getElem hl)
    generalize H[i] = o at this
    cases o with
    | dead => simp [ObjOK, h] at this
    | mp k es =>
      simp only [ObjOK, h] at this
      obtain ⟨b', ents, clock, h1, h2, _⟩ := this
      injection h1 with h1; subst h1
      exact (Array.getElem?_eq_some_iff.1 h2).1
    | arr t es' l cs =>
      simp only [ObjOK, h] at this
      rcases this with ⟨h1, _⟩ | ⟨b', n', cur, h1, h2, _⟩
      · cases h1
      · injection h1 with h1; subst h1
        exact (Array.getElem?_eq_some_iff.1 h2).1
  · rw [hi.out i hl] at h; cases h

theorem phi_lt (hi : Inv G φ bl H w) {b o : Nat} {u : Value} (h : φ b o = some u) : b < w.heap.size := by
  have := hi.fr b o u h
  exact World.block_lt_of_cell? w _ this

theorem RepM.mono {φ φ' : Phi} (hp : φ.le φ') {k : IntKind} : ∀ {cs : List (Int × AV)} {es : List MapEntry}, RepM φ k cs es → RepM φ' k cs es
  | [], _, h => by simpa only [RepM] using h
  | c :: cs, _, h => by
    simp only [RepM] at h ⊢
    obtain ⟨e, es', h1, h2, h3, h4⟩ := h
    exact ⟨e, es', h1, h2, Rep.mono hp (BLle.refl _) _ _ h3, RepM.mono hp h4⟩

theorem ObjOK.mono {φ φ' : Phi} {bl bl' : Nat → BL} {w w' : World} {id : Nat} {o : AObj} (hp : φ.le φ') (hb : BLle bl bl') (hid : bl' id = bl id)
    (hw : ∀ b n es, bl id = .blk b n es → w'.heap[b]? = w.heap[b]? ∧ φ' b = φ b) (h : ObjOK φ bl w id o) : ObjOK φ' bl' w' id o := by
  cases o with
  | dead => simp only [ObjOK] at h ⊢; rw [hid, h]
  | mp k es =>
    simp only [ObjOK] at h ⊢
    obtain ⟨b, ents, clock, h1, h2, h3, h4⟩ := h
    obtain ⟨e1, e2⟩ := hw b 0 0 h1
    exact ⟨b, ents, clock, hid.trans h1, e1.trans h2, RepM.mono hp h3, fun o => by rw [e2]; exact h4 o⟩
  | arr t es l cs =>
    simp only [ObjOK] at h ⊢
    rcases h with ⟨h1, h2⟩ | ⟨b, n, cur, h1, h2, h3, h4, h5, h6⟩
    · exact .inl ⟨hid.trans h1, h2⟩
    · obtain ⟨e1, e2⟩ := hw b n es h1
      refine .inr ⟨b, n, cur, hid.trans h1, e1.trans h2, h3, h4, ?_, fun q => by rw [e2]; exact h6 q⟩
      split at h5
      · rename_i hl; simp only [hl, if_true]; exact RepL.mono hp (BLle.refl _) _ _ h5
      · rename_i hl; simp only [hl, if_false]; exact RepL.mono hp hb _ _ h5

/-- A new block of the call's own. -/
theorem inv_new (hi : Inv G φ bl H w) {w' : World} {t es : TypeId} {cs : List AV} {cur : Array Value} (hh : w'.heap = w.heap.push (.cells cur t (0, 0))) (ho : w'.os = w.os) (ht : w'.tape = w.tape) (hou : w'.output = w.output)
    (hle : cs.length ≤ cur.size) (hr : RepL φ bl cs (cur.toList.take cs.length)) :
    Inv G φ (updB bl H.length (.blk w.heap.size cur.size es)) (H ++ [.arr t es false cs]) w' ∧ Fr φ bl w φ (updB bl H.length (.blk w.heap.size cur.size es)) w' := by
  have hun := hi.out H.length (Nat.le_refl _)
  have hbl : BLle bl (updB bl H.length (.blk w.heap.size cur.size es)) := fun j => by
    by_cases e : j = H.length
    · subst e; exact .inl hun
    · exact .inr (.inl (updB_other _ _ e))
  have hold : ∀ b, b < w.heap.size → w'.heap[b]? = w.heap[b]? := fun b hb => by rw [hh, Array.getElem?_push, if_neg (by omega)]
  have hnew : w'.heap[w.heap.size]? = some (.cells cur t (0, 0)) := by rw [hh]; simp
  have hsz : w'.heap.size = w.heap.size + 1 := by rw [hh]; simp
  refine ⟨⟨fun b hb => ?_, by rw [hsz]; have := hi.gsz; omega, fun id b n es' hb => ?_, fun b o u hu => ?_, fun id o ho => ?_, fun i j b n m es' fs h1 h2 => ?_, fun id hid => ?_⟩, ⟨ho, ht, hou, by omega, fun b hb _ => ⟨hold b hb, rfl⟩, fun id b n es' hb => ?_, Phi.le_refl _, hbl⟩⟩
  · rw [hold b (Nat.lt_of_lt_of_le hb hi.gsz)]; exact hi.glo b hb
  · by_cases e : id = H.length
    · subst e; rw [updB_same] at hb; injection hb with hb; subst hb; exact hi.gsz
    · rw [updB_other _ _ e] at hb; exact hi.gow id b n es' hb
  · have := hi.fr b o u hu
    rw [← this]
    exact World.cell?_of_block (hold b (phi_lt hi hu))
  · rcases Nat.lt_or_ge id H.length with hl | hl
    · rw [List.getElem?_append_left hl] at ho
      exact (hi.obj id o ho).mono (Phi.le_refl _) hbl (updB_other _ _ (by omega)) (fun b n es' hb => ⟨hold b (inv_lt hi hb), rfl⟩)
    · rw [List.getElem?_append_right hl] at ho
      have hid : id = H.length := by
        rcases Nat.eq_or_lt_of_le hl with e | e
        · exact e.symm
        · rw [List.getElem?_eq_none (by simp; omega)] at ho; cases ho
      subst hid
      simp at ho
      subst ho
      simp only [ObjOK, updB_same]
      refine .inr ⟨w.heap.size, cur.size, cur, rfl, hnew, rfl, hle, ?_, fun q => ?_⟩
      · simp only [Bool.false_eq_true, if_false]
        exact RepL.mono (Phi.le_refl _) hbl _ _ hr
      · simp only [Bool.false_eq_true, false_and, if_false]
        cases hq : φ w.heap.size q with
        | none => rfl
        | some u => exact absurd (phi_lt hi hq) (by omega)
  · by_cases e1 : i = H.length <;> by_cases e2 : j = H.length
    · omega
    · subst e1
      rw [updB_same] at h1
      rw [updB_other _ _ e2] at h2
      injection h1 with h1; subst h1
      exact absurd (inv_lt hi h2) (by omega)
    · subst e2
      rw [updB_same] at h2
      rw [updB_other _ _ e1] at h1
      injection h2 with h2; subst h2
      exact absurd (inv_lt hi h1) (by omega)
    · rw [updB_other _ _ e1] at h1
      rw [updB_other _ _ e2] at h2
      exact hi.inj i j b n m es' fs h1 h2
  · simp at hid
    rw [updB_other _ _ (by omega)]
    exact hi.out id (by omega)
  · by_cases e : id = H.length
    · subst e; rw [updB_same] at hb; injection hb with hb; subst hb; exact .inl (Nat.le_refl _)
    · rw [updB_other _ _ e] at hb; exact .inr ⟨n, es', hb⟩

/-- A nil slice that will grow. -/
theorem inv_nil (hi : Inv G φ bl H w) (t es : TypeId) :
    Inv G φ (updB bl H.length .nil) (H ++ [.arr t es false []]) w ∧ Fr φ bl w φ (updB bl H.length .nil) w := by
  have hun := hi.out H.length (Nat.le_refl _)
  have hbl : BLle bl (updB bl H.length .nil) := fun j => by
    by_cases e : j = H.length
    · subst e; exact .inl hun
    · exact .inr (.inl (updB_other _ _ e))
  refine ⟨⟨hi.glo, hi.gsz, fun id b n es' hb => ?_, hi.fr, fun id o ho => ?_, fun i j b n m es' fs h1 h2 => ?_, fun id hid => ?_⟩, ⟨rfl, rfl, rfl, Nat.le_refl _, fun b hb _ => ⟨rfl, rfl⟩, fun id b n es' hb => ?_, Phi.le_refl _, hbl⟩⟩
  · by_cases e : id = H.length
    · subst e; rw [updB_same] at hb; cases hb
    · rw [updB_other _ _ e] at hb; exact hi.gow id b n es' hb
  · rcases Nat.lt_or_ge id H.length with hl | hl
    · rw [List.getElem?_append_left hl] at ho
      exact (hi.obj id o ho).mono (Phi.le_refl _) hbl (updB_other _ _ (by omega)) (fun b n es' hb => ⟨rfl, rfl⟩)
    · rw [List.getElem?_append_right hl] at ho
      have hid : id = H.length := by
        rcases Nat.eq_or_lt_of_le hl with e | e
        · exact e.symm
        · rw [List.getElem?_eq_none (by simp; omega)] at ho; cases ho
      subst hid
      simp at ho
      subst ho
      simp [ObjOK, updB_same]
  · by_cases e1 : i = H.length
    · subst e1; rw [updB_same] at h1; cases h1
    · by_cases e2 : j = H.length
      · subst e2; rw [updB_same] at h2; cases h2
      · rw [updB_other _ _ e1] at h1
        rw [updB_other _ _ e2] at h2
        exact hi.inj i j b n m es' fs h1 h2
  · simp at hid
    rw [updB_other _ _ (by omega)]
    exact hi.out id (by omega)
  · by_cases e : id = H.length
    · subst e; rw [updB_same] at hb; cases hb
    · rw [updB_other _ _ e] at hb; exact .inr ⟨n, es', hb⟩

/-- An object's cells are written. -/
theorem inv_set (hi : Inv G φ bl H w) {id : Nat} {t es : TypeId} {cs cs' : List AV} (ho : H[id]? = some (.arr t es false cs)) {b n : Nat} {cur cur' : Array Value} (hb : bl id = .blk b n es)
    (hheap : w.heap[b]? = some (.cells cur t (0, 0))) (hs : cur'.size = cur.size) (hl : cs'.length ≤ cur.size) (hr : RepL φ bl cs' (cur'.toList.take cs'.length)) :
    Inv G φ bl (H.set id (.arr t es false cs')) (w.setRow b cur') ∧ Fr φ bl w φ bl (w.setRow b cur') := by
  have hnew := setRow_heap w b cur cur' t (0, 0) hheap
  have hold : ∀ k, k ≠ b → (w.setRow b cur').heap[k]? = w.heap[k]? := fun k hk => setRow_other w b k cur' hk
  have hob := hi.obj id _ ho
  have hphi : ∀ q, φ b q = none := by
    simp only [ObjOK] at hob
    rcases hob with ⟨h1, _⟩ | ⟨b', n', cur0, h1, h2, h3, h4, h5, h6⟩
    · rw [hb] at h1; cases h1
    · rw [hb] at h1; injection h1 with h1; subst h1
      intro q
      simpa using h6 q
  have hn : cur.size = n := by
    simp only [ObjOK] at hob
    rcases hob with ⟨h1, _⟩ | ⟨b', n', cur0, h1, h2, h3, h4, h5, h6⟩
    · rw [hb] at h1; cases h1
    · rw [hb] at h1; injection h1 with h1 h1'; subst h1 h1'
      rw [hheap] at h2; injection h2 with h2; injection h2 with h2; rw [h2]; exact h3
  have hidl : id < H.length := by
    rcases Nat.lt_or_ge id H.length with h | h
    · exact h
    · rw [List.getElem?_eq_none h] at ho; cases ho
  refine ⟨⟨fun k hk => ?_, by rw [setRow_size]; exact hi.gsz, hi.gow, fun k o u hu => ?_, fun k o hk => ?_, hi.inj, fun k hk => hi.out k (by simpa using hk)⟩,
    ⟨rfl, rfl, rfl, by rw [setRow_size]; exact Nat.le_refl _, fun k hk hno => ⟨hold k (fun e => hno id n es (e ▸ hb)), rfl⟩, fun k c m es' hk => .inr ⟨m, es', hk⟩, Phi.le_refl _, BLle.refl _⟩⟩
  · rw [hold k (fun e => by have := hi.gow id b n es hb; omega)]; exact hi.glo k hk
  · rw [← hi.fr k o u hu]
    refine World.cell?_of_block (hold k (fun e => ?_))
    rw [e, hphi] at hu; cases hu
  · rw [List.getElem?_set] at hk
    by_cases e : id = k
    · subst e
      simp [hidl] at hk
      subst hk
      simp only [ObjOK]
      refine .inr ⟨b, n, cur', hb, hnew, hs.trans hn, by omega, ?_, fun q => by simpa using hphi q⟩
      simpa using hr
    · rw [if_neg e] at hk
      refine (hi.obj k o hk).mono (Phi.le_refl _) (BLle.refl _) rfl (fun c m es' hc => ⟨hold c (fun e' => e ?_), rfl⟩)
      subst e'
      exact hi.inj id k c n m es es' hb hc

end Go.Avm
