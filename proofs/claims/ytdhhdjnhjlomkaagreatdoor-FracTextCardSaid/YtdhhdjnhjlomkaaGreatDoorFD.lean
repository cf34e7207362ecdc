/- Joined texts. -/
import Derived.Test.YtdhhdjnhjlomkaaGreatDoorFC
import Derived.Below
/- The same memory, told otherwise: what is written no more is told as a tree. -/
set_option linter.unusedSimpArgs false
set_option linter.unusedVariables false
namespace Go.Avm
open Go

mutual
/-- The names of object i become trees. -/
def thaw (i es : Nat) (cs : List AV) : AV → AV
  | .own j o => if j = i then .ptr cs o else .own j o
  | .osl j o n => if j = i then (if o + n * es ≤ cs.length then .sl n ((cs.drop o).take (n * es)) else .junk) else .osl j o n
  | .agg l => .agg (thawL i es cs l)
  | .tup l => .tup (thawL i es cs l)
  | .fn f l => .fn f (thawL i es cs l)
  | .int k n => .int k n
  | .bool b => .bool b
  | .str s => .str s
  | .nilp => .nilp
  | .ptr l o => .ptr l o
  | .nils => .nils
  | .sl n l => .sl n l
  | .raw v => .raw v
  | .mref j => if j = i then .junk else .mref j
  | .junk => .junk
def thawL (i es : Nat) (cs : List AV) : List AV → List AV
  | [] => []
  | c :: l => thaw i es cs c :: thawL i es cs l
end
def thawO (i es : Nat) (cs : List AV) : AObj → AObj
  | .arr t e l c => .arr t e l (thawL i es cs c)
  | .mp k m => .mp k m
  | .dead => .dead

theorem thawL_length (i es : Nat) (cs : List AV) : ∀ l, (thawL i es cs l).length = l.length
  | [] => rfl
  | c :: l => by simp [thawL, thawL_length i es cs l]

section
variable {G : Glob} {n0 : Nat} {φ φ' : Phi} {bl bl' : Nat → BL} {w : World} {i es : Nat} {cs : List AV}

/-- What is known of the object that becomes a tree. -/
structure Thaw (φ φ' : Phi) (bl bl' : Nat → BL) (i es : Nat) (cs : List AV) : Prop where
  le : φ.le φ'
  oth : ∀ j, j ≠ i → bl j = .unused ∨ bl' j = bl j
  here : (bl i = .nil ∧ cs = []) ∨ ∃ b n, bl i = .blk b n es ∧ RepRow φ' cs b 0

mutual
theorem Rep.thaw (h : Thaw φ φ' bl bl' i es cs) : ∀ (x : AV) (v : Value), Rep φ bl x v → Rep φ' bl' (thaw i es cs x) v
  | .int _ _, _, hx => by simpa only [Avm.thaw, Rep] using hx
  | .bool _, _, hx => by simpa only [Avm.thaw, Rep] using hx
  | .str _, _, hx => by simpa only [Avm.thaw, Rep] using hx
  | .nilp, _, hx => by simpa only [Avm.thaw, Rep] using hx
  | .nils, _, hx => by simpa only [Avm.thaw, Rep] using hx
  | .raw _, _, hx => by simpa only [Avm.thaw, Rep] using hx
  | .junk, _, hx => by simp only [Avm.thaw, Rep]
  | .ptr l o, _, hx => by
    simp only [Avm.thaw, Rep] at hx ⊢
    obtain ⟨b, o', e, hr⟩ := hx
    exact ⟨b, o', e, hr.mono h.le⟩
  | .sl n l, _, hx => by
    simp only [Avm.thaw, Rep] at hx ⊢
    rcases hx with hx | ⟨b, o, cap, e, h1, h2, hr⟩
    · exact .inl hx
    · exact .inr ⟨b, o, cap, e, h1, h2, hr.mono h.le⟩
  | .own j o, _, hx => by
    simp only [Avm.thaw]
    split
    · rename_i hj
      subst hj
      simp only [Rep] at hx ⊢
      rcases h.here with ⟨e, _⟩ | ⟨b, n, e, hr⟩
      · simp [e] at hx
      · rw [e] at hx
        exact ⟨b, 0, by simpa using hx, hr⟩
    · rename_i hj
      simp only [Rep] at hx ⊢
      rcases h.oth j hj with e | e
      · simp [e] at hx
      · rw [e]; exact hx
  | .osl j o n, _, hx => by
    simp only [Avm.thaw]
    split
    · rename_i hj
      subst hj
      split
      · rename_i hle
        simp only [Rep] at hx ⊢
        rcases h.here with ⟨e, ec⟩ | ⟨b, m, e, hr⟩
        · rw [e] at hx
          simp only at hx
          obtain ⟨rfl, rfl, rfl⟩ := hx
          exact .inl ⟨rfl, rfl, by simp⟩
        · rw [e] at hx
          simp only at hx
          obtain ⟨cap, rfl, h1, h2, h3⟩ := hx
          refine .inr ⟨b, o, cap, rfl, h1, h2, ?_⟩
          have := hr.sub o (n * es)
          simpa using this
      · simp only [Rep]
    · rename_i hj
      simp only [Rep] at hx ⊢
      rcases h.oth j hj with e | e
      · simp [e] at hx
      · rw [e]; exact hx
  | .mref j, _, hx => by
    simp only [Avm.thaw]
    split
    · simp only [Rep]
    · rename_i hj
      simp only [Rep] at hx ⊢
      rcases h.oth j hj with e | e
      · simp [e] at hx
      · rw [e]; exact hx
  | .agg l, _, hx => by
    simp only [Avm.thaw, Rep] at hx ⊢
    obtain ⟨vs, e, hr⟩ := hx
    exact ⟨vs, e, RepL.thaw h l vs hr⟩
  | .tup l, _, hx => by
    simp only [Avm.thaw, Rep] at hx ⊢
    obtain ⟨vs, e, hr⟩ := hx
    exact ⟨vs, e, RepL.thaw h l vs hr⟩
  | .fn _ l, _, hx => by
    simp only [Avm.thaw, Rep] at hx ⊢
    obtain ⟨vs, e, hr⟩ := hx
    exact ⟨vs, e, RepL.thaw h l vs hr⟩
theorem RepL.thaw (h : Thaw φ φ' bl bl' i es cs) : ∀ (l : List AV) (vs : List Value), RepL φ bl l vs → RepL φ' bl' (thawL i es cs l) vs
  | [], _, hx => by simpa only [thawL, RepL] using hx
  | c :: l, _, hx => by
    simp only [thawL, RepL] at hx ⊢
    obtain ⟨u, us, e, hr, hrest⟩ := hx
    exact ⟨u, us, e, Rep.thaw h c u hr, RepL.thaw h l us hrest⟩
end

mutual
theorem thaw_frz : ∀ x : AV, Frz x → thaw i es cs x = x
  | .int _ _, _ => rfl
  | .bool _, _ => rfl
  | .str _, _ => rfl
  | .nilp, _ => rfl
  | .ptr _ _, _ => rfl
  | .nils, _ => rfl
  | .sl _ _, _ => rfl
  | .own _ _, h => by simp only [Frz] at h
  | .osl _ _ _, h => by simp only [Frz] at h
  | .agg cs, h => by simp only [Frz] at h; simp only [thaw, thawL_frz cs h]
  | .tup cs, h => by simp only [Frz] at h; simp only [thaw, thawL_frz cs h]
  | .fn _ cs, h => by simp only [Frz] at h; simp only [thaw, thawL_frz cs h]
  | .raw _, _ => rfl
  | .mref _, h => by simp only [Frz] at h
  | .junk, _ => rfl
theorem thawL_frz : ∀ l : List AV, FrzL l → thawL i es cs l = l
  | [], _ => rfl
  | c :: l, h => by simp only [FrzL] at h; simp only [thawL, thaw_frz c h.1, thawL_frz l h.2]
end

mutual
theorem thaw_nob : ∀ (x : AV) (v : Value), Rep φ nob x v → thaw i es cs x = x
  | .int _ _, _, _ => rfl
  | .bool _, _, _ => rfl
  | .str _, _, _ => rfl
  | .nilp, _, _ => rfl
  | .ptr _ _, _, _ => rfl
  | .nils, _, _ => rfl
  | .sl _ _, _, _ => rfl
  | .own _ _, _, h => by simp [Rep, nob] at h
  | .osl _ _ _, _, h => by simp [Rep, nob] at h
  | .agg l, _, h => by
    simp only [Rep] at h
    obtain ⟨vs, _, hr⟩ := h
    simp only [thaw, thawL_nob l vs hr]
  | .tup l, _, h => by
    simp only [Rep] at h
    obtain ⟨vs, _, hr⟩ := h
    simp only [thaw, thawL_nob l vs hr]
  | .fn _ l, _, h => by
    simp only [Rep] at h
    obtain ⟨vs, _, hr⟩ := h
    simp only [thaw, thawL_nob l vs hr]
  | .raw _, _, _ => rfl
  | .mref _, _, h => by simp [Rep, nob] at h
  | .junk, _, _ => rfl
theorem thawL_nob : ∀ (l : List AV) (vs : List Value), RepL φ nob l vs → thawL i es cs l = l
  | [], _, _ => rfl
  | c :: l, _, h => by
    simp only [RepL] at h
    obtain ⟨u, us, _, hr, hrest⟩ := h
    simp only [thawL, thaw_nob c u hr, thawL_nob l us hrest]
end

/-- AN OBJECT BECOMES A TREE. -/
theorem Gh.freeze {s : St} {t : TypeId} {lent : Bool} (hi : s.H[i]? = some (.arr t es lent cs)) (hz : FrzL cs) : Gh G n0 s ⟨thawL i es cs s.f, (s.H.map (thawO i es cs)).set i .dead⟩ := by
  intro φ bl vs w hI hr
  have hil : i < s.H.length := by
    rcases Nat.lt_or_ge i s.H.length with h | h
    · exact h
    · rw [List.getElem?_eq_none h] at hi; cases hi
  have hob := hI.obj i _ hi
  simp only [ObjOK] at hob
  have hbl : BLle bl (updB bl i .dead) := fun j => by
    by_cases e : j = i
    · subst e; exact .inr (.inr (updB_same _ _ _))
    · exact .inr (.inl (updB_other _ _ e))
  have main : ∀ φ' : Phi, φ.le φ' → Thaw φ φ' bl (updB bl i .dead) i es cs → (∀ b o u, φ' b o = some u → w.cell? ⟨b, o, none⟩ = some u) → (∀ k, (∀ n e, bl i ≠ .blk k n e) → φ' k = φ k) →
      ∃ φ' bl', Inv G φ' bl' ((s.H.map (thawO i es cs)).set i .dead) w ∧ RepL φ' bl' (thawL i es cs s.f) vs ∧ Adv n0 φ bl w φ' bl' w := by
    intro φ' hle hT hfr hsame
    refine ⟨φ', updB bl i .dead, ⟨hI.glo, hI.gsz, fun id b n e hb => ?_, hfr, fun id o ho => ?_, fun a b k n m e f h1 h2 => ?_, fun id hid => ?_⟩, RepL.thaw hT _ _ hr, ?_⟩
    · by_cases e' : id = i
      · subst e'; rw [updB_same] at hb; cases hb
      · rw [updB_other _ _ e'] at hb; exact hI.gow id b n e hb
    · rw [List.getElem?_set] at ho
      by_cases e' : i = id
      · subst e'
        simp [hil] at ho
        subst ho
        simp only [ObjOK, updB_same]
      · rw [if_neg e', List.getElem?_map] at ho
        cases ho0 : s.H[id]? with
        | none => simp [ho0] at ho
        | some o0 =>
          simp [ho0] at ho
          subst ho
          have h0 := hI.obj id o0 ho0
          have hbid : updB bl i .dead id = bl id := updB_other _ _ (Ne.symm e')
          have hph : ∀ b n e, bl id = .blk b n e → φ' b = φ b := fun b n e hb => hsame b fun n' e'' h' => e' (hI.inj i id b n' n e'' e h' hb)
          cases o0 with
          | dead => simp only [thawO, ObjOK] at h0 ⊢; rw [hbid, h0]
          | mp k m =>
            simp only [thawO, ObjOK] at h0 ⊢
            obtain ⟨b, ents, clock, h1, h2, h3, h4⟩ := h0
            exact ⟨b, ents, clock, hbid.trans h1, h2, RepM.mono hle h3, fun o => by rw [hph b 0 0 h1]; exact h4 o⟩
          | arr t' e l c =>
            simp only [thawO, ObjOK] at h0 ⊢
            rcases h0 with ⟨h1, h2⟩ | ⟨b, n, cur, h1, h2, h3, h4, h5, h6⟩
            · exact .inl ⟨hbid.trans h1, by rw [h2]; rfl⟩
            · refine .inr ⟨b, n, cur, hbid.trans h1, h2, h3, by rw [thawL_length]; exact h4, ?_, fun q => by rw [hph b n e h1, thawL_length]; exact h6 q⟩
              rw [thawL_length]
              cases l with
              | true =>
                simp only [if_true] at h5 ⊢
                rw [thawL_nob _ _ h5]
                exact RepL.mono hle (BLle.refl _) _ _ h5
              | false =>
                simp only [Bool.false_eq_true, if_false] at h5 ⊢
                exact RepL.thaw hT _ _ h5
    · by_cases e1 : a = i
      · subst e1; rw [updB_same] at h1; cases h1
      · by_cases e2 : b = i
        · subst e2; rw [updB_same] at h2; cases h2
        · rw [updB_other _ _ e1] at h1
          rw [updB_other _ _ e2] at h2
          exact hI.inj a b k n m e f h1 h2
    · simp at hid
      rw [updB_other _ _ (by omega)]
      exact hI.out id hid
    · intro φ0 bl0 w0 hn hf
      refine ⟨hf.os, hf.tape, hf.output, hf.size, fun b hb hno => ⟨(hf.old b hb hno).1, ?_⟩, fun id b n e hb => ?_, Phi.le_trans hf.phi hle, hf.ids.trans hbl⟩
      · rw [hsame b (fun n e hb' => ?_)]
        · exact (hf.old b hb hno).2
        · rcases hf.own i b n e hb' with h | ⟨n', e', h⟩
          · omega
          · exact hno i n' e' h
      · by_cases e' : id = i
        · subst e'; rw [updB_same] at hb; cases hb
        · rw [updB_other _ _ e'] at hb; exact hf.own id b n e hb
  rcases hob with ⟨h1, h2⟩ | ⟨b, n, cur, h1, h2, h3, h4, h5, h6⟩
  · exact main φ (Phi.le_refl _) ⟨Phi.le_refl _, fun j hj => .inr (updB_other _ _ hj), .inl ⟨h1, h2⟩⟩ hI.fr (fun _ _ => rfl)
  · have hoth : ∀ j, j ≠ i → bl j = .unused ∨ updB bl i .dead j = bl j := fun j hj => .inr (updB_other _ _ hj)
    have row : ∀ φ' : Phi, φ.le φ' → (∀ o, o < cs.length → φ' b o = cur[o]?) → RepRow φ' cs b 0 := by
      intro φ' hle hc
      refine RepRow.iff.2 fun q c hq => ?_
      have hql : q < cs.length := by
        rcases Nat.lt_or_ge q cs.length with h | h
        · exact h
        · rw [List.getElem?_eq_none h] at hq; cases hq
      have h5' : RepL φ bl cs (cur.toList.take cs.length) := by
        split at h5
        · exact h5.up
        · exact h5
      obtain ⟨v, hv, hrv⟩ := h5'.get hql
      have hcd : cs.getD q .junk = c := by simp [List.getD_eq_getElem?_getD, hq]
      rw [hcd] at hrv
      have hcur : cur[q]? = some v := by
        rw [List.getElem?_take] at hv
        simpa [hql] using hv
      refine ⟨v, by rw [Nat.zero_add, hc q hql, hcur], ?_⟩
      rw [FrzL.iff] at hz
      exact Rep.mono hle (BLle.refl _) c v (hrv.frz _ _ (hz c (List.mem_of_getElem? hq)))
    cases lent with
    | true =>
      refine main φ (Phi.le_refl _) ⟨Phi.le_refl _, hoth, .inr ⟨b, n, h1, row φ (Phi.le_refl _) fun o ho => ?_⟩⟩ hI.fr (fun _ _ => rfl)
      rw [h6 o]; simp [ho]
    | false =>
      have hnone : ∀ o, φ b o = none := fun o => by rw [h6 o]; simp
      have hle : φ.le (phiAt φ b true cs.length cur) := fun k o u hu => by
        have : k ≠ b := fun e => by rw [e, hnone] at hu; cases hu
        simp [phiAt, this, hu]
      refine main (phiAt φ b true cs.length cur) hle ⟨hle, hoth, .inr ⟨b, n, h1, row _ hle fun o ho => by simp [phiAt, ho]⟩⟩ ?_ ?_
      · intro k o u hu
        by_cases e : k = b
        · subst e
          simp only [phiAt, if_true, true_and] at hu
          split at hu
          · rw [cell_of_row w k o cur t (0, 0) h2]; exact hu
          · cases hu
        · exact hI.fr k o u (by simpa [phiAt, e] using hu)
      · intro k hk
        have : k ≠ b := fun e => hk n es (e ▸ h1)
        funext o
        simp [phiAt, this]

/-- A slot is forgotten. -/
theorem Gh.forget (s : St) (d : Nat) : Gh G n0 s ⟨s.f.set d .junk, s.H⟩ := by
  intro φ bl vs w hI hr
  refine ⟨φ, bl, hI, ?_, Adv.refl n0 φ bl w⟩
  refine RepL.iff.2 ⟨by simp [hr.length], fun j c v hc hv => ?_⟩
  rw [List.getElem?_set] at hc
  by_cases e : d = j
  · subst e
    simp only [if_true] at hc
    split at hc
    · simp at hc; subst hc; simp only [Rep]
    · cases hc
  · rw [if_neg e] at hc
    exact (RepL.iff.1 hr).2 j c v hc hv
/-- All slots but some are forgotten. -/
def keepF (l : List Nat) : Nat → List AV → List AV
  | _, [] => []
  | i, x :: f => (if memN i l = true then x else .junk) :: keepF l (i + 1) f
theorem keepF_rep {l : List Nat} : ∀ {f : List AV} {i : Nat} {vs : List Value}, RepL φ bl f vs → RepL φ bl (keepF l i f) vs
  | [], _, _, h => by simpa only [keepF, RepL] using h
  | x :: f, i, _, h => by
    simp only [keepF, RepL] at h ⊢
    obtain ⟨u, us, e, hr, hrest⟩ := h
    refine ⟨u, us, e, ?_, keepF_rep hrest⟩
    split
    · exact hr
    · simp only [Rep]
theorem Gh.keep (s : St) (l : List Nat) : Gh G n0 s ⟨keepF l 0 s.f, s.H⟩ := fun φ bl vs w hI hr => ⟨φ, bl, hI, keepF_rep hr, Adv.refl n0 φ bl w⟩

/-- The last object, that is dead, falls away. -/
theorem Gh.cut {f : List AV} {H : List AObj} {i : Nat} (hi : i = H.length) (hn : n0 ≤ i) : Gh G n0 ⟨f, H ++ [.dead]⟩ ⟨killL i f, H.map (killO i)⟩ := by
  intro φ bl vs w hI hr
  subst hi
  have hd : bl H.length = .dead := by
    have := hI.obj H.length .dead (by simp)
    simpa [ObjOK] using this
  have hoth : ∀ j, j ≠ H.length → bl j = .unused ∨ updB bl H.length .unused j = bl j := fun j hj => .inr (updB_other _ _ hj)
  refine ⟨φ, updB bl H.length .unused, ⟨hI.glo, hI.gsz, fun id b n e hb => ?_, hI.fr, fun id o ho => ?_, fun a b k n m e f h1 h2 => ?_, fun id hid => ?_⟩, RepL.kill (Phi.le_refl _) hoth _ _ hr, ?_⟩
  · by_cases e' : id = H.length
    · subst e'; rw [updB_same] at hb; cases hb
    · rw [updB_other _ _ e'] at hb; exact hI.gow id b n e hb
  · rw [List.getElem?_map] at ho
    cases ho0 : H[id]? with
    | none => simp [ho0] at ho
    | some o0 =>
      simp [ho0] at ho
      subst ho
      have hlt : id < H.length := by
        rcases Nat.lt_or_ge id H.length with h | h
        · exact h
        · rw [List.getElem?_eq_none h] at ho0; cases ho0
      have h0 := hI.obj id o0 (by rw [List.getElem?_append_left hlt]; exact ho0)
      exact h0.kill (Phi.le_refl _) hoth (updB_other _ _ (by omega)) (fun b n es h => ⟨rfl, rfl⟩)
  · by_cases e1 : a = H.length
    · subst e1; rw [updB_same] at h1; cases h1
    · by_cases e2 : b = H.length
      · subst e2; rw [updB_same] at h2; cases h2
      · rw [updB_other _ _ e1] at h1
        rw [updB_other _ _ e2] at h2
        exact hI.inj a b k n m e f h1 h2
  · simp at hid
    by_cases e : id = H.length
    · subst e; exact updB_same _ _ _
    · rw [updB_other _ _ e]
      exact hI.out id (by simp; omega)
  · intro φ0 bl0 w0 hnn hf
    refine ⟨hf.os, hf.tape, hf.output, hf.size, hf.old, fun id b n e hb => ?_, hf.phi, fun id => ?_⟩
    · by_cases e' : id = H.length
      · subst e'; rw [updB_same] at hb; cases hb
      · rw [updB_other _ _ e'] at hb; exact hf.own id b n e hb
    · by_cases e' : id = H.length
      · subst e'; exact .inl (hnn _ hn)
      · rw [updB_other _ _ e']; exact hf.ids id

/-- A nil slice that will grow is an object. -/
theorem Gh.adopt {s : St} {d : Nat} (hd : d < s.f.length) (hs : s.f.getD d .junk = .nils) (t es : TypeId) : Gh G n0 s ⟨s.f.set d (.osl s.H.length 0 0), s.H ++ [.arr t es false []]⟩ := by
  intro φ bl vs w hI hr
  obtain ⟨g1, g2⟩ := inv_nil hI t es
  refine ⟨φ, _, g1, ?_, g2.adv n0⟩
  have hr' := RepL.mono (Phi.le_refl _) g2.ids _ _ hr
  obtain ⟨v, hv, hrv⟩ := hr.get hd
  rw [hs] at hrv
  simp only [Rep] at hrv
  subst hrv
  have hx : Rep φ (updB bl s.H.length .nil) (.osl s.H.length 0 0) (.slice none 0 0) := by simp [Rep, updB_same]
  have := hr'.set hx d
  rwa [show vs.set d (.slice none 0 0) = vs from ?_] at this
  apply List.ext_getElem?
  intro j
  rw [List.getElem?_set]
  by_cases e : d = j
  · subst e
    have : d < vs.length := by rw [← hr.length]; exact hd
    rw [List.getElem?_eq_getElem this] at hv
    injection hv with hv
    simp [this, hv]
  · rw [if_neg e]
/-- Objects are written no more, and told still as objects. -/
theorem Gh.dead {s : St} {o : AObj} (hi : s.H[i]? = some o) : Gh G n0 s ⟨killL i s.f, (s.H.map (killO i)).set i .dead⟩ := by
  intro φ bl vs w hI hr
  have hil : i < s.H.length := by
    rcases Nat.lt_or_ge i s.H.length with h | h
    · exact h
    · rw [List.getElem?_eq_none h] at hi; cases hi
  have hoth : ∀ j, j ≠ i → bl j = .unused ∨ updB bl i .dead j = bl j := fun j hj => .inr (updB_other _ _ hj)
  have hbl : BLle bl (updB bl i .dead) := fun j => by
    by_cases e : j = i
    · subst e; exact .inr (.inr (updB_same _ _ _))
    · exact .inr (.inl (updB_other _ _ e))
  refine ⟨φ, updB bl i .dead, ⟨hI.glo, hI.gsz, fun id b n e hb => ?_, hI.fr, fun id o ho => ?_, fun a b k n m e f h1 h2 => ?_, fun id hid => ?_⟩, RepL.kill (Phi.le_refl _) hoth _ _ hr, ?_⟩
  · by_cases e' : id = i
    · subst e'; rw [updB_same] at hb; cases hb
    · rw [updB_other _ _ e'] at hb; exact hI.gow id b n e hb
  · rw [killO_get] at ho
    by_cases e : i = id
    · subst e
      rw [if_pos rfl, if_pos hil] at ho
      injection ho with ho
      subst ho
      simp only [ObjOK, updB_same]
    · rw [if_neg e] at ho
      cases ho0 : s.H[id]? with
      | none => simp [ho0] at ho
      | some o0 =>
        simp [ho0] at ho
        subst ho
        exact (hI.obj id o0 ho0).kill (Phi.le_refl _) hoth (updB_other _ _ (Ne.symm e)) (fun b n es h => ⟨rfl, rfl⟩)
  · by_cases e1 : a = i
    · subst e1; rw [updB_same] at h1; cases h1
    · by_cases e2 : b = i
      · subst e2; rw [updB_same] at h2; cases h2
      · rw [updB_other _ _ e1] at h1
        rw [updB_other _ _ e2] at h2
        exact hI.inj a b k n m e f h1 h2
  · simp at hid
    rw [updB_other _ _ (by omega)]
    exact hI.out id hid
  · intro φ0 bl0 w0 hnn hf
    refine ⟨hf.os, hf.tape, hf.output, hf.size, hf.old, fun id b n e hb => ?_, hf.phi, hf.ids.trans hbl⟩
    by_cases e' : id = i
    · subst e'; rw [updB_same] at hb; cases hb
    · rw [updB_other _ _ e'] at hb; exact hf.own id b n e hb
end
end Go.Avm
/- A piece of the small code, run: what comes of it. -/
set_option linter.unusedSimpArgs false
set_option linter.unusedVariables false
namespace Go.Avm
open Go

/-! ### Frames -/
noncomputable def getF (l : List AV) : Nat → AV :=
  List.rec (motive := fun _ => Nat → AV) (fun _ => .junk) (fun x _ ih n => Nat.rec (motive := fun _ => AV) x (fun m _ => ih m) n) l
theorem getF_eq : ∀ (l : List AV) (n : Nat), getF l n = l.getD n .junk
  | [], n => by cases n <;> rfl
  | x :: l, 0 => rfl
  | x :: l, n + 1 => by
    show getF l n = _
    rw [getF_eq l n]
    simp [List.getD_eq_getElem?_getD]
noncomputable def setF {α : Type} (l : List AV) (n : Nat) (x : AV) (k : List AV → α) : α :=
  List.rec (motive := fun _ => Nat → (List AV → α) → α) (fun _ k => k []) (fun a l ih n k => Nat.rec (motive := fun _ => α) (k (x :: l)) (fun m _ => ih m fun l' => k (a :: l')) n) l n k
theorem setF_eq {α : Type} : ∀ (l : List AV) (n : Nat) (x : AV) (k : List AV → α), setF l n x k = k (l.set n x)
  | [], n, x, k => by cases n <;> rfl
  | a :: l, 0, x, k => rfl
  | a :: l, n + 1, x, k => by
    show setF l n x (fun l' => k (a :: l')) = _
    rw [setF_eq l n x]
    rfl

/-! ### Values, reckoned out -/
def frcInt {α : Type} (n : Int) (k : Int → α) : α := match n with
  | .ofNat m => frcN m fun m => k (.ofNat m)
  | .negSucc m => frcN m fun m => k (.negSucc m)
theorem frcInt_eq {α : Type} (n : Int) (k : Int → α) : frcInt n k = k n := by cases n <;> simp [frcInt, frcN_eq]
def spine {α β : Type} : List β → (List β → α) → α
  | [], k => k []
  | x :: l, k => spine l fun l => k (x :: l)
theorem spine_eq {α β : Type} : ∀ (l : List β) (k : List β → α), spine l k = k l
  | [], _ => rfl
  | x :: l, k => by simp only [spine, spine_eq l]
def frcU {α : Type} (b : UInt8) (k : UInt8 → α) : α := frcN b.toNat fun n => k (UInt8.ofNat n)
theorem frcU_eq {α : Type} (b : UInt8) (k : UInt8 → α) : frcU b k = k b := by simp [frcU, frcN_eq]
def frcS {α : Type} : List UInt8 → (List UInt8 → α) → α
  | [], k => k []
  | x :: l, k => frcU x fun x => frcS l fun l => k (x :: l)
theorem frcS_eq {α : Type} : ∀ (l : List UInt8) (k : List UInt8 → α), frcS l k = k l
  | [], _ => rfl
  | x :: l, k => by simp only [frcS, frcU_eq, frcS_eq l]
/-- The head, and the list of cells. -/
def frcV {α : Type} (x : AV) (k : AV → α) : α := match x with
  | .int t n => frcInt n fun n => k (.int t n)
  | .bool b => frcB b fun b => k (.bool b)
  | .str s => frcS s fun s => k (.str s)
  | .nilp => k .nilp
  | .ptr cs o => spine cs fun cs => frcN o fun o => k (.ptr cs o)
  | .nils => k .nils
  | .sl n cs => frcN n fun n => spine cs fun cs => k (.sl n cs)
  | .own i o => frcN i fun i => frcN o fun o => k (.own i o)
  | .osl i o n => frcN i fun i => frcN o fun o => frcN n fun n => k (.osl i o n)
  | .agg cs => spine cs fun cs => k (.agg cs)
  | .tup cs => spine cs fun cs => k (.tup cs)
  | .fn f cs => spine cs fun cs => k (.fn f cs)
  | .raw v => k (.raw v)
  | .mref i => frcN i fun i => k (.mref i)
  | .junk => k .junk
theorem frcV_eq {α : Type} (x : AV) (k : AV → α) : frcV x k = k x := by
  cases x <;> simp only [frcV, frcInt_eq, frcB_eq, frcS_eq, frcN_eq, spine_eq]
def frcObj {α : Type} (o : AObj) (k : AObj → α) : α := match o with
  | .dead => k .dead
  | .arr t es l cs => frcB l fun l => spine cs fun cs => k (.arr t es l cs)
  | .mp t es => spine es fun es => k (.mp t es)
theorem frcObj_eq {α : Type} (o : AObj) (k : AObj → α) : frcObj o k = k o := by
  cases o <;> simp only [frcObj, frcB_eq, spine_eq]
def frcH {α : Type} : List AObj → (List AObj → α) → α
  | [], k => k []
  | o :: l, k => frcObj o fun o => frcH l fun l => k (o :: l)
theorem frcH_eq {α : Type} : ∀ (l : List AObj) (k : List AObj → α), frcH l k = k l
  | [], _ => rfl
  | x :: l, k => by simp only [frcH, frcObj_eq, frcH_eq l]

/-! ### No names -/
mutual
def isFrz : AV → Bool
  | .int _ _ => true
  | .bool _ => true
  | .str _ => true
  | .nilp => true
  | .ptr cs _ => isFrzL cs
  | .nils => true
  | .sl _ cs => isFrzL cs
  | .own _ _ => false
  | .osl _ _ _ => false
  | .agg cs => isFrzL cs
  | .tup cs => isFrzL cs
  | .fn _ cs => isFrzL cs
  | .raw _ => true
  | .mref _ => false
  | .junk => false
def isFrzL : List AV → Bool
  | [] => true
  | c :: cs => match isFrz c with
    | true => isFrzL cs
    | false => false
end
mutual
theorem isFrz_iff : ∀ x : AV, isFrz x = true → Frz x
  | .int _ _, _ => by simp only [Frz]
  | .bool _, _ => by simp only [Frz]
  | .str _, _ => by simp only [Frz]
  | .nilp, _ => by simp only [Frz]
  | .ptr cs _, h => by simp only [Frz, isFrz] at h ⊢; exact isFrzL_iff cs h
  | .nils, _ => by simp only [Frz]
  | .sl _ cs, h => by simp only [Frz, isFrz] at h ⊢; exact isFrzL_iff cs h
  | .own _ _, h => by simp only [isFrz] at h; cases h
  | .osl _ _ _, h => by simp only [isFrz] at h; cases h
  | .agg cs, h => by simp only [Frz, isFrz] at h ⊢; exact isFrzL_iff cs h
  | .tup cs, h => by simp only [Frz, isFrz] at h ⊢; exact isFrzL_iff cs h
  | .fn _ cs, h => by simp only [Frz, isFrz] at h ⊢; exact isFrzL_iff cs h
  | .raw _, _ => by simp only [Frz]
  | .mref _, h => by simp only [isFrz] at h; cases h
  | .junk, h => by simp only [isFrz] at h; cases h
theorem isFrzL_iff : ∀ l : List AV, isFrzL l = true → FrzL l
  | [], _ => by simp only [FrzL]
  | c :: cs, h => by
    simp only [isFrzL] at h
    cases hc : isFrz c with
    | true => rw [hc] at h; simp only [FrzL]; exact ⟨isFrz_iff c hc, isFrzL_iff cs h⟩
    | false => rw [hc] at h; cases h
end

/-! ### One operation -/
def gif {α : Type} (b : Bool) (x : Option α) : Option α := match b with
  | true => x
  | false => none
theorem gif_some {α : Type} {b : Bool} {x : Option α} {y : α} (h : gif b x = some y) : b = true ∧ x = some y := by
  cases b <;> simp [gif] at h ⊢
  exact h
def kEq (a b : IntKind) : Bool := decide (a = b)

def binE (op : BinOp) (x y : AV) : Option AV := match x, y with
  | .int k a, .int k' b => match op with
    | .shl => gif (decide (0 ≤ b)) (some (.int k (k.wrap (a * 2 ^ (min b.toNat k.bits)))))
    | .shr => gif (decide (0 ≤ b)) (some (.int k (a.fdiv (2 ^ (min b.toNat k.bits)))))
    | .add => gif (kEq k k') (some (.int k (k.wrap (a + b))))
    | .sub => gif (kEq k k') (some (.int k (k.wrap (a - b))))
    | .mul => gif (kEq k k') (some (.int k (k.wrap (a * b))))
    | .quo => gif (kEq k k' && decide (b ≠ 0)) (some (.int k (k.wrap (a.tdiv b))))
    | .rem => gif (kEq k k' && decide (b ≠ 0)) (some (.int k (a.tmod b)))
    | .and => gif (kEq k k') (some (.int k (k.wrap (BitVec.ofInt k.bits a &&& BitVec.ofInt k.bits b).toNat)))
    | .or => gif (kEq k k') (some (.int k (k.wrap (BitVec.ofInt k.bits a ||| BitVec.ofInt k.bits b).toNat)))
    | .xor => gif (kEq k k') (some (.int k (k.wrap (BitVec.ofInt k.bits a ^^^ BitVec.ofInt k.bits b).toNat)))
    | .eql => gif (kEq k k') (some (.bool (decide (a = b))))
    | .neq => gif (kEq k k') (some (.bool (decide (a ≠ b))))
    | .lss => gif (kEq k k') (some (.bool (decide (a < b))))
    | .leq => gif (kEq k k') (some (.bool (decide (a ≤ b))))
    | .gtr => gif (kEq k k') (some (.bool (decide (b < a))))
    | .geq => gif (kEq k k') (some (.bool (decide (b ≤ a))))
    | _ => none
  | .str a, .str b => match op with
    | .add => gif (decide (a.length + b.length ≤ 9223372036854775807)) (some (.str (a ++ b)))
    | .eql => some (.bool (a == b))
    | .neq => some (.bool (!(a == b)))
    | _ => none
  | _, _ => none
theorem binE_sound {op : BinOp} {x y v : AV} (h : binE op x y = some v) {K : AV → Prop} (hk : K v) : binP op x y K := by
  cases x <;> cases y <;> simp only [binE] at h <;> try (cases h; done)
  case int.int k a k' b =>
    cases op <;> simp only [binP] at h ⊢ <;> first
      | (cases h; done)
      | (obtain ⟨h1, h2⟩ := gif_some h; injection h2 with h2; subst h2; simp only [kEq, Bool.and_eq_true, decide_eq_true_eq] at h1; exact ⟨h1, hk⟩)
  case str.str a b =>
    cases op <;> simp only [binP] at h ⊢ <;> first
      | (cases h; done)
      | (obtain ⟨h1, h2⟩ := gif_some h; injection h2 with h2; subst h2; simp only [decide_eq_true_eq] at h1; exact ⟨h1, hk⟩)
      | (injection h with h; subst h; exact hk)

def liveE {α : Type} (o : AObj) (x : Option α) : Option α := match o with
  | .arr _ _ _ _ => x
  | _ => none
theorem liveE_sound {α : Type} {o : AObj} {x : Option α} {y : α} (h : liveE o x = some y) : x = some y ∧ ∀ K : Prop, K → liveP o K := by
  cases o <;> simp only [liveE] at h <;> try (cases h; done)
  exact ⟨h, fun K k => k⟩
def getO (H : List AObj) (i : Nat) : AObj := H.getD i .dead

noncomputable def loadE (q : Option Nat) (cs : List AV) (o : Nat) : Option AV := match q with
  | none => gif (Nat.blt o cs.length) (some (getF cs o))
  | some m => gif (Nat.ble (o + m) cs.length) (some (.agg ((cs.drop o).take m)))
theorem loadE_sound {q : Option Nat} {cs : List AV} {o : Nat} {v : AV} (h : loadE q cs o = some v) {K : AV → Prop} (hk : K v) : loadC q cs o K := by
  cases q <;> simp only [loadE] at h <;> obtain ⟨h1, h2⟩ := gif_some h <;> injection h2 with h2 <;> subst h2 <;> simp only [loadC]
  · rw [getF_eq] at hk
    exact ⟨Nat.blt_eq.mp h1, hk⟩
  · exact ⟨Nat.le_of_ble_eq_true h1, hk⟩
def bdE (d : Int) (x : Option AV) : Option Int := match x with
  | none => some d
  | some (.int _ n) => some n
  | _ => none
theorem bdE_sound {d : Int} {x : Option AV} {n : Int} (h : bdE d x = some n) {K : Int → Prop} (hk : K n) : bdP d x K := by
  cases x with
  | none => simp only [bdE] at h; injection h with h; subst h; exact hk
  | some x =>
    cases x <;> simp only [bdE] at h <;> try (cases h; done)
    injection h with h; subst h; exact hk

/-- What reads. -/
noncomputable def evR (o : IOp) (e : IA → AV) (H : List AObj) : Option AV := match o with
  | .mov x => some (e x)
  | .pick c a b => match e c with
    | .bool t => match t with
      | true => some (e a)
      | false => some (e b)
    | _ => none
  | .bin op x y => binE op (e x) (e y)
  | .eqb n x y => match e x, e y with
    | .bool a, .bool b => some (.bool ((a == b) != n))
    | _, _ => none
  | .eqpn n x => match e x with
    | .nilp => some (.bool (!n))
    | .ptr _ _ => some (.bool n)
    | .own i _ => liveE (getO H i) (some (.bool n))
    | _ => none
  | .eqsn n x => match e x with
    | .nils => some (.bool (!n))
    | .sl len _ => gif (Nat.blt 0 len) (some (.bool n))
    | .osl i _ len => liveE (getO H i) (gif (Nat.blt 0 len) (some (.bool n)))
    | _ => none
  | .not x => match e x with
    | .bool b => some (.bool (!b))
    | _ => none
  | .neg x => match e x with
    | .int k n => some (.int k (k.wrap (0 - n)))
    | _ => none
  | .conv k x => match e x with
    | .int _ n => some (.int k (k.wrap n))
    | _ => none
  | .nilck x => match e x with
    | .ptr cs o => some (.ptr cs o)
    | .own i o => liveE (getO H i) (some (.own i o))
    | _ => none
  | .fld n x => match e x with
    | .ptr cs o => some (.ptr cs (o + n))
    | .own i o => liveE (getO H i) (some (.own i (o + n)))
    | _ => none
  | .idxA sz x i => match e x, e i with
    | .sl len cs, .int _ n => gif (decide (0 ≤ n) && decide (n < len)) (some (.ptr cs (n.toNat * sz)))
    | .osl id off len, .int _ n => liveE (getO H id) (gif (decide (0 ≤ n) && decide (n < len)) (some (.own id (off + n.toNat * sz))))
    | _, _ => none
  | .idxP m sz x i => match e x, e i with
    | .ptr cs o, .int _ n => gif (decide (0 ≤ n) && decide (n < m)) (some (.ptr cs (o + n.toNat * sz)))
    | .own id off, .int _ n => liveE (getO H id) (gif (decide (0 ≤ n) && decide (n < m)) (some (.own id (off + n.toNat * sz))))
    | _, _ => none
  | .idxS x i => match e x, e i with
    | .str s, .int _ n => gif (decide (0 ≤ n) && decide (n < s.length)) (some (.int .u8 (s.getD n.toNat 0).toNat))
    | _, _ => none
  | .load n x => match e x with
    | .ptr cs o => loadE n cs o
    | .own id o => match getO H id with
      | .arr _ _ _ cs => loadE n cs o
      | _ => none
    | _ => none
  | .len x => match e x with
    | .nils => some (.int .i64 0)
    | .sl len _ => gif (Nat.ble len 9223372036854775807) (some (.int .i64 len))
    | .osl id _ len => liveE (getO H id) (gif (Nat.ble len 9223372036854775807) (some (.int .i64 len)))
    | _ => none
  | .lenS x => match e x with
    | .str s => some (.int .i64 s.length)
    | _ => none
  | .max x y => match e x, e y with
    | .int k a, .int _ b => some (.int k (if b > a then b else a))
    | _, _ => none
  | .min x y => match e x, e y with
    | .int k a, .int _ b => some (.int k (if b < a then b else a))
    | _, _ => none
  | .slc sz x lo hi => match e x with
    | .nils => match bdE 0 (lo.map e), bdE 0 (hi.map e) with
      | some l, some h => gif (decide (l = 0) && decide (h = 0)) (some .nils)
      | _, _ => none
    | .sl len cs => match bdE 0 (lo.map e), bdE len (hi.map e) with
      | some l, some h => gif (decide (0 ≤ l) && decide (l ≤ h) && decide (h ≤ len) && Nat.beq cs.length (len * sz)) (some (.sl (h - l).toNat ((cs.drop (l.toNat * sz)).take ((h - l).toNat * sz))))
      | _, _ => none
    | .osl id off len => match bdE 0 (lo.map e), bdE len (hi.map e) with
      | some l, some h => match getO H id with
        | .arr _ es _ _ => gif (Nat.beq es sz && decide (0 ≤ l) && decide (l ≤ h) && decide (h ≤ len)) (match decide (l = h) with
          | true => some (.sl 0 [])
          | false => some (.osl id (off + l.toNat * sz) (h - l).toNat))
        | _ => none
      | _, _ => none
    | _ => none
  | .slcS x lo hi => match e x with
    | .str s => match bdE 0 (lo.map e), bdE s.length (hi.map e) with
      | some l, some h => gif (decide (0 ≤ l) && decide (l ≤ h) && decide (h ≤ s.length)) (some (.str ((s.drop l.toNat).take (h - l).toNat)))
      | _, _ => none
    | _ => none
  | .ext x i => match e x with
    | .tup vs => gif (Nat.blt i vs.length) (some (getF vs i))
    | _ => none
  | .mkfn f0 cap => some (.fn f0 (cap.map e))
  | .eqin n x => match e x with
    | .raw v => match v with
      | .nilIface => some (.bool (!n))
      | .iface _ _ => some (.bool n)
      | _ => none
    | _ => none
  | .lkup z x k => match e x, e k with
    | .mref id, .int k n => match getO H id with
      | .mp k' es => gif (kEq k k') (some ((mget es n).getD z))
      | _ => none
    | _, _ => none
  | _ => none

theorem evR_sound {o : IOp} {f : List AV} {H : List AObj} {v : AV} (h : evR o (ev f) H = some v) {K : AV → Prop} (hk : K v) : rop o f H K := by
  cases o <;> simp only [evR] at h <;> try (cases h; done)
  case mov x => injection h with h; subst h; exact hk
  case pick c a b =>
    simp only [rop]
    generalize ev f c = q at h
    cases q <;> simp only at h <;> try (cases h; done)
    rename_i t
    cases t <;> simp only at h <;> injection h with h <;> subst h <;> simpa [pickP] using hk
  case bin op x y => exact binE_sound h hk
  case eqb n x y =>
    simp only [rop]
    generalize ev f x = q at h
    generalize ev f y = r at h
    cases q <;> cases r <;> simp only at h <;> try (cases h; done)
    injection h with h; subst h; exact hk
  case eqpn n x =>
    simp only [rop]
    generalize ev f x = q at h
    cases q <;> simp only at h <;> try (cases h; done)
    · injection h with h; subst h; exact hk
    · injection h with h; subst h; exact hk
    · obtain ⟨h1, h2⟩ := liveE_sound h
      injection h1 with h1; subst h1; exact h2 _ hk
  case eqsn n x =>
    simp only [rop]
    generalize ev f x = q at h
    cases q <;> simp only at h <;> try (cases h; done)
    · injection h with h; subst h; exact hk
    · obtain ⟨h1, h2⟩ := gif_some h
      injection h2 with h2; subst h2; exact ⟨Nat.blt_eq.mp h1, hk⟩
    · obtain ⟨h1, h2⟩ := liveE_sound h
      obtain ⟨h3, h4⟩ := gif_some h1
      injection h4 with h4; subst h4; exact h2 _ ⟨Nat.blt_eq.mp h3, hk⟩
  case not x =>
    simp only [rop]
    generalize ev f x = q at h
    cases q <;> simp only at h <;> try (cases h; done)
    injection h with h; subst h; exact hk
  case neg x =>
    simp only [rop]
    generalize ev f x = q at h
    cases q <;> simp only at h <;> try (cases h; done)
    injection h with h; subst h; exact hk
  case conv k x =>
    simp only [rop]
    generalize ev f x = q at h
    cases q <;> simp only at h <;> try (cases h; done)
    injection h with h; subst h; exact hk
  case nilck x =>
    simp only [rop]
    generalize ev f x = q at h
    cases q <;> simp only at h <;> try (cases h; done)
    · injection h with h; subst h; exact hk
    · obtain ⟨h1, h2⟩ := liveE_sound h
      injection h1 with h1; subst h1; exact h2 _ hk
  case fld n x =>
    simp only [rop]
    generalize ev f x = q at h
    cases q <;> simp only at h <;> try (cases h; done)
    · injection h with h; subst h; exact hk
    · obtain ⟨h1, h2⟩ := liveE_sound h
      injection h1 with h1; subst h1; exact h2 _ hk
  case idxA n x i =>
    simp only [rop]
    generalize ev f x = q at h
    generalize ev f i = r at h
    cases q <;> cases r <;> simp only at h <;> try (cases h; done)
    · obtain ⟨h1, h2⟩ := gif_some h
      simp only [Bool.and_eq_true, decide_eq_true_eq] at h1
      injection h2 with h2; subst h2; exact ⟨h1, hk⟩
    · obtain ⟨h1, h2⟩ := liveE_sound h
      obtain ⟨h3, h4⟩ := gif_some h1
      simp only [Bool.and_eq_true, decide_eq_true_eq] at h3
      injection h4 with h4; subst h4; exact h2 _ ⟨h3, hk⟩
  case idxP m n x i =>
    simp only [rop]
    generalize ev f x = q at h
    generalize ev f i = r at h
    cases q <;> cases r <;> simp only at h <;> try (cases h; done)
    · obtain ⟨h1, h2⟩ := gif_some h
      simp only [Bool.and_eq_true, decide_eq_true_eq] at h1
      injection h2 with h2; subst h2; exact ⟨h1, hk⟩
    · obtain ⟨h1, h2⟩ := liveE_sound h
      obtain ⟨h3, h4⟩ := gif_some h1
      simp only [Bool.and_eq_true, decide_eq_true_eq] at h3
      injection h4 with h4; subst h4; exact h2 _ ⟨h3, hk⟩
  case idxS x i =>
    simp only [rop]
    generalize ev f x = q at h
    generalize ev f i = r at h
    cases q <;> cases r <;> simp only at h <;> try (cases h; done)
    obtain ⟨h1, h2⟩ := gif_some h
    simp only [Bool.and_eq_true, decide_eq_true_eq] at h1
    injection h2 with h2; subst h2; exact ⟨h1, hk⟩
  case load n x =>
    simp only [rop]
    generalize ev f x = q at h
    cases q <;> simp only at h <;> try (cases h; done)
    · exact loadE_sound h hk
    · simp only [loadP]
      simp only [getO] at h
      rename_i id o
      generalize H.getD id .dead = b at h
      cases b <;> simp only at h <;> try (cases h; done)
      exact loadE_sound h hk
  case len x =>
    simp only [rop]
    generalize ev f x = q at h
    cases q <;> simp only at h <;> try (cases h; done)
    · injection h with h; subst h; exact hk
    · obtain ⟨h1, h2⟩ := gif_some h
      injection h2 with h2; subst h2; exact ⟨Nat.le_of_ble_eq_true h1, hk⟩
    · obtain ⟨h1, h2⟩ := liveE_sound h
      obtain ⟨h3, h4⟩ := gif_some h1
      injection h4 with h4; subst h4; exact h2 _ ⟨Nat.le_of_ble_eq_true h3, hk⟩
  case lenS x =>
    simp only [rop]
    generalize ev f x = q at h
    cases q <;> simp only at h <;> try (cases h; done)
    injection h with h; subst h; exact hk
  case max x y =>
    simp only [rop]
    generalize ev f x = q at h
    generalize ev f y = r at h
    cases q <;> cases r <;> simp only at h <;> try (cases h; done)
    injection h with h; subst h; exact hk
  case min x y =>
    simp only [rop]
    generalize ev f x = q at h
    generalize ev f y = r at h
    cases q <;> cases r <;> simp only at h <;> try (cases h; done)
    injection h with h; subst h; exact hk
  case slc sz x lo hi =>
    simp only [rop]
    generalize ev f x = q at h
    generalize lo.map (ev f) = lo' at h
    generalize hi.map (ev f) = hi' at h
    cases q <;> simp only at h <;> try (cases h; done)
    · split at h <;> try (cases h; done)
      rename_i l m e1 e2
      obtain ⟨h1, h2⟩ := gif_some h
      simp only [Bool.and_eq_true, decide_eq_true_eq] at h1
      injection h2 with h2; subst h2
      simp only [slcP]
      refine bdE_sound e1 ?_
      refine bdE_sound e2 ?_
      exact ⟨h1, hk⟩
    · split at h <;> try (cases h; done)
      rename_i l m e1 e2
      obtain ⟨h1, h2⟩ := gif_some h
      simp only [Bool.and_eq_true, decide_eq_true_eq] at h1
      injection h2 with h2; subst h2
      simp only [slcP]
      refine bdE_sound e1 ?_
      refine bdE_sound e2 ?_
      exact ⟨⟨h1.1.1.1, h1.1.1.2, h1.1.2, Nat.eq_of_beq_eq_true h1.2⟩, hk⟩
    · rename_i id off len
      split at h <;> try (cases h; done)
      rename_i l m e1 e2
      simp only [slcP]
      refine bdE_sound e1 ?_
      refine bdE_sound e2 ?_
      simp only [getO] at h
      generalize H.getD id .dead = b at h
      cases b <;> simp only at h <;> try (cases h; done)
      obtain ⟨h1, h2⟩ := gif_some h
      simp only [Bool.and_eq_true, decide_eq_true_eq] at h1
      refine ⟨⟨Nat.eq_of_beq_eq_true h1.1.1.1, h1.1.1.2, h1.1.2, h1.2⟩, fun e => ?_, fun e => ?_⟩
      · rw [decide_eq_true e] at h2
        injection h2 with h2; subst h2; exact hk
      · rw [decide_eq_false (by omega)] at h2
        injection h2 with h2; subst h2; exact hk
  case slcS x lo hi =>
    simp only [rop]
    generalize ev f x = q at h
    generalize lo.map (ev f) = lo' at h
    generalize hi.map (ev f) = hi' at h
    cases q <;> simp only at h <;> try (cases h; done)
    split at h <;> try (cases h; done)
    rename_i l m e1 e2
    obtain ⟨h1, h2⟩ := gif_some h
    simp only [Bool.and_eq_true, decide_eq_true_eq] at h1
    injection h2 with h2; subst h2
    simp only [slcSP]
    refine bdE_sound e1 ?_
    refine bdE_sound e2 ?_
    exact ⟨⟨h1.1.1, h1.1.2, h1.2⟩, hk⟩
  case ext x i =>
    simp only [rop]
    generalize ev f x = q at h
    cases q <;> simp only at h <;> try (cases h; done)
    obtain ⟨h1, h2⟩ := gif_some h
    injection h2 with h2; subst h2
    rw [getF_eq] at hk
    exact ⟨Nat.blt_eq.mp h1, hk⟩
  case mkfn g cap => injection h with h; subst h; exact hk
  case eqin n x =>
    simp only [rop]
    generalize ev f x = q at h
    cases q <;> simp only at h <;> try (cases h; done)
    rename_i v'
    cases v' <;> simp only at h <;> try (cases h; done)
    · injection h with h; subst h; exact hk
    · injection h with h; subst h; exact hk
  case lkup z x k =>
    simp only [rop]
    generalize ev f x = q at h
    generalize ev f k = r at h
    cases q <;> cases r <;> simp only at h <;> try (cases h; done)
    rename_i id kk n
    simp only [lkupP]
    simp only [getO] at h
    generalize H.getD id .dead = b at h
    cases b <;> simp only at h <;> try (cases h; done)
    obtain ⟨h1, h2⟩ := gif_some h
    simp only [kEq, decide_eq_true_eq] at h1
    injection h2 with h2; subst h2
    exact ⟨h1, hk⟩
end Go.Avm
/- A piece of the small code, run: whole functions. -/
set_option linter.unusedSimpArgs false
set_option linter.unusedVariables false
namespace Go.Avm
open Go

noncomputable def evQ (f : List AV) (x : IA) : AV := match x with
  | .t i => getF f i
  | .v x => x
theorem evQ_eq (f : List AV) : evQ f = ev f := by
  funext x
  cases x with
  | t i => exact getF_eq f i
  | v x => rfl

def oneE (H : List AObj) (x : AV) : Bool := match x with
  | .agg _ => false
  | .tup _ => false
  | .junk => false
  | .mref _ => false
  | .raw v => v.oneCell'
  | .own i _ => match getO H i with
    | .arr _ _ _ _ => true
    | _ => false
  | .osl i _ _ => match getO H i with
    | .arr _ _ _ _ => true
    | _ => false
  | _ => true
theorem oneE_sound {H : List AObj} {x : AV} (h : oneE H x = true) : OneC H x := by
  cases x <;> simp only [oneE] at h <;> simp only [OneC] <;> try (cases h; done)
  case own i o =>
    simp only [getO] at h
    generalize H.getD i .dead = b at h
    cases b <;> simp only at h <;> first | (cases h; done) | trivial
  case osl i o n =>
    simp only [getO] at h
    generalize H.getD i .dead = b at h
    cases b <;> simp only at h <;> first | (cases h; done) | trivial
  case raw v => exact h
def oneLE (H : List AObj) : List AV → Bool
  | [] => true
  | x :: l => match oneE H x with
    | true => oneLE H l
    | false => false
theorem oneLE_sound {H : List AObj} : ∀ {l : List AV}, oneLE H l = true → OneL H l
  | [], _ => fun x hx => by cases hx
  | x :: l, h => by
    simp only [oneLE] at h
    cases hx : oneE H x with
    | false => rw [hx] at h; cases h
    | true =>
      rw [hx] at h
      intro y hy
      rcases List.mem_cons.1 hy with rfl | hy
      · exact oneE_sound hx
      · exact oneLE_sound h y hy
def fillE (H : List AObj) (n : Nat) : List (Nat × Nat × AV) → Bool
  | [] => true
  | (o, sz, x) :: ps => match Nat.beq (cellsOf x).length sz && Nat.blt 0 sz && Nat.ble (o + sz) n && oneLE H (cellsOf x) with
    | true => fillE H n ps
    | false => false
theorem fillE_sound {H : List AObj} {n : Nat} : ∀ {ps : List (Nat × Nat × AV)}, fillE H n ps = true → fillOk H n ps
  | [], _ => trivial
  | (o, sz, x) :: ps, h => by
    simp only [fillE] at h
    cases hx : (Nat.beq (cellsOf x).length sz && Nat.blt 0 sz && Nat.ble (o + sz) n && oneLE H (cellsOf x)) with
    | false => rw [hx] at h; cases h
    | true =>
      rw [hx] at h
      simp only [Bool.and_eq_true] at hx
      simp only [fillOk]
      exact ⟨⟨Nat.eq_of_beq_eq_true hx.1.1.1, Nat.blt_eq.mp hx.1.1.2, Nat.le_of_ble_eq_true hx.1.2, oneLE_sound hx.2⟩, fillE_sound h⟩
def evPE (e : IA → AV) (ps : List (Nat × Nat × IA)) : List (Nat × Nat × AV) := ps.map fun p => (p.1, p.2.1, e p.2.2)

def b2sCE (len : Nat) (cs : List AV) : Option AV := match bytesL cs with
  | some l => gif (Nat.beq cs.length len) (some (.str l))
  | none => none
theorem b2sCE_sound {len : Nat} {cs : List AV} {v : AV} (h : b2sCE len cs = some v) {K : AV → Prop} (hk : K v) : b2sC len cs K := by
  unfold b2sCE at h
  unfold b2sC
  split at h
  · rename_i l hl
    obtain ⟨h1, h2⟩ := gif_some h
    injection h2 with h2; subst h2
    rw [hl]
    exact ⟨Nat.eq_of_beq_eq_true h1, hk⟩
  · cases h
noncomputable def evRR (o : IOp) (e : IA → AV) (H : List AObj) : Option AV := match o with
  | .build zero ps => gif (fillE H zero.length (evPE e ps)) (some (.agg (fillP zero (evPE e ps))))
  | .b2s x => match e x with
    | .nils => some (.str [])
    | .sl len cs => b2sCE len cs
    | .osl id off len => match getO H id with
      | .arr _ es _ cs => gif (Nat.beq es 1) (b2sCE len ((cs.drop off).take len))
      | _ => none
    | _ => none
  | o => evR o e H
theorem evRR_sound {o : IOp} {f : List AV} {H : List AObj} {v : AV} (h : evRR o (ev f) H = some v) {K : AV → Prop} (hk : K v) : rop o f H K := by
  cases o
  case build zero ps =>
    simp only [evRR] at h
    obtain ⟨h1, h2⟩ := gif_some h
    injection h2 with h2; subst h2
    exact ⟨fillE_sound h1, hk⟩
  case b2s x =>
    simp only [evRR] at h
    simp only [rop]
    generalize ev f x = q at h
    cases q <;> simp only at h <;> try (cases h; done)
    · injection h with h; subst h; exact hk
    · exact b2sCE_sound h hk
    · simp only [getO] at h
      simp only [b2sP]
      rename_i id off len
      generalize H.getD id .dead = b at h
      cases b <;> simp only at h <;> try (cases h; done)
      obtain ⟨h1, h2⟩ := gif_some h
      exact ⟨Nat.eq_of_beq_eq_true h1, b2sCE_sound h2 hk⟩
  all_goals exact evR_sound (by simpa only [evRR] using h) hk

def srcE (H : List AObj) (sz : Nat) (x : AV) : Option (Nat × List AV) := match x with
  | .nils => some (0, [])
  | .sl len cs => gif (Nat.beq cs.length (len * sz)) (some (len, cs))
  | .osl id off len => match getO H id with
    | .arr _ _ _ cs => gif (Nat.ble (off + len * sz) cs.length) (some (len, (cs.drop off).take (len * sz)))
    | _ => none
  | _ => none
theorem srcE_sound {H : List AObj} {sz : Nat} {x : AV} {m : Nat} {l : List AV} (h : srcE H sz x = some (m, l)) {K : Nat → List AV → Prop} (hk : K m l) : srcP H sz x K := by
  cases x <;> simp only [srcE] at h <;> try (cases h; done)
  · injection h with h; injection h with h1 h2; subst h1 h2; exact hk
  · obtain ⟨h1, h2⟩ := gif_some h
    injection h2 with h2; injection h2 with h2 h3; subst h2 h3
    exact ⟨Nat.eq_of_beq_eq_true h1, hk⟩
  · simp only [getO] at h
    simp only [srcP]
    rename_i id off len
    generalize H.getD id .dead = b at h
    cases b <;> simp only at h <;> try (cases h; done)
    obtain ⟨h1, h2⟩ := gif_some h
    injection h2 with h2; injection h2 with h2 h3; subst h2 h3
    exact ⟨Nat.le_of_ble_eq_true h1, hk⟩

/-- What writes, or makes. -/
def evW (n0 : Nat) (o : IOp) (e : IA → AV) (H : List AObj) : Option (AV × Option Nat × List AObj) := match o with
  | .store n x v => match e x with
    | .own id o => match getO H id with
      | .arr t es l cs => gif (!l && Nat.beq (cellsOf (e v)).length n && Nat.blt 0 n && Nat.ble (o + n) cs.length && oneLE H (cellsOf (e v))) (some (.tup [], none, H.set id (.arr t es false (putAt cs o (cellsOf (e v))))))
      | _ => none
    | _ => none
  | .alloc t zero => some (.own H.length 0, none, H ++ [.arr t zero.length false zero])
  | .box t sz x => gif (Nat.beq (cellsOf (e x)).length sz && Nat.blt 0 sz && oneLE H (cellsOf (e x))) (some (.own H.length 0, none, H ++ [.arr t sz false (cellsOf (e x))]))
  | .mk t sz bytes zero l c => match e l, e c with
    | .int _ nl, .int _ nc => gif (decide (0 ≤ nl) && decide (nl ≤ nc) && decide (nc * bytes ≤ 140737488355328)) (some (.osl H.length 0 nl.toNat, none, H ++ [.arr t sz false (reps nl.toNat zero)]))
    | _, _ => none
  | .app t sz bytes b x => match srcE H sz (e x) with
    | some (m, src) => match e b with
      | .nils => gif (Nat.ble (m * bytes) 140737488355328 && oneLE H src) (some (.osl H.length 0 m, none, H ++ [.arr t sz false src]))
      | .osl id off len => match getO H id with
        | .arr t' es l cs => gif (Nat.ble n0 id && Nat.beq t' t && Nat.beq es sz && Nat.beq off 0 && Nat.beq cs.length (len * sz) && oneLE H src && !l && Nat.ble ((len + m) * bytes) 140737488355328)
            (some (.osl id 0 (len + m), some id, (H.map (killO id)).set id (.arr t sz false (killL id (cs ++ src)))))
        | _ => none
      | _ => none
    | none => none
  | _ => none
theorem evW_sound {C : Ctx} {o : IOp} {f : List AV} {H H' : List AObj} {x : AV} {k : Option Nat} (h : evW C.n0 o (ev f) H = some (x, k, H')) {K : AV → Option Nat → List AObj → Prop} (hk : K x k H') : wop C o f H K := by
  cases o <;> simp only [evW] at h <;> try (cases h; done)
  case store n x v =>
    simp only [wop]
    generalize ev f x = q at h
    generalize ev f v = r at h
    cases q <;> simp only at h <;> try (cases h; done)
    simp only [getO] at h
    simp only [storeP]
    rename_i id o
    generalize H.getD id .dead = b at h
    cases b <;> simp only at h <;> try (cases h; done)
    rename_i t es l cs
    obtain ⟨h1, h2⟩ := gif_some h
    simp only [Bool.and_eq_true, Bool.not_eq_true'] at h1
    injection h2 with h2; injection h2 with h2 h3; injection h3 with h3 h4
    subst h2 h3 h4
    obtain ⟨⟨⟨⟨rfl, g1⟩, g2⟩, g3⟩, g4⟩ := h1
    exact ⟨⟨Nat.eq_of_beq_eq_true g1, Nat.blt_eq.mp g2, Nat.le_of_ble_eq_true g3, oneLE_sound g4⟩, hk⟩
  case alloc t z =>
    injection h with h2; injection h2 with h2 h3; injection h3 with h3 h4
    subst h2 h3 h4
    exact hk
  case box t sz x =>
    obtain ⟨h1, h2⟩ := gif_some h
    simp only [Bool.and_eq_true] at h1
    injection h2 with h2; injection h2 with h2 h3; injection h3 with h3 h4
    subst h2 h3 h4
    exact ⟨⟨Nat.eq_of_beq_eq_true h1.1.1, Nat.blt_eq.mp h1.1.2, oneLE_sound h1.2⟩, hk⟩
  case mk t sz bytes zero l c =>
    simp only [wop]
    generalize ev f l = q at h
    generalize ev f c = r at h
    cases q <;> cases r <;> simp only at h <;> try (cases h; done)
    obtain ⟨h1, h2⟩ := gif_some h
    simp only [Bool.and_eq_true, decide_eq_true_eq] at h1
    injection h2 with h2; injection h2 with h2 h3; injection h3 with h3 h4
    subst h2 h3 h4
    exact ⟨⟨h1.1.1, h1.1.2, h1.2⟩, hk⟩
  case app t sz bytes b x =>
    simp only [wop, wappP]
    cases hs : srcE H sz (ev f x) with
    | none => rw [hs] at h; cases h
    | some ms =>
      obtain ⟨m, src⟩ := ms
      rw [hs] at h
      simp only at h
      refine srcE_sound hs ?_
      generalize ev f b = q at h
      cases q <;> simp only at h <;> try (cases h; done)
      · obtain ⟨h1, h2⟩ := gif_some h
        simp only [Bool.and_eq_true] at h1
        injection h2 with h2; injection h2 with h2 h3; injection h3 with h3 h4
        subst h2 h3 h4
        exact ⟨⟨Nat.le_of_ble_eq_true h1.1, oneLE_sound h1.2⟩, hk⟩
      · simp only [getO] at h
        simp only [wappB]
        rename_i id off len
        generalize H.getD id .dead = ob at h
        cases ob <;> simp only at h <;> try (cases h; done)
        rename_i t' es l cs
        obtain ⟨h1, h2⟩ := gif_some h
        simp only [Bool.and_eq_true, Bool.not_eq_true'] at h1
        injection h2 with h2; injection h2 with h2 h3; injection h3 with h3 h4
        subst h2 h3 h4
        obtain ⟨⟨⟨⟨⟨⟨⟨g1, g2⟩, g3⟩, g4⟩, g5⟩, g6⟩, rfl⟩, g8⟩ := h1
        exact ⟨⟨⟨Nat.le_of_ble_eq_true g1, Nat.eq_of_beq_eq_true g2, Nat.eq_of_beq_eq_true g3, Nat.eq_of_beq_eq_true g4, Nat.eq_of_beq_eq_true g5, oneLE_sound g6, fun e => by cases e⟩, Nat.le_of_ble_eq_true g8⟩, hk⟩

/-! ### Objects become trees -/
def frz1 (i : Nat) (f : List AV) (H : List AObj) : List AV × List AObj := match getO H i with
  | .arr _ es _ cs => match isFrzL cs with
    | true => (thawL i es cs f, (H.map (thawO i es cs)).set i .dead)
    | false => (f, H)
  | _ => (f, H)
theorem frz1_gh {G : Glob} {n0 : Nat} (i : Nat) (f : List AV) (H : List AObj) : Gh G n0 ⟨f, H⟩ ⟨(frz1 i f H).1, (frz1 i f H).2⟩ := by
  unfold frz1 getO
  split
  · rename_i t es l cs ho
    split
    · rename_i hz
      refine Gh.freeze (s := ⟨f, H⟩) (t := t) (lent := l) ?_ (isFrzL_iff cs hz)
      show H[i]? = some _
      rw [List.getD_eq_getElem?_getD] at ho
      cases h : H[i]? with
      | none => rw [h] at ho; simp at ho
      | some o => rw [h] at ho; simp at ho; rw [ho]
    · exact Gh.refl _ _ _
  · exact Gh.refl _ _ _
def frzAll {α : Type} : List Nat → List AV → List AObj → (List AV → List AObj → α) → α
  | [], f, H, k => k f H
  | i :: l, f, H, k => match frz1 i f H with
    | (f, H) => spine f fun f => frcH H fun H => frzAll l f H k
theorem frzAll_gh {α : Type} {G : Glob} {n0 : Nat} : ∀ (l : List Nat) (f : List AV) (H : List AObj), ∃ f' H', Gh G n0 ⟨f, H⟩ ⟨f', H'⟩ ∧ ∀ k : List AV → List AObj → α, frzAll l f H k = k f' H'
  | [], f, H => ⟨f, H, Gh.refl _ _ _, fun _ => rfl⟩
  | i :: l, f, H => by
    obtain ⟨f', H', h1, h2⟩ := frzAll_gh (α := α) (G := G) (n0 := n0) l (frz1 i f H).1 (frz1 i f H).2
    refine ⟨f', H', (frz1_gh i f H).trans h1, fun k => ?_⟩
    simp only [frzAll, spine_eq, frcH_eq]
    exact h2 k

/-- What becomes of the frame. -/
inductive FT where
  | keep
  | kill (i : Nat)
  | frame (f : List AV)
def frT (ft : FT) (f : List AV) : List AV := match ft with
  | .keep => f
  | .kill i => killL i f
  | .frame f' => f'
def ftK (k : Option Nat) : FT := match k with
  | none => .keep
  | some i => .kill i
theorem frT_ftK (k : Option Nat) (f : List AV) : frT (ftK k) f = killF k f := by cases k <;> rfl
/-! ### Steps -/
abbrev Cl := FuncId → List AV → List AObj → Option (AV × List AObj)
def CallOK (C : Ctx) (cl : Cl) : Prop := ∀ g args H x H', cl g args H = some (x, H') → C.call g args H fun y K => y = x ∧ K = H'
def PcOK (C : Ctx) (pcl : FuncId → List AV → Option AV) : Prop := ∀ g args x, pcl g args = some x → C.pc g args x
def EntOK (C : Ctx) (en : FuncId → Bool) : Prop := ∀ g, en g = true → C.ent g

/-- What is asked of the run of an operation. -/
noncomputable def evCall (cl : Cl) (fz : FuncId → Bool) (g : FuncId) (args : List AV) (f : List AV) (H : List AObj) : Option (AV × FT × Option (List AObj)) := match fz g && !isFrzL args with
  | false => match cl g args H with
    | some (x, H') => some (x, .keep, some H')
    | none => none
  | true => frzAll (List.range H.length ++ List.range H.length) (f ++ args) H fun fa H => match Nat.beq fa.length (f.length + args.length) with
    | true => match cl g (fa.drop f.length) H with
      | some (x, H') => some (x, .frame (fa.take f.length), some H')
      | none => none
    | false => none
noncomputable def evO (cl : Cl) (fz en : FuncId → Bool) (n0 : Nat) (o : IOp) (f : List AV) (e : IA → AV) (H : List AObj) : Option (AV × FT × Option (List AObj)) := match o with
  | .call g args => evCall cl fz g (args.map e) f H
  | .callv g args => match e g with
    | .fn g cap => match en g with
      | true => evCall cl fz g (args.map e ++ cap) f H
      | false => none
    | _ => none
  | .bslice t sz len zero ps => gif (fillE H (len * sz) (evPE e ps)) (some (.osl H.length 0 len, .keep, some (H ++ [.arr t sz false (fillP (reps len zero) (evPE e ps))])))
  | .mkmap k => some (.mref H.length, .keep, some (H ++ [.mp k []]))
  | .mapup x k v => match e x, e k with
    | .mref id, .int k n => match getO H id with
      | .mp k' es => gif (kEq k k' && isFrz (e v)) (some (.tup [], .keep, some (H.set id (.mp k (mset es n (e v))))))
      | _ => none
    | _, _ => none
  | .store _ _ _ | .alloc _ _ | .box _ _ _ | .mk _ _ _ _ _ _ | .app _ _ _ _ _ => match evW n0 o e H with
    | some (x, k, H') => some (x, ftK k, some H')
    | none => none
  | o => match evRR o e H with
    | some x => some (x, .keep, none)
    | none => none
def newH (H : List AObj) (h : Option (List AObj)) : List AObj := h.getD H
theorem evCall_sound {C : Ctx} {cl : Cl} {fz : FuncId → Bool} {G : Glob} (hG : ∀ s s', Gh G C.n0 s s' → C.gh s s') (hm : ∀ f args H R R', (∀ x H', R x H' → R' x H') → C.call f args H R → C.call f args H R') (hcl : CallOK C cl) {g : FuncId} {args f : List AV} {H : List AObj} {x : AV} {k : FT} {h' : Option (List AObj)}
    (h : evCall cl fz g args f H = some (x, k, h')) {K : AV → St → Prop} (hk : K x ⟨frT k f, newH H h'⟩) : ACall C g args ⟨f, H⟩ K := by
  unfold evCall at h
  cases hz : (fz g && !isFrzL args) with
  | false =>
    rw [hz] at h
    simp only at h
    cases hc : cl g args H with
    | none => rw [hc] at h; cases h
    | some xh =>
      rw [hc] at h
      simp only at h
      injection h with h2; injection h2 with h2 h3; injection h3 with h3 h4
      subst h2 h3 h4
      exact ⟨⟨f, H⟩, args, rfl, hG _ _ (Gh.refl _ _ _), hm _ _ _ _ _ (fun y K' ⟨e1, e2⟩ => by subst e1 e2; exact hk) (hcl g args H xh.1 xh.2 hc)⟩
  | true =>
    rw [hz] at h
    simp only at h
    obtain ⟨fa, Ha, g1, g2⟩ := frzAll_gh (α := Option (AV × FT × Option (List AObj))) (G := G) (n0 := C.n0) (List.range H.length ++ List.range H.length) (f ++ args) H
    rw [g2] at h
    cases hl : Nat.beq fa.length (f.length + args.length) with
    | false => rw [hl] at h; cases h
    | true =>
      rw [hl] at h
      simp only at h
      cases hc : cl g (fa.drop f.length) Ha with
      | none => rw [hc] at h; cases h
      | some xh =>
        rw [hc] at h
        simp only at h
        injection h with h2; injection h2 with h2 h3; injection h3 with h3 h4
        subst h2 h3 h4
        have hlen := Nat.eq_of_beq_eq_true hl
        refine ⟨⟨fa.take f.length, Ha⟩, fa.drop f.length, by simp; omega, hG _ _ ?_, hm _ _ _ _ _ (fun y K' ⟨e1, e2⟩ => by subst e1 e2; exact hk) (hcl g _ Ha xh.1 xh.2 hc)⟩
        simp only [List.take_append_drop]
        exact g1

theorem evO_sound {C : Ctx} {cl : Cl} {fz en : FuncId → Bool} {G : Glob} (hG : ∀ s s', Gh G C.n0 s s' → C.gh s s') (hg : ∀ s, C.gh s s) (hm : ∀ f args H R R', (∀ x H', R x H' → R' x H') → C.call f args H R → C.call f args H R') (hcl : CallOK C cl) (hen : EntOK C en) {o : IOp} {f : List AV} {H : List AObj} {x : AV} {k : FT} {h' : Option (List AObj)}
    (h : evO cl fz en C.n0 o f (ev f) H = some (x, k, h')) {K : AV → St → Prop} (hk : K x ⟨frT k f, newH H h'⟩) : aop C o ⟨f, H⟩ K := by
  have rd : evRR o (ev f) H = some x → k = .keep → h' = none → aop C o ⟨f, H⟩ K := fun h1 h2 h3 => by
    subst h2 h3
    exact rop_aop (evRR_sound h1 hk)
  have wr : ∀ k', k = ftK k' → evW C.n0 o (ev f) H = some (x, k', newH H h') → aop C o ⟨f, H⟩ K := fun k' hk' h1 => wop_aop hg (evW_sound h1 (by rw [hk', frT_ftK] at hk; exact hk))
  cases o <;> simp only [evO] at h
  case call g args => exact evCall_sound hG hm hcl h hk
  case callv g args =>
    simp only [aop]
    generalize ev f g = q at h
    cases q <;> simp only at h <;> try (cases h; done)
    rename_i g' cap
    cases he : en g' with
    | false => rw [he] at h; cases h
    | true =>
      rw [he] at h
      simp only at h
      exact ⟨hen _ he, evCall_sound hG hm hcl h hk⟩
  case bslice t sz len zero ps =>
    obtain ⟨h1, h2⟩ := gif_some h
    injection h2 with h2; injection h2 with h2 h3; injection h3 with h3 h4
    subst h2 h3 h4
    exact ⟨fillE_sound h1, hk⟩
  case mkmap t =>
    injection h with h2; injection h2 with h2 h3; injection h3 with h3 h4
    subst h2 h3 h4
    exact hk
  case mapup x' k' v =>
    simp only [aop]
    generalize ev f x' = q at h
    generalize ev f k' = r at h
    generalize ev f v = z at h
    cases q <;> cases r <;> simp only at h <;> try (cases h; done)
    simp only [getO] at h
    simp only [mapupP]
    rename_i id kk n
    generalize H.getD id .dead = b at h
    cases b <;> simp only at h <;> try (cases h; done)
    obtain ⟨h1, h2⟩ := gif_some h
    simp only [Bool.and_eq_true, kEq, decide_eq_true_eq] at h1
    injection h2 with h2; injection h2 with h2 h3; injection h3 with h3 h4
    subst h2 h3 h4
    exact ⟨⟨h1.1, isFrz_iff _ h1.2⟩, hk⟩
  case store n x' v =>
    split at h <;> try (cases h; done)
    rename_i y k' H' he
    injection h with h2; injection h2 with h2 h3; injection h3 with h3 h4
    subst h2 h3 h4
    exact wr _ rfl he
  case alloc t z =>
    split at h <;> try (cases h; done)
    rename_i y k' H' he
    injection h with h2; injection h2 with h2 h3; injection h3 with h3 h4
    subst h2 h3 h4
    exact wr _ rfl he
  case box t sz x' =>
    split at h <;> try (cases h; done)
    rename_i y k' H' he
    injection h with h2; injection h2 with h2 h3; injection h3 with h3 h4
    subst h2 h3 h4
    exact wr _ rfl he
  case mk t sz bytes zero l c =>
    split at h <;> try (cases h; done)
    rename_i y k' H' he
    injection h with h2; injection h2 with h2 h3; injection h3 with h3 h4
    subst h2 h3 h4
    exact wr _ rfl he
  case app t sz bytes b x' =>
    split at h <;> try (cases h; done)
    rename_i y k' H' he
    injection h with h2; injection h2 with h2 h3; injection h3 with h3 h4
    subst h2 h3 h4
    exact wr _ rfl he
  all_goals
    split at h <;> try (cases h; done)
    rename_i y he
    injection h with h2; injection h2 with h2 h3; injection h3 with h3 h4
    subst h2 h3 h4
    exact rd he rfl rfl
end Go.Avm
/- A piece of the small code, run: code, functions. -/
set_option linter.unusedSimpArgs false
set_option linter.unusedVariables false
namespace Go.Avm
open Go

/-! ### Steps -/
noncomputable def evFl (pcl : FuncId → List AV → Option AV) (en : FuncId → Bool) (o : IOp) (e : IA → AV) : Option AV := match o with
  | .mov x => match x with
    | .t _ => some (e x)
    | .v y => gif (isFrz y) (some (e x))
  | .call g args => match isFrzL (args.map e) with
    | true => pcl g (args.map e)
    | false => none
  | .callv g args => match e g with
    | .fn g' cap => match en g' && isFrzL (args.map e) && isFrzL cap with
      | true => pcl g' (args.map e ++ cap)
      | false => none
    | _ => none
  | .bslice t sz len zero ps => gif (isFrzL zero && isFrzL ((evPE e ps).map fun p => p.2.2) && fillE [] (len * sz) (evPE e ps)) (some (.sl len (fillP (reps len zero) (evPE e ps))))
  | .build zero ps => gif (isFrzL zero && isFrzL ((evPE e ps).map fun p => p.2.2) && fillE [] zero.length (evPE e ps)) (some (.agg (fillP zero (evPE e ps))))
  | .bin op x y => gif (isFrz (e x) && isFrz (e y)) (binE op (e x) (e y))
  | .fld n x => gif (isFrz (e x)) (evR (.fld n x) e [])
  | .load n x => gif (isFrz (e x)) (evR (.load n x) e [])
  | .idxA n x i => gif (isFrz (e x) && isFrz (e i)) (evR (.idxA n x i) e [])
  | .nilck x => gif (isFrz (e x)) (evR (.nilck x) e [])
  | .len x => gif (isFrz (e x)) (evR (.len x) e [])
  | .ext x i => gif (isFrz (e x)) (evR (.ext x i) e [])
  | .slc n x lo hi => gif (isFrz (e x)) (evR (.slc n x lo hi) e [])
  | _ => none
theorem evR_P {P : (AV → Prop) → Prop} {o : IOp} {f : List AV} {v : AV} (h : evR o (ev f) [] = some v) {K : AV → Prop} (hk : K v) : rop o f [] K := evR_sound h hk
theorem evFl_sound {C : Ctx} {pcl : FuncId → List AV → Option AV} {en : FuncId → Bool} (hpc : PcOK C pcl) (hen : EntOK C en) {o : IOp} {f : List AV} {v : AV} (h : evFl pcl en o (ev f) = some v) {K : AV → Prop} (hk : K v) : fop C o f K := by
  cases o <;> simp only [evFl] at h <;> try (cases h; done)
  case mov x =>
    cases x with
    | t i => simp only at h; injection h with h; subst h; exact ⟨trivial, hk⟩
    | v y =>
      simp only at h
      obtain ⟨h1, h2⟩ := gif_some h
      injection h2 with h2; subst h2
      exact ⟨isFrz_iff _ h1, hk⟩
  case call g args =>
    cases hz : isFrzL (args.map (ev f)) with
    | false => rw [hz] at h; cases h
    | true => rw [hz] at h; exact ⟨isFrzL_iff _ hz, v, hpc _ _ _ h, hk⟩
  case callv g args =>
    simp only [fop]
    generalize ev f g = q at h
    cases q <;> simp only at h <;> try (cases h; done)
    rename_i g' cap
    cases hz : (en g' && isFrzL (args.map (ev f)) && isFrzL cap) with
    | false => rw [hz] at h; cases h
    | true =>
      rw [hz] at h
      simp only [Bool.and_eq_true] at hz
      exact ⟨⟨hen _ hz.1.1, isFrzL_iff _ hz.1.2, isFrzL_iff _ hz.2⟩, v, hpc _ _ _ h, hk⟩
  case bslice t sz len zero ps =>
    obtain ⟨h1, h2⟩ := gif_some h
    simp only [Bool.and_eq_true] at h1
    injection h2 with h2; subst h2
    exact ⟨⟨isFrzL_iff _ h1.1.1, isFrzL_iff _ h1.1.2⟩, fillE_sound h1.2, hk⟩
  case build zero ps =>
    obtain ⟨h1, h2⟩ := gif_some h
    simp only [Bool.and_eq_true] at h1
    injection h2 with h2; subst h2
    exact ⟨frzL_append.2 ⟨isFrzL_iff _ h1.1.1, isFrzL_iff _ h1.1.2⟩, fillE_sound h1.2, hk⟩
  case bin op x y =>
    obtain ⟨h1, h2⟩ := gif_some h
    simp only [Bool.and_eq_true] at h1
    exact ⟨⟨isFrz_iff _ h1.1, isFrz_iff _ h1.2, trivial⟩, binE_sound h2 hk⟩
  case fld n x =>
    obtain ⟨h1, h2⟩ := gif_some h
    exact ⟨⟨isFrz_iff _ h1, trivial⟩, evR_sound (o := .fld n x) h2 hk⟩
  case load n x =>
    obtain ⟨h1, h2⟩ := gif_some h
    exact ⟨⟨isFrz_iff _ h1, trivial⟩, evR_sound (o := .load n x) h2 hk⟩
  case idxA n x i =>
    obtain ⟨h1, h2⟩ := gif_some h
    simp only [Bool.and_eq_true] at h1
    exact ⟨⟨isFrz_iff _ h1.1, isFrz_iff _ h1.2, trivial⟩, evR_sound (o := .idxA n x i) h2 hk⟩
  case nilck x =>
    obtain ⟨h1, h2⟩ := gif_some h
    exact ⟨⟨isFrz_iff _ h1, trivial⟩, evR_sound (o := .nilck x) h2 hk⟩
  case len x =>
    obtain ⟨h1, h2⟩ := gif_some h
    exact ⟨⟨isFrz_iff _ h1, trivial⟩, evR_sound (o := .len x) h2 hk⟩
  case ext x i =>
    obtain ⟨h1, h2⟩ := gif_some h
    exact ⟨⟨isFrz_iff _ h1, trivial⟩, evR_sound (o := .ext x i) h2 hk⟩
  case slc n x lo hi =>
    obtain ⟨h1, h2⟩ := gif_some h
    exact ⟨⟨isFrz_iff _ h1, trivial⟩, evR_sound (o := .slc n x lo hi) h2 hk⟩

noncomputable def evX (cl : Cl) (pcl : FuncId → List AV → Option AV) (en : FuncId → Bool) (n0 : Nat) (c : Nat) (o : IOp) (e : IA → AV) (H : List AObj) : Option (AV × Option Nat × Option (List AObj)) := match c with
  | 0 => match evFl pcl en o e with
    | some x => some (x, none, none)
    | none => none
  | 1 => match evRR o e H with
    | some x => some (x, none, none)
    | none => none
  | _ => match o with
    | .call g args => match cl g (args.map e) H with
      | some (x, H') => some (x, none, some H')
      | none => none
    | o => match evW n0 o e H with
      | some (x, k, H') => some (x, k, some H')
      | none => none
theorem evX_sound {C : Ctx} {cl : Cl} {pcl : FuncId → List AV → Option AV} {en : FuncId → Bool} (hen : EntOK C en) (hm : ∀ f args H R R', (∀ x H', R x H' → R' x H') → C.call f args H R → C.call f args H R') (hcl : CallOK C cl) (hpc : PcOK C pcl) {c : Nat} {o : IOp} {f : List AV} {H : List AObj} {x : AV} {k : Option Nat} {h' : Option (List AObj)}
    (h : evX cl pcl en C.n0 c o (ev f) H = some (x, k, h')) {K : AV → Option Nat → List AObj → Prop} (hk : K x k (newH H h')) : ex1 C c o f H K := by
  match c with
  | 0 =>
    simp only [evX] at h
    split at h <;> try (cases h; done)
    rename_i y he
    injection h with h2; injection h2 with h2 h3; injection h3 with h3 h4
    subst h2 h3 h4
    rw [ex1_0]
    exact evFl_sound hpc hen he hk
  | 1 =>
    simp only [evX] at h
    split at h <;> try (cases h; done)
    rename_i y he
    injection h with h2; injection h2 with h2 h3; injection h3 with h3 h4
    subst h2 h3 h4
    rw [ex1_1]
    exact evRR_sound he hk
  | c + 2 =>
    show wop C o f H K
    by_cases hc : ∃ g args, o = .call g args
    · obtain ⟨g, args, rfl⟩ := hc
      simp only [evX] at h
      cases hcc : cl g (args.map (ev f)) H with
      | none => rw [hcc] at h; cases h
      | some xh =>
        rw [hcc] at h
        simp only at h
        injection h with h2; injection h2 with h2 h3; injection h3 with h3 h4
        subst h2 h3 h4
        exact hm _ _ _ _ _ (fun y K' ⟨e1, e2⟩ => by subst e1 e2; exact hk) (hcl g _ H xh.1 xh.2 hcc)
    · have h5 : evX cl pcl en C.n0 (c + 2) o (ev f) H = (match evW C.n0 o (ev f) H with
          | some (x, k, H') => some (x, k, some H')
          | none => none) := by
        cases o <;> first | rfl | exact absurd ⟨_, _, rfl⟩ hc
      rw [h5] at h
      split at h <;> try (cases h; done)
      rename_i y k' H' he
      injection h with h2; injection h2 with h2 h3; injection h3 with h3 h4
      subst h2 h3 h4
      exact evW_sound he hk

/-! ### A list of steps -/
def killX {α : Type} (i : Nat) (x : AV) (k : AV → α) : α := match x with
  | .own j o => match Nat.beq j i with
    | true => k .junk
    | false => k (.own j o)
  | .osl j o n => match Nat.beq j i with
    | true => k .junk
    | false => k (.osl j o n)
  | .agg cs => frcV (kill i (.agg cs)) k
  | .tup cs => frcV (kill i (.tup cs)) k
  | .fn f cs => frcV (kill i (.fn f cs)) k
  | .mref j => frcV (kill i (.mref j)) k
  | .int t n => k (.int t n)
  | .bool b => k (.bool b)
  | .str s => k (.str s)
  | .nilp => k .nilp
  | .ptr cs o => k (.ptr cs o)
  | .nils => k .nils
  | .sl n cs => k (.sl n cs)
  | .raw v => k (.raw v)
  | .junk => k .junk
theorem killX_eq {α : Type} (i : Nat) (x : AV) (k : AV → α) : killX i x k = k (kill i x) := by
  cases x <;> simp only [killX, kill, frcV_eq]
  · rename_i j o
    cases h : Nat.beq j i with
    | true => rw [if_pos (Nat.eq_of_beq_eq_true h)]
    | false => rw [if_neg (fun e => by rw [e, Nat.beq_refl] at h; cases h)]
  · rename_i j o n
    cases h : Nat.beq j i with
    | true => rw [if_pos (Nat.eq_of_beq_eq_true h)]
    | false => rw [if_neg (fun e => by rw [e, Nat.beq_refl] at h; cases h)]
def killLX {α : Type} (i : Nat) : List AV → (List AV → α) → α
  | [], k => k []
  | x :: l, k => killX i x fun x => killLX i l fun l => k (x :: l)
theorem killLX_eq {α : Type} (i : Nat) : ∀ (l : List AV) (k : List AV → α), killLX i l k = k (killL i l)
  | [], _ => rfl
  | x :: l, k => by simp only [killLX, killX_eq, killLX_eq i l, killL]
def killFX {α : Type} (i : Option Nat) (f : List AV) (k : List AV → α) : α := match i with
  | none => k f
  | some i => killLX i f k
theorem killFX_eq {α : Type} (i : Option Nat) (f : List AV) (k : List AV → α) : killFX i f k = k (killF i f) := by
  cases i <;> simp only [killFX, killF, killLX_eq]
noncomputable def putX {α : Type} (f : List AV) (d : Option Nat) (x : AV) (k : List AV → α) : α := match d with
  | none => k f
  | some d => setF f d x k
theorem putX_eq {α : Type} (f : List AV) (d : Option Nat) (x : AV) (k : List AV → α) : putX f d x k = k (put f d x) := by
  cases d <;> simp only [putX, put, setF_eq]
def newHX {α : Type} (H : List AObj) (h : Option (List AObj)) (k : List AObj → α) : α := match h with
  | none => k H
  | some H => frcH H k
theorem newHX_eq {α : Type} (H : List AObj) (h : Option (List AObj)) (k : List AObj → α) : newHX H h k = k (newH H h) := by
  cases h <;> simp [newHX, newH, frcH_eq]

noncomputable def gdX (f : List AV) (g : Option (Nat × Bool)) : Option Bool := match g with
  | none => some true
  | some (j, b) => match getF f j with
    | .bool t => match t with
      | true => some b
      | false => some (!b)
    | .tup vs => match vs with
      | [] => some false
      | _ => none
    | _ => none
theorem gdX_eq (f : List AV) (g : Option (Nat × Bool)) : gdX f g = gd f g := by
  cases g with
  | none => rfl
  | some jb =>
    obtain ⟨j, b⟩ := jb
    simp only [gdX, gd, getF_eq]
    generalize f.getD j .junk = x
    cases x <;> try rfl
    · rename_i t
      cases t <;> cases b <;> rfl
    · rename_i vs
      cases vs <;> rfl

def frTX {α : Type} (ft : FT) (f : List AV) (k : List AV → α) : α := match ft with
  | .keep => k f
  | .kill i => killLX i f k
  | .frame f' => spine f' k
theorem frTX_eq {α : Type} (ft : FT) (f : List AV) (k : List AV → α) : frTX ft f k = k (frT ft f) := by
  cases ft <;> simp only [frTX, frT, killLX_eq, spine_eq]
noncomputable def evOps (cl : Cl) (fz en : FuncId → Bool) (n0 : Nat) : List IStep → List AV → List AObj → Option (List AV × List AObj)
  | [], f, H => some (f, H)
  | o :: os, f, H => match gdX f o.g with
    | some true => match evO cl fz en n0 o.op f (evQ f) H with
      | some (x, k, h) => frcV x fun x => frTX k f fun f => putX f o.dst x fun f => newHX H h fun H => evOps cl fz en n0 os f H
      | none => none
    | some false => putX f o.dst (.tup []) fun f => evOps cl fz en n0 os f H
    | none => none
noncomputable def evDs (cl : Cl) (pcl : FuncId → List AV → Option AV) (en : FuncId → Bool) (n0 : Nat) : List (IStep × Nat) → List AV → List AObj → Option (List AV × List AObj)
  | [], f, H => some (f, H)
  | (o, c) :: os, f, H => match gdX f o.g with
    | some true => match evX cl pcl en n0 c o.op (evQ f) H with
      | some (x, k, h) => frcV x fun x => killFX k f fun f => putX f o.dst x fun f => newHX H h fun H => evDs cl pcl en n0 os f H
      | none => none
    | some false => putX f o.dst (.tup []) fun f => evDs cl pcl en n0 os f H
    | none => none

section
variable {C : Ctx} {G : Glob} {cl : Cl} {pcl : FuncId → List AV → Option AV} {fz en : FuncId → Bool}
structure EvOK (G : Glob) (C : Ctx) (cl : Cl) (pcl : FuncId → List AV → Option AV) (en : FuncId → Bool) : Prop where
  gh : ∀ s, C.gh s s
  ghs : ∀ s s', Gh G C.n0 s s' → C.gh s s'
  mono : ∀ f args H R R', (∀ x H', R x H' → R' x H') → C.call f args H R → C.call f args H R'
  cl : CallOK C cl
  pc : PcOK C pcl
  en : EntOK C en

theorem aops_iff {K : St → Prop} {o : IStep} {os : List IStep} {s : St} : aops C K (o :: os) s ↔ (match gd s.f o.g with
    | some true => aop C o.op s fun x s' => aops C K os ⟨put s'.f o.dst x, s'.H⟩
    | some false => aops C K os ⟨put s.f o.dst (.tup []), s.H⟩
    | none => False) := by
  obtain ⟨d, op, g⟩ := o
  cases g with
  | none => simp only [aops, gd]
  | some jb =>
    obtain ⟨j, b⟩ := jb
    simp only [aops, gd, wantB_iff]
    generalize s.f.getD j .junk = x
    cases x <;> try rfl
    · rename_i t
      cases t <;> cases b <;> simp
    · rename_i vs
      cases vs <;> simp

theorem evOps_sound (hE : EvOK G C cl pcl en) : ∀ (os : List IStep) (f : List AV) (H : List AObj) (f' : List AV) (H' : List AObj), evOps cl fz en C.n0 os f H = some (f', H') → ∀ K : St → Prop, K ⟨f', H'⟩ → aops C K os ⟨f, H⟩
  | [], f, H, f', H', h, K, hk => by
    simp only [evOps] at h
    injection h with h; injection h with h1 h2; subst h1 h2
    exact hk
  | o :: os, f, H, f', H', h, K, hk => by
    rw [aops_iff]
    simp only [evOps, gdX_eq] at h
    simp only
    cases hg : gd f o.g with
    | none => rw [hg] at h; cases h
    | some r =>
      rw [hg] at h
      cases r with
      | false =>
        simp only [putX_eq] at h ⊢
        exact evOps_sound hE os _ _ _ _ h K hk
      | true =>
        simp only at h ⊢
        rw [evQ_eq] at h
        cases ho : evO cl fz en C.n0 o.op f (ev f) H with
        | none => rw [ho] at h; cases h
        | some r =>
          obtain ⟨x, k, hh⟩ := r
          rw [ho] at h
          simp only [frcV_eq, frTX_eq, putX_eq, newHX_eq] at h
          exact evO_sound hE.ghs hE.gh hE.mono hE.cl hE.en ho (evOps_sound hE os _ _ _ _ h K hk)

theorem evDs_sound (hE : EvOK G C cl pcl en) : ∀ (os : List (IStep × Nat)) (f : List AV) (H : List AObj) (f' : List AV) (H' : List AObj), evDs cl pcl en C.n0 os f H = some (f', H') → ∀ K : St → Prop, K ⟨f', H'⟩ → dops C K os ⟨f, H⟩
  | [], f, H, f', H', h, K, hk => by
    simp only [evDs] at h
    injection h with h; injection h with h1 h2; subst h1 h2
    exact hk
  | (o, c) :: os, f, H, f', H', h, K, hk => by
    simp only [dops]
    rw [dst1_iff]
    simp only [evDs, gdX_eq] at h
    simp only
    cases hg : gd f o.g with
    | none => rw [hg] at h; cases h
    | some r =>
      rw [hg] at h
      cases r with
      | false =>
        simp only [putX_eq] at h ⊢
        exact evDs_sound hE os _ _ _ _ h K hk
      | true =>
        simp only at h ⊢
        rw [evQ_eq] at h
        cases ho : evX cl pcl en C.n0 c o.op (ev f) H with
        | none => rw [ho] at h; cases h
        | some r =>
          obtain ⟨x, k, hh⟩ := r
          rw [ho] at h
          simp only [frcV_eq, killFX_eq, putX_eq, newHX_eq] at h
          exact evX_sound hE.en hE.mono hE.cl hE.pc ho (evDs_sound hE os _ _ _ _ h K hk)

/-! ### Code -/
abbrev Out := Option (Ex × List AV × List AObj)
def iter (b : List AV → List AObj → Out) : Nat → List AV → List AObj → Out
  | 0, _, _ => none
  | n + 1, f, H => match b f H with
    | some (.normal, f, H) => iter b n f H
    | some (.exit i, f, H) => some (.exit i, f, H)
    | some (.ret, f, H) => some (.ret, f, H)
    | none => none
noncomputable def evC (cl : Cl) (pcl : FuncId → List AV → Option AV) (fz en : FuncId → Bool) (n0 fuel : Nat) : IC → List AV → List AObj → Out
  | .skip, f, H => some (.normal, f, H)
  | .reg ops, f, H => match evOps cl fz en n0 ops f H with
    | some (f, H) => some (.normal, f, H)
    | none => none
  | .regD ops, f, H => match evDs cl pcl en n0 ops f H with
    | some (f, H) => some (.normal, f, H)
    | none => none
  | .seq a b, f, H => match evC cl pcl fz en n0 fuel a f H with
    | some (.normal, f, H) => evC cl pcl fz en n0 fuel b f H
    | some (.exit i, f, H) => some (.exit i, f, H)
    | some (.ret, f, H) => some (.ret, f, H)
    | none => none
  | .cond c a b, f, H => match evQ f c with
    | .bool t => match t with
      | true => evC cl pcl fz en n0 fuel a f H
      | false => evC cl pcl fz en n0 fuel b f H
    | _ => none
  | .block id b, f, H => match evC cl pcl fz en n0 fuel b f H with
    | some (.normal, f, H) => some (.normal, f, H)
    | some (.exit i, f, H) => match Nat.beq i id with
      | true => some (.normal, f, H)
      | false => some (.exit i, f, H)
    | some (.ret, f, H) => some (.ret, f, H)
    | none => none
  | .loop b, f, H => iter (evC cl pcl fz en n0 fuel b) fuel f H
  | .exit i, f, H => some (.exit i, f, H)
  | .ret, f, H => some (.ret, f, H)

theorem evC_sound (hE : EvOK G C cl pcl en) {fuel : Nat} : ∀ (c : IC) (f : List AV) (H : List AObj) (e : Ex) (f' : List AV) (H' : List AObj), evC cl pcl fz en C.n0 fuel c f H = some (e, f', H') → ∀ K : Ex → St → Prop, K e ⟨f', H'⟩ → awp C c K ⟨f, H⟩ := by
  intro c
  induction c with
  | skip =>
    intro f H e f' H' h K hk
    simp only [evC] at h
    injection h with h; injection h with h1 h2; injection h2 with h2 h3; subst h1 h2 h3
    exact hk
  | reg ops =>
    intro f H e f' H' h K hk
    simp only [evC] at h
    cases ho : evOps cl fz en C.n0 ops f H with
    | none => rw [ho] at h; cases h
    | some r =>
      rw [ho] at h
      simp only at h
      injection h with h; injection h with h1 h2; injection h2 with h2 h3; subst h1 h2 h3
      exact evOps_sound hE ops f H _ _ ho _ hk
  | regD ops =>
    intro f H e f' H' h K hk
    simp only [evC] at h
    cases ho : evDs cl pcl en C.n0 ops f H with
    | none => rw [ho] at h; cases h
    | some r =>
      rw [ho] at h
      simp only at h
      injection h with h; injection h with h1 h2; injection h2 with h2 h3; subst h1 h2 h3
      exact evDs_sound hE ops f H _ _ ho _ hk
  | seq a b iha ihb =>
    intro f H e f' H' h K hk
    simp only [evC] at h
    simp only [awp]
    cases ho : evC cl pcl fz en C.n0 fuel a f H with
    | none => rw [ho] at h; cases h
    | some r =>
      obtain ⟨e1, f1, H1⟩ := r
      rw [ho] at h
      refine iha f H e1 f1 H1 ho _ ?_
      cases e1 with
      | normal => exact ihb f1 H1 e f' H' h K hk
      | exit i =>
        simp only at h
        injection h with h; injection h with h1 h2; injection h2 with h2 h3; subst h1 h2 h3
        exact hk
      | ret =>
        simp only at h
        injection h with h; injection h with h1 h2; injection h2 with h2 h3; subst h1 h2 h3
        exact hk
  | cond c a b iha ihb =>
    intro f H e f' H' h K hk
    simp only [evC, evQ_eq] at h
    simp only [awp]
    generalize ev f c = q at h
    cases q <;> simp only at h <;> try (cases h; done)
    rename_i t
    simp only [condP]
    cases t with
    | true => exact ⟨fun _ => iha f H e f' H' h K hk, fun e => by cases e⟩
    | false => exact ⟨fun e => (by cases e), fun _ => ihb f H e f' H' h K hk⟩
  | block id b ih =>
    intro f H e f' H' h K hk
    simp only [evC] at h
    simp only [awp]
    cases ho : evC cl pcl fz en C.n0 fuel b f H with
    | none => rw [ho] at h; cases h
    | some r =>
      obtain ⟨e1, f1, H1⟩ := r
      rw [ho] at h
      refine ih f H e1 f1 H1 ho _ ?_
      cases e1 with
      | normal =>
        simp only at h
        injection h with h; injection h with h1 h2; injection h2 with h2 h3; subst h1 h2 h3
        exact hk
      | ret =>
        simp only at h
        injection h with h; injection h with h1 h2; injection h2 with h2 h3; subst h1 h2 h3
        exact hk
      | exit i =>
        simp only at h
        simp only [exBlock]
        cases hb : Nat.beq i id with
        | true =>
          rw [hb] at h
          simp only at h
          injection h with h; injection h with h1 h2; injection h2 with h2 h3; subst h1 h2 h3
          rw [if_pos (Nat.eq_of_beq_eq_true hb)]
          exact hk
        | false =>
          rw [hb] at h
          simp only at h
          injection h with h; injection h with h1 h2; injection h2 with h2 h3; subst h1 h2 h3
          rw [if_neg (fun e => by rw [e, Nat.beq_refl] at hb; cases hb)]
          exact hk
  | loop b ih =>
    intro f H e f' H' h K hk
    simp only [evC] at h
    simp only [awp]
    refine ⟨fun n s => iter (evC cl pcl fz en C.n0 fuel b) n s.f s.H = some (e, f', H'), fuel, ⟨f, H⟩, hE.gh _, h, ?_⟩
    intro n s hI
    cases n with
    | zero => simp [iter] at hI
    | succ n =>
      simp only [iter] at hI
      cases ho : evC cl pcl fz en C.n0 fuel b s.f s.H with
      | none => rw [ho] at hI; cases hI
      | some r =>
        obtain ⟨e1, f1, H1⟩ := r
        rw [ho] at hI
        refine ih s.f s.H e1 f1 H1 ho _ ?_
        cases e1 with
        | normal => exact ⟨⟨f1, H1⟩, n, hE.gh _, Nat.lt_succ_self n, hI⟩
        | exit i =>
          simp only at hI
          injection hI with h; injection h with h1 h2; injection h2 with h2 h3; subst h1 h2 h3
          exact hk
        | ret =>
          simp only at hI
          injection hI with h; injection h with h1 h2; injection h2 with h2 h3; subst h1 h2 h3
          exact hk
  | exit i =>
    intro f H e f' H' h K hk
    simp only [evC] at h
    injection h with h; injection h with h1 h2; injection h2 with h2 h3; subst h1 h2 h3
    exact hk
  | ret =>
    intro f H e f' H' h K hk
    simp only [evC] at h
    injection h with h; injection h with h1 h2; injection h2 with h2 h3; subst h1 h2 h3
    exact hk
end
end Go.Avm
/- A piece of the small code, run: functions, by a table. -/
set_option linter.unusedSimpArgs false
set_option linter.unusedVariables false
namespace Go.Avm
open Go

noncomputable def resE1 (f : List AV) (H : List AObj) (r : IR) : Option AV := match r with
  | .t i => some (getF f i)
  | .c i n => match getF f i with
    | .ptr cs o => loadE n cs o
    | .own id o => match getO H id with
      | .arr _ _ _ cs => loadE n cs o
      | _ => none
    | _ => none
noncomputable def resE (f : List AV) (H : List AObj) : List IR → Option (List AV)
  | [] => some []
  | r :: rs => match resE1 f H r with
    | some x => match resE f H rs with
      | some xs => some (x :: xs)
      | none => none
    | none => none
theorem resE1_sound {f : List AV} {H : List AObj} {r : IR} {x : AV} (h : resE1 f H r = some x) {K : AV → Prop} (hk : K x) : resP1 ⟨f, H⟩ r K := by
  cases r with
  | t i =>
    simp only [resE1, getF_eq] at h
    injection h with h; subst h
    exact hk
  | c i n =>
    simp only [resE1, getF_eq] at h
    simp only [resP1]
    generalize f.getD i .junk = q at h
    cases q <;> simp only at h <;> try (cases h; done)
    · exact loadE_sound h hk
    · simp only [getO] at h
      simp only [loadP]
      rename_i id o
      generalize H.getD id .dead = b at h
      cases b <;> simp only at h <;> try (cases h; done)
      exact loadE_sound h hk
theorem resE_sound {f : List AV} {H : List AObj} : ∀ {rs : List IR} {xs : List AV}, resE f H rs = some xs → ∀ {K : List AV → Prop}, K xs → resP ⟨f, H⟩ rs K
  | [], xs, h, K, hk => by
    simp only [resE] at h
    injection h with h; subst h
    exact hk
  | r :: rs, xs, h, K, hk => by
    simp only [resE] at h
    cases h1 : resE1 f H r with
    | none => rw [h1] at h; cases h
    | some x =>
      rw [h1] at h
      simp only at h
      cases h2 : resE f H rs with
      | none => rw [h2] at h; cases h
      | some ys =>
        rw [h2] at h
        simp only at h
        injection h with h; subst h
        exact resE1_sound h1 (resE_sound h2 (K := fun xs => K (x :: xs)) hk)

/-! ### Functions -/
inductive Tb where
  | leaf
  | node (k : Nat) (v : IF) (l r : Tb)
def Tb.find (n : Nat) : Tb → Option IF
  | .leaf => none
  | .node k v l r => match Nat.beq n k with
    | true => some v
    | false => match Nat.blt n k with
      | true => l.find n
      | false => r.find n
def Tb.OK (P : Program) : Tb → Prop
  | .leaf => True
  | .node k v l r => lowF P k = some v ∧ l.OK P ∧ r.OK P
theorem Tb.find_ok {P : Program} {n : Nat} {F : IF} : ∀ {t : Tb}, t.OK P → t.find n = some F → lowF P n = some F
  | .leaf, _, h => by simp [Tb.find] at h
  | .node k v l r, ho, h => by
    simp only [Tb.find] at h
    simp only [Tb.OK] at ho
    cases hb : Nat.beq n k with
    | true =>
      rw [hb] at h
      simp only at h
      injection h with h; subst h
      rw [Nat.eq_of_beq_eq_true hb]
      exact ho.1
    | false =>
      rw [hb] at h
      simp only at h
      cases hl : Nat.blt n k with
      | true => rw [hl] at h; exact Tb.find_ok ho.2.1 h
      | false => rw [hl] at h; exact Tb.find_ok ho.2.2 h

noncomputable def retE (pure_ : Bool) (rs : List IR) (f : List AV) (H : List AObj) : Option (AV × List AObj) := match pure_ with
  | false => match resE f H rs with
    | some xs => some (tupOf xs, H)
    | none => none
  | true => match resE f H rs with
    | some xs => match isFrz (tupOf xs) with
      | true => some (tupOf xs, H)
      | false => frzAll (List.range H.length ++ List.range H.length ++ List.range H.length) (keepF (rs.map fun | .t i => i | .c i _ => i) 0 f) H fun f H =>
        match resE f H rs with
        | some xs => some (tupOf xs, H)
        | none => none
    | none => none

noncomputable def initX (args : List AV) (n : Nat) : List AV := args ++ List.replicate (n - args.length) (.tup [])

def pureM (kp : FuncId → Bool) (g : FuncId) (args : List AV) : Bool := match kp g with
  | true => false
  | false => isFrzL args
theorem pureM_frz {kp : FuncId → Bool} {g : FuncId} {args : List AV} (h : pureM kp g args = true) : isFrzL args = true := by
  unfold pureM at h
  cases hk : kp g <;> rw [hk] at h
  · exact h
  · cases h
/-- kp: whose results stay objects of the caller's own. -/
noncomputable def evFn (kp fz : FuncId → Bool) (t : Tb) (prim : FuncId → List AV → Option AV) (en : FuncId → Bool) (fuel : Nat) : Nat → Cl
  | 0, _, _, _ => none
  | d + 1, g, args, H =>
    let run (args : List AV) (H : List AObj) (p : Bool) : Option (AV × List AObj) := match t.find g with
      | none => none
      | some F => spine (initF args F.n) fun f => match evC (evFn kp fz t prim en fuel d) (fun g args => match evFn kp fz t prim en fuel d g args [] with
          | some (x, _) => match isFrz x with
            | true => some x
            | false => none
          | none => none) fz en H.length fuel F.body f H with
        | some (.normal, f, H) => retE p F.res f H
        | some (.ret, f, H) => retE p F.res f H
        | _ => none
    match pureM kp g args with
    | true => match prim g args with
      | some v => some (v, H)
      | none => match run args [] true with
        | some (x, _) => match isFrz x with
          | true => frcV x fun x => some (x, H)
          | false => match H with
            | [] => run args [] true
            | _ => none
        | none => none
    | false => match run args H false with
      | some (x, H) => some (x, H)
      | none => none

theorem run_sound {P : Program} {G : Glob} (hm : P.follows .mixedOrders = true) {cl : Cl} {pcl : FuncId → List AV → Option AV} {fz en : FuncId → Bool} {fuel : Nat} {g : FuncId} {F : IF} (hF : lowF P g = some F) {args : List AV} {H : List AObj}
    (hE : EvOK G (ctx P G H.length) cl pcl en) {p : Bool} {x : AV} {H' : List AObj}
    (h : (match evC cl pcl fz en H.length fuel F.body (initF args F.n) H with
        | some (.normal, f, H) => retE p F.res f H
        | some (.ret, f, H) => retE p F.res f H
        | _ => none) = some (x, H')) : AC P G g args H fun y K => y = x ∧ K = H' := by
  have ret : ∀ f1 H1, retE p F.res f1 H1 = some (x, H') → RetOK (ctx P G H.length) F.res (fun y K => y = x ∧ K = H') ⟨f1, H1⟩ := by
    intro f1 H1 hr
    have plain : ∀ s f2 H2 xs, Gh G H.length s ⟨f2, H2⟩ → resE f2 H2 F.res = some xs → tupOf xs = x → H2 = H' → RetOK (ctx P G H.length) F.res (fun y K => y = x ∧ K = H') s := fun s f2 H2 xs hg h1 h2 h3 =>
      ⟨⟨f2, H2⟩, hg, resE_sound h1 ⟨h2, h3⟩⟩
    cases p with
    | false =>
      simp only [retE] at hr
      cases h1 : resE f1 H1 F.res with
      | none => rw [h1] at hr; cases hr
      | some xs =>
        rw [h1] at hr
        simp only at hr
        injection hr with hr; injection hr with h2 h3
        exact plain _ f1 H1 xs (Gh.refl _ _ _) h1 h2 h3
    | true =>
      simp only [retE] at hr
      cases h1 : resE f1 H1 F.res with
      | none => rw [h1] at hr; cases hr
      | some xs =>
        rw [h1] at hr
        simp only at hr
        cases hz : isFrz (tupOf xs) with
        | true =>
          rw [hz] at hr
          simp only at hr
          injection hr with hr; injection hr with h2 h3
          exact plain _ f1 H1 xs (Gh.refl _ _ _) h1 h2 h3
        | false =>
          rw [hz] at hr
          simp only at hr
          obtain ⟨f2, H2, g1, g2⟩ := frzAll_gh (α := Option (AV × List AObj)) (G := G) (n0 := H.length) (List.range H1.length ++ List.range H1.length ++ List.range H1.length) (keepF (F.res.map fun | .t i => i | .c i _ => i) 0 f1) H1
          rw [g2] at hr
          cases h2 : resE f2 H2 F.res with
          | none => rw [h2] at hr; cases hr
          | some ys =>
            rw [h2] at hr
            simp only at hr
            injection hr with hr; injection hr with h3 h4
            exact plain _ f2 H2 ys ((Gh.keep ⟨f1, H1⟩ _).trans g1) h2 h3 h4
  refine AC_of_awp hF rfl hm ?_
  cases ho : evC cl pcl fz en H.length fuel F.body (initF args F.n) H with
  | none => rw [ho] at h; cases h
  | some r =>
    obtain ⟨e, f1, H1⟩ := r
    rw [ho] at h
    refine evC_sound hE F.body _ _ e f1 H1 ho _ ?_
    cases e with
    | normal => exact ret f1 H1 h
    | ret => exact ret f1 H1 h
    | exit i => cases h

theorem evFn_sound {P : Program} {G : Glob} {kp fz : FuncId → Bool} (hm : P.follows .mixedOrders = true) {t : Tb} (ht : t.OK P) {prim : FuncId → List AV → Option AV} (hp : ∀ g args v, FrzL args → prim g args = some v → PE P G g args v) {en : FuncId → Bool} (hen : ∀ g, en g = true → Ent P g) {fuel : Nat} :
    ∀ (d : Nat) (g : FuncId) (args : List AV) (H : List AObj) (x : AV) (H' : List AObj), evFn kp fz t prim en fuel d g args H = some (x, H') → AC P G g args H fun y K => y = x ∧ K = H'
  | 0, _, _, _, _, _, h => by simp [evFn] at h
  | d + 1, g, args, H, x, H', h => by
    have ih := evFn_sound (kp := kp) (fz := fz) hm ht hp hen (fuel := fuel) d
    have hE : ∀ n0, EvOK G (ctx P G n0) (evFn kp fz t prim en fuel d) (fun g args => match evFn kp fz t prim en fuel d g args [] with
          | some (x, _) => match isFrz x with
            | true => some x
            | false => none
          | none => none) en := fun n0 => by
      refine ⟨fun s => Gh.refl G n0 s, fun _ _ h => h, fun _ _ _ _ _ k h => AC.mono h k, fun g args H x H' h => ih g args H x H' h, fun g args x h => ?_, hen⟩
      cases ho : evFn kp fz t prim en fuel d g args [] with
      | none => simp only [ho] at h; cases h
      | some r =>
        obtain ⟨y, K⟩ := r
        simp only [ho] at h
        cases hz : isFrz y with
        | false => rw [hz] at h; cases h
        | true =>
          rw [hz] at h
          simp only at h
          injection h with h; subst h
          exact ⟨isFrz_iff _ hz, AC.mono (ih g args [] y K ho) fun z _ ⟨e, _⟩ => by subst e; exact ⟨isFrz_iff _ hz, rfl⟩⟩
    have atH : ∀ {v : AV}, FrzL args → PE P G g args v → AC P G g args H fun y K => y = v ∧ K = H := fun hz hpe => AC.mono (hpe.2.at_ hz H) fun _ _ ⟨e1, _, e2⟩ => ⟨e2, e1⟩
    simp only [evFn] at h
    cases hz : pureM kp g args with
    | true =>
      have hzz := isFrzL_iff _ (pureM_frz hz)
      rw [hz] at h
      simp only at h
      cases hpr : prim g args with
      | some v =>
        rw [hpr] at h
        simp only at h
        injection h with h; injection h with h1 h2; subst h1 h2
        exact atH hzz (hp g args _ hzz hpr)
      | none =>
        rw [hpr] at h
        simp only at h
        cases hf : t.find g with
        | none => rw [hf] at h; cases h
        | some F =>
          rw [hf] at h
          simp only [spine_eq] at h
          generalize hq : (match evC (evFn kp fz t prim en fuel d) (fun g args => match evFn kp fz t prim en fuel d g args [] with
              | some (x, _) => match isFrz x with
                | true => some x
                | false => none
              | none => none) fz en (List.length ([] : List AObj)) fuel F.body (initF args F.n) [] with
            | some (.normal, f, H) => retE true F.res f H
            | some (.ret, f, H) => retE true F.res f H
            | _ => none) = q at h
          cases q with
          | none => cases h
          | some r =>
            obtain ⟨y, K⟩ := r
            have hac := run_sound (G := G) (H := []) hm (Tb.find_ok ht hf) (hE 0) (p := true) hq
            simp only at h
            cases hy : isFrz y with
            | true =>
              rw [hy] at h
              simp only [frcV_eq] at h
              injection h with h; injection h with h1 h2; subst h1 h2
              exact atH hzz ⟨isFrz_iff _ hy, AC.mono hac fun z _ ⟨e, _⟩ => by subst e; exact ⟨isFrz_iff _ hy, rfl⟩⟩
            | false =>
              rw [hy] at h
              cases H with
              | cons o H => cases h
              | nil =>
                simp only at h
                injection h with h; injection h with h1 h2; subst h1 h2
                exact hac
    | false =>
      rw [hz] at h
      simp only at h
      cases hf : t.find g with
      | none => rw [hf] at h; cases h
      | some F =>
        rw [hf] at h
        simp only [spine_eq] at h
        generalize hq : (match evC (evFn kp fz t prim en fuel d) (fun g args => match evFn kp fz t prim en fuel d g args [] with
            | some (x, _) => match isFrz x with
              | true => some x
              | false => none
            | none => none) fz en H.length fuel F.body (initF args F.n) H with
          | some (.normal, f, H) => retE false F.res f H
          | some (.ret, f, H) => retE false F.res f H
          | _ => none) = q at h
        cases q with
        | none => cases h
        | some r =>
          obtain ⟨y, K⟩ := r
          simp only at h
          injection h with h; injection h with h1 h2; subst h1 h2
          exact run_sound (G := G) hm (Tb.find_ok ht hf) (hE H.length) (p := false) hq
end Go.Avm
/- What is known of calls, kept for later calls. -/
set_option linter.unusedSimpArgs false
set_option linter.unusedVariables false
namespace Go.Avm
open Go

def eqInt (a b : Int) : Bool := match a with
  | .ofNat m => match b with
    | .ofNat n => Nat.beq m n
    | .negSucc _ => false
  | .negSucc m => match b with
    | .ofNat _ => false
    | .negSucc n => Nat.beq m n
theorem eqInt_ok {a b : Int} (h : eqInt a b = true) : a = b := by
  cases a <;> cases b <;> simp only [eqInt] at h <;> first | (cases h; done) | (rw [Nat.eq_of_beq_eq_true h])
def eqS : List UInt8 → List UInt8 → Bool
  | [], [] => true
  | x :: a, y :: b => match Nat.beq x.toNat y.toNat with
    | true => eqS a b
    | false => false
  | _, _ => false
theorem eqS_ok : ∀ {a b : List UInt8}, eqS a b = true → a = b
  | [], [], _ => rfl
  | [], _ :: _, h => by simp [eqS] at h
  | _ :: _, [], h => by simp [eqS] at h
  | x :: a, y :: b, h => by
    simp only [eqS] at h
    cases hx : Nat.beq x.toNat y.toNat with
    | false => rw [hx] at h; cases h
    | true =>
      rw [hx] at h
      have := UInt8.toNat_inj.1 (Nat.eq_of_beq_eq_true hx)
      rw [this, eqS_ok h]
def eqBl (a b : Bool) : Bool := match a with
  | true => b
  | false => match b with
    | true => false
    | false => true
theorem eqBl_ok {a b : Bool} (h : eqBl a b = true) : a = b := by cases a <;> cases b <;> simp_all [eqBl]
mutual
def eqAV : AV → AV → Bool
  | .int k a, .int l b => match kEq k l with
    | true => eqInt a b
    | false => false
  | .bool a, .bool b => eqBl a b
  | .str a, .str b => eqS a b
  | .nilp, .nilp => true
  | .ptr a o, .ptr b p => match Nat.beq o p with
    | true => eqAVL a b
    | false => false
  | .nils, .nils => true
  | .sl n a, .sl m b => match Nat.beq n m with
    | true => eqAVL a b
    | false => false
  | .agg a, .agg b => eqAVL a b
  | .tup a, .tup b => eqAVL a b
  | .fn f a, .fn g b => match Nat.beq f g with
    | true => eqAVL a b
    | false => false
  | _, _ => false
def eqAVL : List AV → List AV → Bool
  | [], [] => true
  | x :: a, y :: b => match eqAV x y with
    | true => eqAVL a b
    | false => false
  | _, _ => false
end
mutual
theorem eqAV_ok : ∀ (x y : AV), eqAV x y = true → x = y
  | .int k a, y, h => by
    cases y <;> simp only [eqAV] at h <;> try (cases h; done)
    rename_i l b
    cases hk : kEq k l with
    | false => rw [hk] at h; cases h
    | true =>
      rw [hk] at h
      simp only [kEq, decide_eq_true_eq] at hk
      rw [hk, eqInt_ok h]
  | .bool a, y, h => by
    cases y <;> simp only [eqAV] at h <;> try (cases h; done)
    rw [eqBl_ok h]
  | .str a, y, h => by
    cases y <;> simp only [eqAV] at h <;> try (cases h; done)
    rw [eqS_ok h]
  | .nilp, y, h => by cases y <;> simp only [eqAV] at h <;> first | rfl | (cases h; done)
  | .ptr a o, y, h => by
    cases y <;> simp only [eqAV] at h <;> try (cases h; done)
    rename_i b p
    cases hk : Nat.beq o p with
    | false => rw [hk] at h; cases h
    | true => rw [hk] at h; rw [Nat.eq_of_beq_eq_true hk, eqAVL_ok a b h]
  | .nils, y, h => by cases y <;> simp only [eqAV] at h <;> first | rfl | (cases h; done)
  | .sl n a, y, h => by
    cases y <;> simp only [eqAV] at h <;> try (cases h; done)
    rename_i m b
    cases hk : Nat.beq n m with
    | false => rw [hk] at h; cases h
    | true => rw [hk] at h; rw [Nat.eq_of_beq_eq_true hk, eqAVL_ok a b h]
  | .own _ _, y, h => by cases y <;> simp [eqAV] at h
  | .osl _ _ _, y, h => by cases y <;> simp [eqAV] at h
  | .agg a, y, h => by
    cases y <;> simp only [eqAV] at h <;> try (cases h; done)
    rw [eqAVL_ok a _ h]
  | .tup a, y, h => by
    cases y <;> simp only [eqAV] at h <;> try (cases h; done)
    rw [eqAVL_ok a _ h]
  | .fn f a, y, h => by
    cases y <;> simp only [eqAV] at h <;> try (cases h; done)
    rename_i g b
    cases hk : Nat.beq f g with
    | false => rw [hk] at h; cases h
    | true => rw [hk] at h; rw [Nat.eq_of_beq_eq_true hk, eqAVL_ok a b h]
  | .raw _, y, h => by cases y <;> simp [eqAV] at h
  | .mref _, y, h => by cases y <;> simp [eqAV] at h
  | .junk, y, h => by cases y <;> simp [eqAV] at h
theorem eqAVL_ok : ∀ (a b : List AV), eqAVL a b = true → a = b
  | [], b, h => by cases b <;> simp [eqAVL] at h ⊢
  | x :: a, b, h => by
    cases b with
    | nil => simp [eqAVL] at h
    | cons y b =>
      simp only [eqAVL] at h
      cases hx : eqAV x y with
      | false => rw [hx] at h; cases h
      | true => rw [hx] at h; rw [eqAV_ok x y hx, eqAVL_ok a b h]
end

structure Mem where
  g : FuncId
  args : List AV
  v : AV
def memo (base : FuncId → List AV → Option AV) : List Mem → FuncId → List AV → Option AV
  | [], g, args => base g args
  | m :: l, g, args => match Nat.beq m.g g with
    | true => match eqAVL m.args args with
      | true => some m.v
      | false => memo base l g args
    | false => memo base l g args
def MemOK (P : Program) (G : Glob) (l : List Mem) : Prop := ∀ m ∈ l, PE P G m.g m.args m.v
theorem memo_ok {P : Program} {G : Glob} {base : FuncId → List AV → Option AV} (hb : ∀ g args v, FrzL args → base g args = some v → PE P G g args v) : ∀ {l : List Mem}, MemOK P G l → ∀ g args v, FrzL args → memo base l g args = some v → PE P G g args v
  | [], _, g, args, v, hz, h => hb g args v hz h
  | m :: l, hl, g, args, v, hz, h => by
    simp only [memo] at h
    have ih := memo_ok hb (l := l) (fun m hm => hl m (List.mem_cons_of_mem _ hm)) g args v hz
    cases h1 : Nat.beq m.g g with
    | false => rw [h1] at h; exact ih h
    | true =>
      rw [h1] at h
      simp only at h
      cases h2 : eqAVL m.args args with
      | false => rw [h2] at h; exact ih h
      | true =>
        rw [h2] at h
        simp only at h
        injection h with h; subst h
        have := hl m List.mem_cons_self
        rw [Nat.eq_of_beq_eq_true h1, eqAVL_ok _ _ h2] at this
        exact this

theorem PE_of_ev {P : Program} {G : Glob} (hm : P.follows .mixedOrders = true) {kp fz : FuncId → Bool} {t : Tb} (ht : t.OK P) {prim : FuncId → List AV → Option AV} (hp : ∀ g args v, FrzL args → prim g args = some v → PE P G g args v) {en : FuncId → Bool} (hen : ∀ g, en g = true → Ent P g) {fuel d : Nat}
    {g : FuncId} {args : List AV} {v : AV} (h : evFn kp fz t prim en fuel d g args [] = some (v, [])) (hz : isFrz v = true) : PE P G g args v :=
  ⟨isFrz_iff _ hz, AC.mono (evFn_sound (G := G) hm ht hp hen d g args [] v [] h) fun y _ ⟨e, _⟩ => by subst e; exact ⟨isFrz_iff _ hz, rfl⟩⟩
end Go.Avm
/- Contracts of the library, told of trees. -/
set_option linter.unusedSimpArgs false
set_option linter.unusedVariables false
namespace Go.Avm
open Go Go.RowKit
variable {P : Program} {G : Glob}

/-- The package-level variables are as they were. -/
def GW (G : Glob) (w : World) : Prop := ∀ b, b < G.n → w.heap[b]? = G.at_ b

/-- A tree that stands for one value alone. -/
def One (x : AV) (v : Value) : Prop := Frz x ∧ (∀ φ bl, Rep φ bl x v) ∧ ∀ φ bl u, Rep φ bl x u → u = v
def OneAll : List AV → List Value → Prop
  | [], vs => vs = []
  | x :: xs, vs => ∃ v us, vs = v :: us ∧ One x v ∧ OneAll xs us
theorem OneAll.rep : ∀ {xs : List AV} {vs : List Value}, OneAll xs vs → ∀ {φ : Phi} {bl : Nat → BL} {us : List Value}, RepL φ bl xs us → us = vs
  | [], _, h, _, _, _, hr => by
    simp only [OneAll] at h
    simp only [RepL] at hr
    rw [h, hr]
  | x :: xs, _, h, _, _, _, hr => by
    simp only [OneAll] at h
    simp only [RepL] at hr
    obtain ⟨v, us, rfl, h1, h2⟩ := h
    obtain ⟨u, us', rfl, hr1, hr2⟩ := hr
    rw [h1.2.2 _ _ _ hr1, h2.rep hr2]
theorem one_int (k : IntKind) (n : Int) : One (.int k n) (.int k n) := ⟨by simp only [Frz], fun _ _ => by simp only [Rep], fun _ _ _ h => by simpa only [Rep] using h⟩
theorem one_bool (b : Bool) : One (.bool b) (.bool b) := ⟨by simp only [Frz], fun _ _ => by simp only [Rep], fun _ _ _ h => by simpa only [Rep] using h⟩
theorem one_str (s : List UInt8) : One (.str s) (.string ⟨s.toArray⟩) := ⟨by simp only [Frz], fun _ _ => by simp only [Rep], fun _ _ _ h => by simpa only [Rep] using h⟩
theorem one_raw (v : Value) : One (.raw v) v := ⟨by simp only [Frz], fun _ _ => by simp only [Rep], fun _ _ _ h => by simpa only [Rep] using h⟩

/-- A FUNCTION's CONTRACT IN THE KIT's WORDS, told of trees. -/
theorem PE_of_calls {f : FuncId} {args : List AV} {vs : List Value} {x : AV} {v : Value} (ha : OneAll args vs) (hz : Frz x) (hx : ∀ φ bl, Rep φ bl x v)
    (h : ∀ w, GW G w → Calls P f vs.toArray w fun e w' => e = .returned v ∧ Below w.heap.size w w') : PE P G f args x := by
  refine ⟨hz, fun φ bl w us hi hr => ?_⟩
  have := ha.rep hr
  subst this
  refine (h w hi.glo).mono ?_
  rintro e w' ⟨rfl, hb⟩
  have hnob : ∀ id b n es, bl id ≠ .blk b n es := fun id b n es hb => by
    rw [hi.out id (by simp)] at hb; cases hb
  refine ⟨v, φ, bl, x, [], rfl, ⟨hz, rfl⟩, ⟨fun b hb' => ?_, Nat.le_trans hi.gsz hb.size, hi.gow, fun b o u hu => ?_, fun id o ho => by simp at ho, hi.inj, hi.out⟩, hx φ bl, ⟨hb.os, hb.tape, hb.output, hb.size, fun b hb' _ => ⟨hb.block b hb', rfl⟩, fun id b n es h => absurd h (hnob id b n es), Phi.le_refl _, BLle.refl _⟩⟩
  · rw [hb.block b (Nat.lt_of_lt_of_le hb' hi.gsz)]; exact hi.glo b hb'
  · rw [← hi.fr b o u hu]
    exact World.cell?_of_block (hb.block b (phi_lt hi hu))
end Go.Avm
