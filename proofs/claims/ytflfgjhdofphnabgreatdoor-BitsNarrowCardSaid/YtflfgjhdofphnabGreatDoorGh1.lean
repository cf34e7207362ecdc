/- The same memory, told otherwise: what is written no more is told as a tree. -/
import Derived.Test.YtflfgjhdofphnabGreatDoorSnd10
set_option linter.unusedSimpArgs false
set_option linter.unusedVariables false
namespace Go.Avm
open Go

mutual
/-- The names of object i become trees. -/
def thaw (i es : Nat) (cs : List AV) : AV → AV
  | .own j o => if j = i then .ptr cs o else .own j o
  | .osl j o n => if j = i then (if o + n * es ≤ cs.length then .sl n ((cs.drop o).take (n * es)) else .junk) else .osl j o n
  | .agg l => .agg (thawL i es cs l)
  | .tup l => .tup (thawL i es cs l)
  | .fn f l => .fn f (thawL i es cs l)
  | .int k n => .int k n
  | .bool b => .bool b
  | .str s => .str s
  | .nilp => .nilp
  | .ptr l o => .ptr l o
  | .nils => .nils
  | .sl n l => .sl n l
  | .raw v => .raw v
  | .mref j => if j = i then .junk else .mref j
  | .junk => .junk
def thawL (i es : Nat) (cs : List AV) : List AV → List AV
  | [] => []
  | c :: l => thaw i es cs c :: thawL i es cs l
end
def thawO (i es : Nat) (cs : List AV) : AObj → AObj
  | .arr t e l c => .arr t e l (thawL i es cs c)
  | .mp k m => .mp k m
  | .dead => .dead

theorem thawL_length (i es : Nat) (cs : List AV) : ∀ l, (thawL i es cs l).length = l.length
  | [] => rfl
  | c :: l => by simp [thawL, thawL_length i es cs l]

section
variable {G : Glob} {n0 : Nat} {φ φ' : Phi} {bl bl' : Nat → BL} {w : World} {i es : Nat} {cs : List AV}

/-- What is known of the object that becomes a tree. -/
structure Thaw (φ φ' : Phi) (bl bl' : Nat → BL) (i es : Nat) (cs : List AV) : Prop where
  le : φ.le φ'
  oth : ∀ j, j ≠ i → bl j = .unused ∨ bl' j = bl j
  here : (bl i = .nil ∧ cs = []) ∨ ∃ b n, bl i = .blk b n es ∧ RepRow φ' cs b 0

mutual
theorem Rep.thaw (h : Thaw φ φ' bl bl' i es cs) : ∀ (x : AV) (v : Value), Rep φ bl x v → Rep φ' bl' (thaw i es cs x) v
  | .int _ _, _, hx => by simpa only [Avm.thaw, Rep] using hx
  | .bool _, _, hx => by simpa only [Avm.thaw, Rep] using hx
  | .str _, _, hx => by simpa only [Avm.thaw, Rep] using hx
  | .nilp, _, hx => by simpa only [Avm.thaw, Rep] using hx
  | .nils, _, hx => by simpa only [Avm.thaw, Rep] using hx
  | .raw _, _, hx => by simpa only [Avm.thaw, Rep] using hx
  | .junk, _, hx => by simp only [Avm.thaw, Rep]
  | .ptr l o, _, hx => by
    simp only [Avm.thaw, Rep] at hx ⊢
    obtain ⟨b, o', e, hr⟩ := hx
    exact ⟨b, o', e, hr.mono h.le⟩
  | .sl n l, _, hx => by
    simp only [Avm.thaw, Rep] at hx ⊢
    rcases hx with hx | ⟨b, o, cap, e, h1, h2, hr⟩
    · exact .inl hx
    · exact .inr ⟨b, o, cap, e, h1, h2, hr.mono h.le⟩
  | .own j o, _, hx => by
    simp only [Avm.thaw]
    split
    · rename_i hj
      subst hj
      simp only [Rep] at hx ⊢
      rcases h.here with ⟨e, _⟩ | ⟨b, n, e, hr⟩
      · simp [e] at hx
      · rw [e] at hx
        exact ⟨b, 0, by simpa using hx, hr⟩
    · rename_i hj
      simp only [Rep] at hx ⊢
      rcases h.oth j hj with e | e
      · simp [e] at hx
      · rw [e]; exact hx
  | .osl j o n, _, hx => by
    simp only [Avm.thaw]
    split
    · rename_i hj
      subst hj
      split
      · rename_i hle
        simp only [Rep] at hx ⊢
        rcases h.here with ⟨e, ec⟩ | ⟨b, m, e, hr⟩
        · rw [e] at hx
          simp only at hx
          obtain ⟨rfl, rfl, rfl⟩ := hx
          exact .inl ⟨rfl, rfl, by simp⟩
        · rw [e] at hx
          simp only at hx
          obtain ⟨cap, rfl, h1, h2, h3⟩ := hx
          refine .inr ⟨b, o, cap, rfl, h1, h2, ?_⟩
          have := hr.sub o (n * es)
          simpa using this
      · simp only [Rep]
    · rename_i hj
      simp only [Rep] at hx ⊢
      rcases h.oth j hj with e | e
      · simp [e] at hx
      · rw [e]; exact hx
  | .mref j, _, hx => by
    simp only [Avm.thaw]
    split
    · simp only [Rep]
    · rename_i hj
      simp only [Rep] at hx ⊢
      rcases h.oth j hj with e | e
      · simp [e] at hx
      · rw [e]; exact hx
  | .agg l, _, hx => by
    simp only [Avm.thaw, Rep] at hx ⊢
    obtain ⟨vs, e, hr⟩ := hx
    exact ⟨vs, e, RepL.thaw h l vs hr⟩
  | .tup l, _, hx => by
    simp only [Avm.thaw, Rep] at hx ⊢
    obtain ⟨vs, e, hr⟩ := hx
    exact ⟨vs, e, RepL.thaw h l vs hr⟩
  | .fn _ l, _, hx => by
    simp only [Avm.thaw, Rep] at hx ⊢
    obtain ⟨vs, e, hr⟩ := hx
    exact ⟨vs, e, RepL.thaw h l vs hr⟩
theorem RepL.thaw (h : Thaw φ φ' bl bl' i es cs) : ∀ (l : List AV) (vs : List Value), RepL φ bl l vs → RepL φ' bl' (thawL i es cs l) vs
  | [], _, hx => by simpa only [thawL, RepL] using hx
  | c :: l, _, hx => by
    simp only [thawL, RepL] at hx ⊢
    obtain ⟨u, us, e, hr, hrest⟩ := hx
    exact ⟨u, us, e, Rep.thaw h c u hr, RepL.thaw h l us hrest⟩
end

mutual
theorem thaw_frz : ∀ x : AV, Frz x → thaw i es cs x = x
  | .int _ _, _ => rfl
  | .bool _, _ => rfl
  | .str _, _ => rfl
  | .nilp, _ => rfl
  | .ptr _ _, _ => rfl
  | .nils, _ => rfl
  | .sl _ _, _ => rfl
  | .own _ _, h => by simp only [Frz] at h
  | .osl _ _ _, h => by simp only [Frz] at h
  | .agg cs, h => by simp only [Frz] at h; simp only [thaw, thawL_frz cs h]
  | .tup cs, h => by simp only [Frz] at h; simp only [thaw, thawL_frz cs h]
  | .fn _ cs, h => by simp only [Frz] at h; simp only [thaw, thawL_frz cs h]
  | .raw _, _ => rfl
  | .mref _, h => by simp only [Frz] at h
  | .junk, _ => rfl
theorem thawL_frz : ∀ l : List AV, FrzL l → thawL i es cs l = l
  | [], _ => rfl
  | c :: l, h => by simp only [FrzL] at h; simp only [thawL, thaw_frz c h.1, thawL_frz l h.2]
end

mutual
theorem thaw_nob : ∀ (x : AV) (v : Value), Rep φ nob x v → thaw i es cs x = x
  | .int _ _, _, _ => rfl
  | .bool _, _, _ => rfl
  | .str _, _, _ => rfl
  | .nilp, _, _ => rfl
  | .ptr _ _, _, _ => rfl
  | .nils, _, _ => rfl
  | .sl _ _, _, _ => rfl
  | .own _ _, _, h => by simp [Rep, nob] at h
  | .osl _ _ _, _, h => by simp [Rep, nob] at h
  | .agg l, _, h => by
    simp only [Rep] at h
    obtain ⟨vs, _, hr⟩ := h
    simp only [thaw, thawL_nob l vs hr]
  | .tup l, _, h => by
    simp only [Rep] at h
    obtain ⟨vs, _, hr⟩ := h
    simp only [thaw, thawL_nob l vs hr]
  | .fn _ l, _, h => by
    simp only [Rep] at h
    obtain ⟨vs, _, hr⟩ := h
    simp only [thaw, thawL_nob l vs hr]
  | .raw _, _, _ => rfl
  | .mref _, _, h => by simp [Rep, nob] at h
  | .junk, _, _ => rfl
theorem thawL_nob : ∀ (l : List AV) (vs : List Value), RepL φ nob l vs → thawL i es cs l = l
  | [], _, _ => rfl
  | c :: l, _, h => by
    simp only [RepL] at h
    obtain ⟨u, us, _, hr, hrest⟩ := h
    simp only [thawL, thaw_nob c u hr, thawL_nob l us hrest]
end

/-- AN OBJECT BECOMES A TREE. -/
theorem Gh.freeze {s : St} {t : TypeId} {lent : Bool} (hi : s.H[i]? = some (.arr t es lent cs)) (hz : FrzL cs) : Gh G n0 s ⟨thawL i es cs s.f, (s.H.map (thawO i es cs)).set i .dead⟩ := by
  intro φ bl vs w hI hr
  have hil : i < s.H.length := by
    rcases Nat.lt_or_ge i s.H.length with h | h
    · exact h
    · rw [List.getElem?_eq_none h] at hi; cases hi
  have hob := hI.obj i _ hi
  simp only [ObjOK] at hob
  have hbl : BLle bl (updB bl i .dead) := fun j => by
    by_cases e : j = i
    · subst e; exact .inr (.inr (updB_same _ _ _))
    · exact .inr (.inl (updB_other _ _ e))
  have main : ∀ φ' : Phi, φ.le φ' → Thaw φ φ' bl (updB bl i .dead) i es cs → (∀ b o u, φ' b o = some u → w.cell? ⟨b, o, none⟩ = some u) → (∀ k, (∀ n e, bl i ≠ .blk k n e) → φ' k = φ k) →
      ∃ φ' bl', Inv G φ' bl' ((s.H.map (thawO i es cs)).set i .dead) w ∧ RepL φ' bl' (thawL i es cs s.f) vs ∧ Adv n0 φ bl w φ' bl' w := by
    intro φ' hle hT hfr hsame
    refine ⟨φ', updB bl i .dead, ⟨hI.glo, hI.gsz, fun id b n e hb => ?_, hfr, fun id o ho => ?_, fun a b k n m e f h1 h2 => ?_, fun id hid => ?_⟩, RepL.thaw hT _ _ hr, ?_⟩
    · by_cases e' : id = i
      · subst e'; rw [updB_same] at hb; cases hb
      · rw [updB_other _ _ e'] at hb; exact hI.gow id b n e hb
    · rw [List.getElem?_set] at ho
      by_cases e' : i = id
      · subst e'
        simp [hil] at ho
        subst ho
        simp only [ObjOK, updB_same]
      · rw [if_neg e', List.getElem?_map] at ho
        cases ho0 : s.H[id]? with
        | none => simp [ho0] at ho
        | some o0 =>
          simp [ho0] at ho
          subst ho
          have h0 := hI.obj id o0 ho0
          have hbid : updB bl i .dead id = bl id := updB_other _ _ (Ne.symm e')
          have hph : ∀ b n e, bl id = .blk b n e → φ' b = φ b := fun b n e hb => hsame b fun n' e'' h' => e' (hI.inj i id b n' n e'' e h' hb)
          cases o0 with
          | dead => simp only [thawO, ObjOK] at h0 ⊢; rw [hbid, h0]
          | mp k m =>
            simp only [thawO, ObjOK] at h0 ⊢
            obtain ⟨b, ents, clock, h1, h2, h3, h4⟩ := h0
            exact ⟨b, ents, clock, hbid.trans h1, h2, RepM.mono hle h3, fun o => by rw [hph b 0 0 h1]; exact h4 o⟩
          | arr t' e l c =>
            simp only [thawO, ObjOK] at h0 ⊢
            rcases h0 with ⟨h1, h2⟩ | ⟨b, n, cur, h1, h2, h3, h4, h5, h6⟩
            · exact .inl ⟨hbid.trans h1, by rw [h2]; rfl⟩
            · refine .inr ⟨b, n, cur, hbid.trans h1, h2, h3, by rw [thawL_length]; exact h4, ?_, fun q => by rw [hph b n e h1, thawL_length]; exact h6 q⟩
              rw [thawL_length]
              cases l with
              | true =>
                simp only [if_true] at h5 ⊢
                rw [thawL_nob _ _ h5]
                exact RepL.mono hle (BLle.refl _) _ _ h5
              | false =>
                simp only [Bool.false_eq_true, if_false] at h5 ⊢
                exact RepL.thaw hT _ _ h5
    · by_cases e1 : a = i
      · subst e1; rw [updB_same] at h1; cases h1
      · by_cases e2 : b = i
        · subst e2; rw [updB_same] at h2; cases h2
        · rw [updB_other _ _ e1] at h1
          rw [updB_other _ _ e2] at h2
          exact hI.inj a b k n m e f h1 h2
    · simp at hid
      rw [updB_other _ _ (by omega)]
      exact hI.out id hid
    · intro φ0 bl0 w0 hn hf
      refine ⟨hf.os, hf.tape, hf.output, hf.size, fun b hb hno => ⟨(hf.old b hb hno).1, ?_⟩, fun id b n e hb => ?_, Phi.le_trans hf.phi hle, hf.ids.trans hbl⟩
      · rw [hsame b (fun n e hb' => ?_)]
        · exact (hf.old b hb hno).2
        · rcases hf.own i b n e hb' with h | ⟨n', e', h⟩
          · omega
          · exact hno i n' e' h
      · by_cases e' : id = i
        · subst e'; rw [updB_same] at hb; cases hb
        · rw [updB_other _ _ e'] at hb; exact hf.own id b n e hb
  rcases hob with ⟨h1, h2⟩ | ⟨b, n, cur, h1, h2, h3, h4, h5, h6⟩
  · exact main φ (Phi.le_refl _) ⟨Phi.le_refl _, fun j hj => .inr (updB_other _ _ hj), .inl ⟨h1, h2⟩⟩ hI.fr (fun _ _ => rfl)
  · have hoth : ∀ j, j ≠ i → bl j = .unused ∨ updB bl i .dead j = bl j := fun j hj => .inr (updB_other _ _ hj)
    have row : ∀ φ' : Phi, φ.le φ' → (∀ o, o < cs.length → φ' b o = cur[o]?) → RepRow φ' cs b 0 := by
      intro φ' hle hc
      refine RepRow.iff.2 fun q c hq => ?_
      have hql : q < cs.length := by
        rcases Nat.lt_or_ge q cs.length with h | h
        · exact h
        · rw [List.getElem?_eq_none h] at hq; cases hq
      have h5' : RepL φ bl cs (cur.toList.take cs.length) := by
        split at h5
        · exact h5.up
        · exact h5
      obtain ⟨v, hv, hrv⟩ := h5'.get hql
      have hcd : cs.getD q .junk = c := by simp [List.getD_eq_getElem?_getD, hq]
      rw [hcd] at hrv
      have hcur : cur[q]? = some v := by
        rw [List.getElem?_take] at hv
        simpa [hql] using hv
      refine ⟨v, by rw [Nat.zero_add, hc q hql, hcur], ?_⟩
      rw [FrzL.iff] at hz
      exact Rep.mono hle (BLle.refl _) c v (hrv.frz _ _ (hz c (List.mem_of_getElem? hq)))
    cases lent with
    | true =>
      refine main φ (Phi.le_refl _) ⟨Phi.le_refl _, hoth, .inr ⟨b, n, h1, row φ (Phi.le_refl _) fun o ho => ?_⟩⟩ hI.fr (fun _ _ => rfl)
      rw [h6 o]; simp [ho]
    | false =>
      have hnone : ∀ o, φ b o = none := fun o => by rw [h6 o]; simp
      have hle : φ.le (phiAt φ b true cs.length cur) := fun k o u hu => by
        have : k ≠ b := fun e => by rw [e, hnone] at hu; cases hu
        simp [phiAt, this, hu]
      refine main (phiAt φ b true cs.length cur) hle ⟨hle, hoth, .inr ⟨b, n, h1, row _ hle fun o ho => by simp [phiAt, ho]⟩⟩ ?_ ?_
      · intro k o u hu
        by_cases e : k = b
        · subst e
          simp only [phiAt, if_true, true_and] at hu
          split at hu
          · rw [cell_of_row w k o cur t (0, 0) h2]; exact hu
          · cases hu
        · exact hI.fr k o u (by simpa [phiAt, e] using hu)
      · intro k hk
        have : k ≠ b := fun e => hk n es (e ▸ h1)
        funext o
        simp [phiAt, this]

/-- A slot is forgotten. -/
theorem Gh.forget (s : St) (d : Nat) : Gh G n0 s ⟨s.f.set d .junk, s.H⟩ := by
  intro φ bl vs w hI hr
  refine ⟨φ, bl, hI, ?_, Adv.refl n0 φ bl w⟩
  refine RepL.iff.2 ⟨by simp [hr.length], fun j c v hc hv => ?_⟩
  rw [List.getElem?_set] at hc
  by_cases e : d = j
  · subst e
    simp only [if_true] at hc
    split at hc
    · simp at hc; subst hc; simp only [Rep]
    · cases hc
  · rw [if_neg e] at hc
    exact (RepL.iff.1 hr).2 j c v hc hv
/-- All slots but some are forgotten. -/
def keepF (l : List Nat) : Nat → List AV → List AV
  | _, [] => []
  | i, x :: f => (if memN i l = true then x else .junk) :: keepF l (i + 1) f
theorem keepF_rep {l : List Nat} : ∀ {f : List AV} {i : Nat} {vs : List Value}, RepL φ bl f vs → RepL φ bl (keepF l i f) vs
  | [], _, _, h => by simpa only [keepF, RepL] using h
  | x :: f, i, _, h => by
    simp only [keepF, RepL] at h ⊢
    obtain ⟨u, us, e, hr, hrest⟩ := h
    refine ⟨u, us, e, ?_, keepF_rep hrest⟩
    split
    · exact hr
    · simp only [Rep]
theorem Gh.keep (s : St) (l : List Nat) : Gh G n0 s ⟨keepF l 0 s.f, s.H⟩ := fun φ bl vs w hI hr => ⟨φ, bl, hI, keepF_rep hr, Adv.refl n0 φ bl w⟩

/-- The last object, that is dead, falls away. -/
theorem Gh.cut {f : List AV} {H : List AObj} {i : Nat} (hi : i = H.length) (hn : n0 ≤ i) : Gh G n0 ⟨f, H ++ [.dead]⟩ ⟨killL i f, H.map (killO i)⟩ := by
  intro φ bl vs w hI hr
  subst hi
  have hd : bl H.length = .dead := by
    have := hI.obj H.length .dead (by simp)
    simpa [ObjOK] using this
  have hoth : ∀ j, j ≠ H.length → bl j = .unused ∨ updB bl H.length .unused j = bl j := fun j hj => .inr (updB_other _ _ hj)
  refine ⟨φ, updB bl H.length .unused, ⟨hI.glo, hI.gsz, fun id b n e hb => ?_, hI.fr, fun id o ho => ?_, fun a b k n m e f h1 h2 => ?_, fun id hid => ?_⟩, RepL.kill (Phi.le_refl _) hoth _ _ hr, ?_⟩
  · by_cases e' : id = H.length
    · subst e'; rw [updB_same] at hb; cases hb
    · rw [updB_other _ _ e'] at hb; exact hI.gow id b n e hb
  · rw [List.getElem?_map] at ho
    cases ho0 : H[id]? with
    | none => simp [ho0] at ho
    | some o0 =>
      simp [ho0] at ho
      subst ho
      have hlt : id < H.length := by
        rcases Nat.lt_or_ge id H.length with h | h
        · exact h
        · rw [List.getElem?_eq_none h] at ho0; cases ho0
      have h0 := hI.obj id o0 (by rw [List.getElem?_append_left hlt]; exact ho0)
      exact h0.kill (Phi.le_refl _) hoth (updB_other _ _ (by omega)) (fun b n es h => ⟨rfl, rfl⟩)
  · by_cases e1 : a = H.length
    · subst e1; rw [updB_same] at h1; cases h1
    · by_cases e2 : b = H.length
      · subst e2; rw [updB_same] at h2; cases h2
      · rw [updB_other _ _ e1] at h1
        rw [updB_other _ _ e2] at h2
        exact hI.inj a b k n m e f h1 h2
  · simp at hid
    by_cases e : id = H.length
    · subst e; exact updB_same _ _ _
    · rw [updB_other _ _ e]
      exact hI.out id (by simp; omega)
  · intro φ0 bl0 w0 hnn hf
    refine ⟨hf.os, hf.tape, hf.output, hf.size, hf.old, fun id b n e hb => ?_, hf.phi, fun id => ?_⟩
    · by_cases e' : id = H.length
      · subst e'; rw [updB_same] at hb; cases hb
      · rw [updB_other _ _ e'] at hb; exact hf.own id b n e hb
    · by_cases e' : id = H.length
      · subst e'; exact .inl (hnn _ hn)
      · rw [updB_other _ _ e']; exact hf.ids id

/-- A nil slice that will grow is an object. -/
theorem Gh.adopt {s : St} {d : Nat} (hd : d < s.f.length) (hs : s.f.getD d .junk = .nils) (t es : TypeId) : Gh G n0 s ⟨s.f.set d (.osl s.H.length 0 0), s.H ++ [.arr t es false []]⟩ := by
  intro φ bl vs w hI hr
  obtain ⟨g1, g2⟩ := inv_nil hI t es
  refine ⟨φ, _, g1, ?_, g2.adv n0⟩
  have hr' := RepL.mono (Phi.le_refl _) g2.ids _ _ hr
  obtain ⟨v, hv, hrv⟩ := hr.get hd
  rw [hs] at hrv
  simp only [Rep] at hrv
  subst hrv
  have hx : Rep φ (updB bl s.H.length .nil) (.osl s.H.length 0 0) (.slice none 0 0) := by simp [Rep, updB_same]
  have := hr'.set hx d
  rwa [show vs.set d (.slice none 0 0) = vs from ?_] at this
  apply List.ext_getElem?
  intro j
  rw [List.getElem?_set]
  by_cases e : d = j
  · subst e
    have : d < vs.length := by rw [← hr.length]; exact hd
    rw [List.getElem?_eq_getElem this] at hv
    injection hv with hv
    simp [this, hv]
  · rw [if_neg e]
/-- Objects are written no more, and told still as objects. -/
theorem Gh.dead {s : St} {o : AObj} (hi : s.H[i]? = some o) : Gh G n0 s ⟨killL i s.f, (s.H.map (killO i)).set i .dead⟩ := by
  intro φ bl vs w hI hr
  have hil : i < s.H.length := by
    rcases Nat.lt_or_ge i s.H.length with h | h
    · exact h
    · rw [List.getElem?_eq_none h] at hi; cases hi
  have hoth : ∀ j, j ≠ i → bl j = .unused ∨ updB bl i .dead j = bl j := fun j hj => .inr (updB_other _ _ hj)
  have hbl : BLle bl (updB bl i .dead) := fun j => by
    by_cases e : j = i
    · subst e; exact .inr (.inr (updB_same _ _ _))
    · exact .inr (.inl (updB_other _ _ e))
  refine ⟨φ, updB bl i .dead, ⟨hI.glo, hI.gsz, fun id b n e hb => ?_, hI.fr, fun id o ho => ?_, fun a b k n m e f h1 h2 => ?_, fun id hid => ?_⟩, RepL.kill (Phi.le_refl _) hoth _ _ hr, ?_⟩
  · by_cases e' : id = i
    · subst e'; rw [updB_same] at hb; cases hb
    · rw [updB_other _ _ e'] at hb; exact hI.gow id b n e hb
  · rw [killO_get] at ho
    by_cases e : i = id
    · subst e
      rw [if_pos rfl, if_pos hil] at ho
      injection ho with ho
      subst ho
      simp only [ObjOK, updB_same]
    · rw [if_neg e] at ho
      cases ho0 : s.H[id]? with
      | none => simp [ho0] at ho
      | some o0 =>
        simp [ho0] at ho
        subst ho
        exact (hI.obj id o0 ho0).kill (Phi.le_refl _) hoth (updB_other _ _ (Ne.symm e)) (fun b n es h => ⟨rfl, rfl⟩)
  · by_cases e1 : a = i
    · subst e1; rw [updB_same] at h1; cases h1
    · by_cases e2 : b = i
      · subst e2; rw [updB_same] at h2; cases h2
      · rw [updB_other _ _ e1] at h1
        rw [updB_other _ _ e2] at h2
        exact hI.inj a b k n m e f h1 h2
  · simp at hid
    rw [updB_other _ _ (by omega)]
    exact hI.out id hid
  · intro φ0 bl0 w0 hnn hf
    refine ⟨hf.os, hf.tape, hf.output, hf.size, hf.old, fun id b n e hb => ?_, hf.phi, hf.ids.trans hbl⟩
    by_cases e' : id = i
    · subst e'; rw [updB_same] at hb; cases hb
    · rw [updB_other _ _ e'] at hb; exact hf.own id b n e hb
end
end Go.Avm
