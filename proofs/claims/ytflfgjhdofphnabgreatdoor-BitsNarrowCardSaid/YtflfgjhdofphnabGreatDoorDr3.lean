/- Regions whose order is drawn: the order that is told stands for all; and it is sound. -/
import Derived.Test.YtflfgjhdofphnabGreatDoorDr2
set_option linter.unusedSimpArgs false
set_option linter.unusedVariables false
namespace Go.Avm
open Go
section
variable {C : Ctx} {K : St → Prop} {os : List IStep} {cl : List Nat} {ops : Array Oper}

/-- What is listed: those of a list. -/
def Lst (ops : Array Oper) (pre : List Nat) (L : Array Bool) : Prop := L.size = ops.size ∧ ∀ j, j < ops.size → (L.getD j true = true ↔ j ∈ pre)

theorem Lst.add {pre : List Nat} {L : Array Bool} (h : Lst ops pre L) {i : Nat} (hi : i < ops.size) : Lst ops (pre ++ [i]) (L.setIfInBounds i true) := by
  refine ⟨by simp [h.1], fun j hj => ?_⟩
  by_cases hij : i = j
  · subst hij
    have : i < L.size := by rw [h.1]; exact hi
    simp [this]
  · rw [getD_set_ne true hij, h.2 j hj]
    simp [Ne.symm hij]

theorem edges_get {j : Nat} {o : Oper} (h : ops[j]? = some o) (e : Edge) (he : e ∈ o.after) (hb : Region.binds .any e = true) : e.on ∈ (edgesOf ops).getD j [] := by
  simp only [edgesOf, List.getD_eq_getElem?_getD, List.getElem?_map, Array.getElem?_toList, h, Option.map_some, Option.getD_some, List.mem_map, List.mem_filter]
  exact ⟨e, ⟨by simpa using he, hb⟩, rfl⟩
theorem edges_of {j : Nat} {o : Oper} (h : ops[j]? = some o) {a : Nat} (ha : a ∈ (edgesOf ops).getD j []) : ∃ e ∈ o.after, Region.binds .any e = true ∧ e.on = a := by
  simp only [edgesOf, List.getD_eq_getElem?_getD, List.getElem?_map, Array.getElem?_toList, h, Option.map_some, Option.getD_some, List.mem_map, List.mem_filter] at ha
  obtain ⟨e, ⟨he, hb⟩, rfl⟩ := ha
  exact ⟨e, by simpa using he, hb, rfl⟩

theorem chkAnc_spec {es an : List (List Nat)} (h : chkAnc es an = true) {j : Nat} (hj : j < es.length) : (∀ e ∈ es.getD j [], e < j) ∧ ∀ a ∈ an.getD j [], a ∈ es.getD j [] ∨ ∃ e ∈ es.getD j [], a ∈ an.getD e [] := by
  simp only [chkAnc, List.all_eq_true, List.mem_range, Bool.and_eq_true, Bool.or_eq_true, List.any_eq_true, memN_iff, Nat.blt_eq] at h
  exact h j hj

/-- All that stands ahead of a ready one is listed. -/
theorem anc_listed {an : List (List Nat)} (hA : chkAnc (edgesOf ops) an = true) {L : Array Bool} (hd : Down ops L) : ∀ (j : Nat) (o : Oper), ops[j]? = some o → (∀ e ∈ o.after, Region.binds .any e = true → L.getD e.on false = true) →
    ∀ a ∈ an.getD j [], L.getD a false = true := by
  intro j
  induction j using Nat.strongRecOn with
  | ind j ih =>
    intro o ho hall a ha
    have hj : j < ops.size := (Array.getElem?_eq_some_iff.1 ho).1
    obtain ⟨h1, h2⟩ := chkAnc_spec hA (j := j) (by simpa [edgesOf] using hj)
    have key : ∀ e ∈ (edgesOf ops).getD j [], L.getD e false = true := fun e he => by
      obtain ⟨e', he', hb, rfl⟩ := edges_of ho he
      exact hall e' he' hb
    rcases h2 a ha with h3 | ⟨e, he, h3⟩
    · exact key a h3
    · have hej := h1 e he
      have helt : e < ops.size := by omega
      have hee := Array.getElem?_eq_getElem helt
      refine ih e hej _ hee (fun e' he' hb => ?_) a h3
      have h4 := key e he
      refine hd.2 e _ hee ?_ e' he' hb
      rw [getD_tf (by rw [hd.1]; exact helt)]
      exact h4

theorem dany_told (hC : Reg C) {an : List (List Nat)} (hes : (edgesOf ops).length = os.length) (hA : chkAnc (edgesOf ops) an = true) : ∀ (suf pre : List Nat) (L : Array Bool) (s : St), Lst ops pre L → Down ops L →
    pre.length + suf.length = os.length → pre.Nodup → (∀ i ∈ pre, i < os.length) → chkOrd (edgesOf ops) an ((List.range os.length).map (infOf os cl)) os.length pre suf = true → dops C K (suf.map fun i => (os.getD i default, cl.getD i 4)) s → dany C K os cl ops suf.length L s
  | [], pre, L, s, hL, hd, hn, hnd, hlt, hc, h => by
    refine ⟨?_, h⟩
    have hops : ops.size = os.length := by rw [← hes]; simp [edgesOf]
    refine List.eq_nil_iff_forall_not_mem.2 fun i hi => ?_
    have hi' := ready_lt hi
    have h0 := (mem_ready.1 hi).1
    have : i ∈ pre := by
      by_cases hm : i ∈ pre
      · exact hm
      · exfalso
        have hnd' : (i :: pre).Nodup := List.nodup_cons.2 ⟨hm, hnd⟩
        have hsub : (i :: pre) ⊆ List.range os.length := by
          intro x hx
          rw [List.mem_range]
          rcases List.mem_cons.1 hx with rfl | hx
          · omega
          · exact hlt x hx
        have := hnd'.length_le_of_subset hsub
        simp at this hn
        omega
    rw [(hL.2 i hi').2 this] at h0
    cases h0
  | i :: suf, pre, L, s, hL, hd, hn, hnd, hlt, hc, h => by
    have hops : ops.size = os.length := by rw [← hes]; simp [edgesOf]
    simp only [chkOrd, Bool.and_eq_true, Bool.not_eq_true', memN_iff, ← Bool.not_eq_true, Nat.blt_eq, List.all_eq_true, Bool.or_eq_true] at hc
    obtain ⟨⟨⟨⟨h1, h2⟩, h3⟩, h4⟩, h5⟩ := hc
    have hinf : ∀ q, q < os.length → ((List.range os.length).map (infOf os cl)).getD q noInf = infOf os cl q := fun q hq => by simp [List.getD_eq_getElem?_getD, hq]
    have hi : i < ops.size := by omega
    have hlisted : ∀ e ∈ pre, L.getD e false = true := fun e he => by
      have := (hL.2 e (by have := hlt e he; omega)).2 he
      rw [getD_tf (by rw [hL.1]; have := hlt e he; omega)] at this
      exact this
    have hr : i ∈ Region.ready .any ops L := mem_ready.2 ⟨by
        have := (hL.2 i hi)
        cases hb : L.getD i true with
        | false => rfl
        | true => exact absurd (this.1 hb) h1, _, Array.getElem?_eq_getElem hi, fun e he hb => hlisted _ (h3 _ (edges_get (Array.getElem?_eq_getElem hi) e he hb))⟩
    have hmem : ∀ j, j < ops.size → j ∉ pre → j ≠ i → j ∈ suf := by
      intro j hj hjp hji
      by_cases hm : j ∈ suf
      · exact hm
      · exfalso
        have hnd2 : suf.Nodup ∧ ∀ x ∈ suf, x ∉ pre ++ [i] ∧ x < os.length := by
          clear h4 h
          have gen : ∀ (suf pre : List Nat), chkOrd (edgesOf ops) an ((List.range os.length).map (infOf os cl)) os.length pre suf = true → suf.Nodup ∧ ∀ x ∈ suf, x ∉ pre ∧ x < os.length := by
            intro suf
            induction suf with
            | nil => intro pre _; simp
            | cons y suf ih =>
              intro pre hc
              simp only [chkOrd, Bool.and_eq_true, Bool.not_eq_true', memN_iff, ← Bool.not_eq_true, Nat.blt_eq] at hc
              obtain ⟨g1, g2⟩ := ih _ hc.2
              refine ⟨List.nodup_cons.2 ⟨fun hy => (g2 y hy).1 (by simp), g1⟩, fun x hx => ?_⟩
              rcases List.mem_cons.1 hx with rfl | hx
              · exact ⟨hc.1.1.1.1, hc.1.1.1.2⟩
              · exact ⟨fun hp => (g2 x hx).1 (by simp [hp]), (g2 x hx).2⟩
          exact gen _ _ h5
        have hnd' : (j :: (pre ++ i :: suf)).Nodup := by
          refine List.nodup_cons.2 ⟨by simp [hjp, hji, hm], ?_⟩
          refine List.nodup_append.2 ⟨hnd, List.nodup_cons.2 ⟨fun hx => (hnd2.2 i hx).1 (by simp), hnd2.1⟩, fun a ha b hb hab => ?_⟩
          subst hab
          rcases List.mem_cons.1 hb with rfl | hb
          · exact h1 ha
          · exact (hnd2.2 a hb).1 (by simp [ha])
        have hsub : (j :: (pre ++ i :: suf)) ⊆ List.range os.length := by
          intro x hx
          rw [List.mem_range]
          simp only [List.mem_cons, List.mem_append] at hx
          rcases hx with rfl | hx | rfl | hx
          · omega
          · exact hlt x hx
          · exact h2
          · exact (hnd2.2 x hx).2
        have := hnd'.length_le_of_subset hsub
        simp at this hn
        omega
    show dany C K os cl ops (suf.length + 1) L s
    refine dany_first hC suf.length L s hd hr ?_ ?_
    · rintro j hj hji ⟨L', hd', hi', hj'⟩
      have hjlt := ready_lt hj'
      have hjp : j ∉ pre := fun hp => by
        have h6 := (hL.2 j hjlt).2 hp
        rcases hj with hj | hj
        · rw [(mem_ready.1 hj).1] at h6; cases h6
        · rw [hj] at h6; cases h6
      have h7 := h4 j (hmem j hjlt hjp hji)
      rcases h7 with h7 | h7
      · exfalso
        obtain ⟨_, o, ho, hall⟩ := mem_ready.1 hj'
        have := anc_listed hA hd' j o ho hall i h7
        rw [← getD_tf (by rw [hd'.1]; exact hi), hi'] at this
        cases this
      · rw [hinf i h2, hinf j (by omega)] at h7
        simp only [compat, Bool.and_eq_true, Bool.or_eq_true] at h7
        refine ⟨?_, h7.2⟩
        rcases h7.1 with h8 | ⟨h8, h9⟩
        · exact .inl (Nat.eq_of_beq_eq_true h8)
        · refine .inr ⟨Nat.eq_of_beq_eq_true h8, ?_⟩
          rcases h9 with h9 | ⟨h9, h10⟩
          · have := Nat.le_of_ble_eq_true h9
            simp only [infOf] at this
            exact .inl (by omega)
          · exact .inr ⟨Nat.eq_of_beq_eq_true h9, h10⟩
    · refine dst1_mono hC (fun s' h' => ?_) h
      exact dany_told hC hes hA suf (pre ++ [i]) _ s' (hL.add hi) (hd.add hr) (by simp at hn ⊢; omega) (by
        refine List.nodup_append.2 ⟨hnd, by simp, fun a ha b hb hab => ?_⟩
        simp at hb; subst hb; subst hab; exact h1 ha) (fun x hx => by
        simp at hx
        rcases hx with hx | rfl
        · exact hlt x hx
        · exact h2) h5 h'
end

/-! ### Soundness -/
theorem nil_ext {Z : Prop} {T : List AObj → (AV → Prop) → Prop} {Φ : AV → Prop} (hd : Det Z T []) (h : T [] Φ) (H : List AObj) : T H Φ := by
  obtain ⟨v, h1, _, h3⟩ := hd Φ h
  exact h3 H (Ext.nil H) Φ h1

theorem fop_rop {C : Ctx} {o : IOp} {f : List AV} {Φ : AV → Prop} (h : fop C o f Φ) (h1 : ∀ g args, o ≠ .call g args) (h2 : ∀ t sz len zero parts, o ≠ .bslice t sz len zero parts) (h3 : ∀ g args, o ≠ .callv g args) (H : List AObj) : rop o f H Φ := by
  cases o <;> simp only [fop] at h <;> simp only [rop]
  case mov => exact h.2
  case pick => exact h.2
  case call g args => exact absurd rfl (h1 g args)
  case bslice t sz len zero parts => exact absurd rfl (h2 _ _ _ _ _)
  case callv g args => exact absurd rfl (h3 g args)
  case build zero parts => exact ⟨fillOk_ext (Ext.nil H) h.2.1, h.2.2⟩
  case bin => exact h.2
  case eqb => exact h.2
  case not => exact h.2
  case neg => exact h.2
  case conv => exact h.2
  case idxS => exact h.2
  case lenS => exact h.2
  case max => exact h.2
  case min => exact h.2
  case eqin => exact h.2
  case ext => exact h.2
  case slcS => exact h.2
  case eqpn n x => exact nil_ext (eqpnP_det _ _) h.2 H
  case eqsn n x => exact nil_ext (eqsnP_det _ _) h.2 H
  case nilck x => exact nil_ext (nilckP_det _) h.2 H
  case fld n x => exact nil_ext (fldP_det _ _) h.2 H
  case idxA n x i => exact nil_ext (idxAP_det _ _ _) h.2 H
  case idxP m n x i => exact nil_ext (idxPP_det _ _ _ _) h.2 H
  case load n x => exact nil_ext (loadP_det _ _) h.2 H
  case len x => exact nil_ext (lenQ_det _) h.2 H
  case slc n x lo hi => exact nil_ext (slcP_det _ _ _ _) h.2 H
  case b2s x => exact nil_ext (b2sP_det _) h.2 H

theorem rop_aop {C : Ctx} {o : IOp} {s : St} {K : AV → St → Prop} (h : rop o s.f s.H (K · s)) : aop C o s K := by
  cases o <;> simp only [rop] at h <;> simp only [aop] <;> try exact h
  case len x =>
    generalize ev s.f x = q at h
    cases q <;> simp only [lenQ] at h <;> simp only [lenP]
    · exact h
    · exact fun _ => h.2
    · exact (live_ext (Ext.refl _) h).2 _ (fun _ => (live_of h).2)
  all_goals exact h.elim

theorem wop_aop {C : Ctx} (hg : ∀ s, C.gh s s) {o : IOp} {s : St} {K : AV → St → Prop} (h : wop C o s.f s.H fun x k H => K x ⟨killF k s.f, H⟩) : aop C o s K := by
  cases o <;> simp only [wop] at h <;> simp only [aop]
  case store n x v => exact h
  case alloc t z => exact h
  case box t sz x => exact h
  case mk t sz bytes zero l c =>
    generalize ev s.f l = q at h
    generalize ev s.f c = r at h
    cases q <;> cases r <;> simp only [wmkP] at h <;> simp only [mkP]
    exact h
  case app t sz bytes b x =>
    have key : ∀ m src, wappB C s.H t sz bytes (ev s.f b) m src (fun x k H => K x ⟨killF k s.f, H⟩) → appB C.n0 s t sz bytes (ev s.f b) m src K := by
      intro m src h
      generalize ev s.f b = q at h
      cases q <;> simp only [wappB] at h <;> simp only [appB]
      · exact h
      · rename_i id off len
        generalize s.H.getD id .dead = ob at h
        cases ob <;> simp only [wappO] at h <;> simp only [appO]
        exact h
    unfold wappP at h
    unfold appP
    generalize ev s.f x = q at h
    cases q <;> simp only [srcP] at h ⊢
    · exact key _ _ h
    · exact ⟨h.1, key _ _ h.2⟩
    · rename_i id off len
      generalize s.H.getD id .dead = ob at h
      cases ob <;> simp only [srcO] at h ⊢
      exact ⟨h.1, key _ _ h.2⟩
  case call g args => exact ⟨s, _, rfl, hg _, h⟩

variable {P : Program} {G : Glob} {φ : Phi} {bl : Nat → BL} {w : World}

/-- A block that is written once and told as a tree. -/
theorem inv_frz_new {H : List AObj} (hi : Inv G φ bl H w) {w' : World} {t : TypeId} {cs : List AV} {cur : Array Value} (hh : w'.heap = w.heap.push (.cells cur t (0, 0))) (ho : w'.os = w.os) (ht : w'.tape = w.tape) (hou : w'.output = w.output)
    (hle : cs.length ≤ cur.size) (hz : FrzL cs) (hr : RepL φ bl cs (cur.toList.take cs.length)) :
    ∃ φ', Inv G φ' bl H w' ∧ Fr φ bl w φ' bl w' ∧ RepRow φ' cs w.heap.size 0 := by
  have hold : ∀ b, b < w.heap.size → w'.heap[b]? = w.heap[b]? := fun b hb => by rw [hh, Array.getElem?_push, if_neg (by omega)]
  have hnew : w'.heap[w.heap.size]? = some (.cells cur t (0, 0)) := by rw [hh]; simp
  have hsz : w'.heap.size = w.heap.size + 1 := by rw [hh]; simp
  have hnone : ∀ o, φ w.heap.size o = none := fun o => by
    cases hq : φ w.heap.size o with
    | none => rfl
    | some u => exact absurd (phi_lt hi hq) (by omega)
  have hle' : φ.le (phiAt φ w.heap.size true cs.length cur) := fun b o u hu => by
    have : b ≠ w.heap.size := fun e => by rw [e, hnone] at hu; cases hu
    simp [phiAt, this, hu]
  have hoth : ∀ b, b < w.heap.size → phiAt φ w.heap.size true cs.length cur b = φ b := fun b hb => by
    have : b ≠ w.heap.size := by omega
    funext o; simp [phiAt, this]
  refine ⟨phiAt φ w.heap.size true cs.length cur, ⟨fun b hb => ?_, by rw [hsz]; have := hi.gsz; omega, hi.gow, fun b o u hu => ?_, fun id o hoo => ?_, hi.inj, hi.out⟩, ⟨ho, ht, hou, by omega, fun b hb _ => ⟨hold b hb, hoth b hb⟩, fun id b n es hb => .inr ⟨n, es, hb⟩, hle', BLle.refl _⟩, ?_⟩
  · rw [hold b (Nat.lt_of_lt_of_le hb hi.gsz)]; exact hi.glo b hb
  · by_cases e : b = w.heap.size
    · subst e
      simp only [phiAt, if_true, true_and] at hu
      split at hu
      · rename_i hlt
        rw [cell_of_row w' w.heap.size o cur t (0, 0) hnew]
        exact hu
      · cases hu
    · have hb : φ b o = some u := by simpa [phiAt, e] using hu
      rw [← hi.fr b o u hb]
      exact World.cell?_of_block (hold b (phi_lt hi hb))
  · exact (hi.obj id o hoo).mono hle' (BLle.refl _) rfl (fun b n es hb => ⟨hold b (inv_lt hi hb), hoth b (inv_lt hi hb)⟩)
  · refine RepRow.iff.2 fun i c hc => ?_
    have hil : i < cs.length := by
      rcases Nat.lt_or_ge i cs.length with h | h
      · exact h
      · rw [List.getElem?_eq_none h] at hc; cases hc
    obtain ⟨v, hv, hrv⟩ := hr.get hil
    have hcd : cs.getD i .junk = c := by simp [List.getD_eq_getElem?_getD, hc]
    rw [hcd] at hrv
    have hcur : cur[i]? = some v := by
      rw [List.getElem?_take] at hv
      simpa [hil] using hv
    refine ⟨v, by simp [phiAt, hil, hcur], ?_⟩
    refine Rep.mono hle' (BLle.refl _) c v (hrv.frz _ _ ?_)
    rw [FrzL.iff] at hz
    exact hz c (List.mem_of_getElem? hc)
end Go.Avm
