/- A piece of the small code, run: whole functions. -/
import Derived.Test.YtflfgjhdofphnabGreatDoorEv
set_option linter.unusedSimpArgs false
set_option linter.unusedVariables false
namespace Go.Avm
open Go

noncomputable def evQ (f : List AV) (x : IA) : AV := match x with
  | .t i => getF f i
  | .v x => x
theorem evQ_eq (f : List AV) : evQ f = ev f := by
  funext x
  cases x with
  | t i => exact getF_eq f i
  | v x => rfl

def oneE (H : List AObj) (x : AV) : Bool := match x with
  | .agg _ => false
  | .tup _ => false
  | .junk => false
  | .mref _ => false
  | .raw v => v.oneCell'
  | .own i _ => match getO H i with
    | .arr _ _ _ _ => true
    | _ => false
  | .osl i _ _ => match getO H i with
    | .arr _ _ _ _ => true
    | _ => false
  | _ => true
theorem oneE_sound {H : List AObj} {x : AV} (h : oneE H x = true) : OneC H x := by
  cases x <;> simp only [oneE] at h <;> simp only [OneC] <;> try (cases h; done)
  case own i o =>
    simp only [getO] at h
    generalize H.getD i .dead = b at h
    cases b <;> simp only at h <;> first | (cases h; done) | trivial
  case osl i o n =>
    simp only [getO] at h
    generalize H.getD i .dead = b at h
    cases b <;> simp only at h <;> first | (cases h; done) | trivial
  case raw v => exact h
def oneLE (H : List AObj) : List AV → Bool
  | [] => true
  | x :: l => match oneE H x with
    | true => oneLE H l
    | false => false
theorem oneLE_sound {H : List AObj} : ∀ {l : List AV}, oneLE H l = true → OneL H l
  | [], _ => fun x hx => by cases hx
  | x :: l, h => by
    simp only [oneLE] at h
    cases hx : oneE H x with
    | false => rw [hx] at h; cases h
    | true =>
      rw [hx] at h
      intro y hy
      rcases List.mem_cons.1 hy with rfl | hy
      · exact oneE_sound hx
      · exact oneLE_sound h y hy
def fillE (H : List AObj) (n : Nat) : List (Nat × Nat × AV) → Bool
  | [] => true
  | (o, sz, x) :: ps => match Nat.beq (cellsOf x).length sz && Nat.blt 0 sz && Nat.ble (o + sz) n && oneLE H (cellsOf x) with
    | true => fillE H n ps
    | false => false
theorem fillE_sound {H : List AObj} {n : Nat} : ∀ {ps : List (Nat × Nat × AV)}, fillE H n ps = true → fillOk H n ps
  | [], _ => trivial
  | (o, sz, x) :: ps, h => by
    simp only [fillE] at h
    cases hx : (Nat.beq (cellsOf x).length sz && Nat.blt 0 sz && Nat.ble (o + sz) n && oneLE H (cellsOf x)) with
    | false => rw [hx] at h; cases h
    | true =>
      rw [hx] at h
      simp only [Bool.and_eq_true] at hx
      simp only [fillOk]
      exact ⟨⟨Nat.eq_of_beq_eq_true hx.1.1.1, Nat.blt_eq.mp hx.1.1.2, Nat.le_of_ble_eq_true hx.1.2, oneLE_sound hx.2⟩, fillE_sound h⟩
def evPE (e : IA → AV) (ps : List (Nat × Nat × IA)) : List (Nat × Nat × AV) := ps.map fun p => (p.1, p.2.1, e p.2.2)

def b2sCE (len : Nat) (cs : List AV) : Option AV := match bytesL cs with
  | some l => gif (Nat.beq cs.length len) (some (.str l))
  | none => none
theorem b2sCE_sound {len : Nat} {cs : List AV} {v : AV} (h : b2sCE len cs = some v) {K : AV → Prop} (hk : K v) : b2sC len cs K := by
  unfold b2sCE at h
  unfold b2sC
  split at h
  · rename_i l hl
    obtain ⟨h1, h2⟩ := gif_some h
    injection h2 with h2; subst h2
    rw [hl]
    exact ⟨Nat.eq_of_beq_eq_true h1, hk⟩
  · cases h
noncomputable def evRR (o : IOp) (e : IA → AV) (H : List AObj) : Option AV := match o with
  | .build zero ps => gif (fillE H zero.length (evPE e ps)) (some (.agg (fillP zero (evPE e ps))))
  | .b2s x => match e x with
    | .nils => some (.str [])
    | .sl len cs => b2sCE len cs
    | .osl id off len => match getO H id with
      | .arr _ es _ cs => gif (Nat.beq es 1) (b2sCE len ((cs.drop off).take len))
      | _ => none
    | _ => none
  | o => evR o e H
theorem evRR_sound {o : IOp} {f : List AV} {H : List AObj} {v : AV} (h : evRR o (ev f) H = some v) {K : AV → Prop} (hk : K v) : rop o f H K := by
  cases o
  case build zero ps =>
    simp only [evRR] at h
    obtain ⟨h1, h2⟩ := gif_some h
    injection h2 with h2; subst h2
    exact ⟨fillE_sound h1, hk⟩
  case b2s x =>
    simp only [evRR] at h
    simp only [rop]
    generalize ev f x = q at h
    cases q <;> simp only at h <;> try (cases h; done)
    · injection h with h; subst h; exact hk
    · exact b2sCE_sound h hk
    · simp only [getO] at h
      simp only [b2sP]
      rename_i id off len
      generalize H.getD id .dead = b at h
      cases b <;> simp only at h <;> try (cases h; done)
      obtain ⟨h1, h2⟩ := gif_some h
      exact ⟨Nat.eq_of_beq_eq_true h1, b2sCE_sound h2 hk⟩
  all_goals exact evR_sound (by simpa only [evRR] using h) hk

def srcE (H : List AObj) (sz : Nat) (x : AV) : Option (Nat × List AV) := match x with
  | .nils => some (0, [])
  | .sl len cs => gif (Nat.beq cs.length (len * sz)) (some (len, cs))
  | .osl id off len => match getO H id with
    | .arr _ _ _ cs => gif (Nat.ble (off + len * sz) cs.length) (some (len, (cs.drop off).take (len * sz)))
    | _ => none
  | _ => none
theorem srcE_sound {H : List AObj} {sz : Nat} {x : AV} {m : Nat} {l : List AV} (h : srcE H sz x = some (m, l)) {K : Nat → List AV → Prop} (hk : K m l) : srcP H sz x K := by
  cases x <;> simp only [srcE] at h <;> try (cases h; done)
  · injection h with h; injection h with h1 h2; subst h1 h2; exact hk
  · obtain ⟨h1, h2⟩ := gif_some h
    injection h2 with h2; injection h2 with h2 h3; subst h2 h3
    exact ⟨Nat.eq_of_beq_eq_true h1, hk⟩
  · simp only [getO] at h
    simp only [srcP]
    rename_i id off len
    generalize H.getD id .dead = b at h
    cases b <;> simp only at h <;> try (cases h; done)
    obtain ⟨h1, h2⟩ := gif_some h
    injection h2 with h2; injection h2 with h2 h3; subst h2 h3
    exact ⟨Nat.le_of_ble_eq_true h1, hk⟩

/-- What writes, or makes. -/
def evW (n0 : Nat) (o : IOp) (e : IA → AV) (H : List AObj) : Option (AV × Option Nat × List AObj) := match o with
  | .store n x v => match e x with
    | .own id o => match getO H id with
      | .arr t es l cs => gif (!l && Nat.beq (cellsOf (e v)).length n && Nat.blt 0 n && Nat.ble (o + n) cs.length && oneLE H (cellsOf (e v))) (some (.tup [], none, H.set id (.arr t es false (putAt cs o (cellsOf (e v))))))
      | _ => none
    | _ => none
  | .alloc t zero => some (.own H.length 0, none, H ++ [.arr t zero.length false zero])
  | .box t sz x => gif (Nat.beq (cellsOf (e x)).length sz && Nat.blt 0 sz && oneLE H (cellsOf (e x))) (some (.own H.length 0, none, H ++ [.arr t sz false (cellsOf (e x))]))
  | .mk t sz bytes zero l c => match e l, e c with
    | .int _ nl, .int _ nc => gif (decide (0 ≤ nl) && decide (nl ≤ nc) && decide (nc * bytes ≤ 140737488355328)) (some (.osl H.length 0 nl.toNat, none, H ++ [.arr t sz false (reps nl.toNat zero)]))
    | _, _ => none
  | .app t sz bytes b x => match srcE H sz (e x) with
    | some (m, src) => match e b with
      | .nils => gif (Nat.ble (m * bytes) 140737488355328 && oneLE H src) (some (.osl H.length 0 m, none, H ++ [.arr t sz false src]))
      | .osl id off len => match getO H id with
        | .arr t' es l cs => gif (Nat.ble n0 id && Nat.beq t' t && Nat.beq es sz && Nat.beq off 0 && Nat.beq cs.length (len * sz) && oneLE H src && !l && Nat.ble ((len + m) * bytes) 140737488355328)
            (some (.osl id 0 (len + m), some id, (H.map (killO id)).set id (.arr t sz false (killL id (cs ++ src)))))
        | _ => none
      | _ => none
    | none => none
  | _ => none
theorem evW_sound {C : Ctx} {o : IOp} {f : List AV} {H H' : List AObj} {x : AV} {k : Option Nat} (h : evW C.n0 o (ev f) H = some (x, k, H')) {K : AV → Option Nat → List AObj → Prop} (hk : K x k H') : wop C o f H K := by
  cases o <;> simp only [evW] at h <;> try (cases h; done)
  case store n x v =>
    simp only [wop]
    generalize ev f x = q at h
    generalize ev f v = r at h
    cases q <;> simp only at h <;> try (cases h; done)
    simp only [getO] at h
    simp only [storeP]
    rename_i id o
    generalize H.getD id .dead = b at h
    cases b <;> simp only at h <;> try (cases h; done)
    rename_i t es l cs
    obtain ⟨h1, h2⟩ := gif_some h
    simp only [Bool.and_eq_true, Bool.not_eq_true'] at h1
    injection h2 with h2; injection h2 with h2 h3; injection h3 with h3 h4
    subst h2 h3 h4
    obtain ⟨⟨⟨⟨rfl, g1⟩, g2⟩, g3⟩, g4⟩ := h1
    exact ⟨⟨Nat.eq_of_beq_eq_true g1, Nat.blt_eq.mp g2, Nat.le_of_ble_eq_true g3, oneLE_sound g4⟩, hk⟩
  case alloc t z =>
    injection h with h2; injection h2 with h2 h3; injection h3 with h3 h4
    subst h2 h3 h4
    exact hk
  case box t sz x =>
    obtain ⟨h1, h2⟩ := gif_some h
    simp only [Bool.and_eq_true] at h1
    injection h2 with h2; injection h2 with h2 h3; injection h3 with h3 h4
    subst h2 h3 h4
    exact ⟨⟨Nat.eq_of_beq_eq_true h1.1.1, Nat.blt_eq.mp h1.1.2, oneLE_sound h1.2⟩, hk⟩
  case mk t sz bytes zero l c =>
    simp only [wop]
    generalize ev f l = q at h
    generalize ev f c = r at h
    cases q <;> cases r <;> simp only at h <;> try (cases h; done)
    obtain ⟨h1, h2⟩ := gif_some h
    simp only [Bool.and_eq_true, decide_eq_true_eq] at h1
    injection h2 with h2; injection h2 with h2 h3; injection h3 with h3 h4
    subst h2 h3 h4
    exact ⟨⟨h1.1.1, h1.1.2, h1.2⟩, hk⟩
  case app t sz bytes b x =>
    simp only [wop, wappP]
    cases hs : srcE H sz (ev f x) with
    | none => rw [hs] at h; cases h
    | some ms =>
      obtain ⟨m, src⟩ := ms
      rw [hs] at h
      simp only at h
      refine srcE_sound hs ?_
      generalize ev f b = q at h
      cases q <;> simp only at h <;> try (cases h; done)
      · obtain ⟨h1, h2⟩ := gif_some h
        simp only [Bool.and_eq_true] at h1
        injection h2 with h2; injection h2 with h2 h3; injection h3 with h3 h4
        subst h2 h3 h4
        exact ⟨⟨Nat.le_of_ble_eq_true h1.1, oneLE_sound h1.2⟩, hk⟩
      · simp only [getO] at h
        simp only [wappB]
        rename_i id off len
        generalize H.getD id .dead = ob at h
        cases ob <;> simp only at h <;> try (cases h; done)
        rename_i t' es l cs
        obtain ⟨h1, h2⟩ := gif_some h
        simp only [Bool.and_eq_true, Bool.not_eq_true'] at h1
        injection h2 with h2; injection h2 with h2 h3; injection h3 with h3 h4
        subst h2 h3 h4
        obtain ⟨⟨⟨⟨⟨⟨⟨g1, g2⟩, g3⟩, g4⟩, g5⟩, g6⟩, rfl⟩, g8⟩ := h1
        exact ⟨⟨⟨Nat.le_of_ble_eq_true g1, Nat.eq_of_beq_eq_true g2, Nat.eq_of_beq_eq_true g3, Nat.eq_of_beq_eq_true g4, Nat.eq_of_beq_eq_true g5, oneLE_sound g6, fun e => by cases e⟩, Nat.le_of_ble_eq_true g8⟩, hk⟩

/-! ### Objects become trees -/
def frz1 (i : Nat) (f : List AV) (H : List AObj) : List AV × List AObj := match getO H i with
  | .arr _ es _ cs => match isFrzL cs with
    | true => (thawL i es cs f, (H.map (thawO i es cs)).set i .dead)
    | false => (f, H)
  | _ => (f, H)
theorem frz1_gh {G : Glob} {n0 : Nat} (i : Nat) (f : List AV) (H : List AObj) : Gh G n0 ⟨f, H⟩ ⟨(frz1 i f H).1, (frz1 i f H).2⟩ := by
  unfold frz1 getO
  split
  · rename_i t es l cs ho
    split
    · rename_i hz
      refine Gh.freeze (s := ⟨f, H⟩) (t := t) (lent := l) ?_ (isFrzL_iff cs hz)
      show H[i]? = some _
      rw [List.getD_eq_getElem?_getD] at ho
      cases h : H[i]? with
      | none => rw [h] at ho; simp at ho
      | some o => rw [h] at ho; simp at ho; rw [ho]
    · exact Gh.refl _ _ _
  · exact Gh.refl _ _ _
def frzAll {α : Type} : List Nat → List AV → List AObj → (List AV → List AObj → α) → α
  | [], f, H, k => k f H
  | i :: l, f, H, k => match frz1 i f H with
    | (f, H) => spine f fun f => frcH H fun H => frzAll l f H k
theorem frzAll_gh {α : Type} {G : Glob} {n0 : Nat} : ∀ (l : List Nat) (f : List AV) (H : List AObj), ∃ f' H', Gh G n0 ⟨f, H⟩ ⟨f', H'⟩ ∧ ∀ k : List AV → List AObj → α, frzAll l f H k = k f' H'
  | [], f, H => ⟨f, H, Gh.refl _ _ _, fun _ => rfl⟩
  | i :: l, f, H => by
    obtain ⟨f', H', h1, h2⟩ := frzAll_gh (α := α) (G := G) (n0 := n0) l (frz1 i f H).1 (frz1 i f H).2
    refine ⟨f', H', (frz1_gh i f H).trans h1, fun k => ?_⟩
    simp only [frzAll, spine_eq, frcH_eq]
    exact h2 k

/-- What becomes of the frame. -/
inductive FT where
  | keep
  | kill (i : Nat)
  | frame (f : List AV)
def frT (ft : FT) (f : List AV) : List AV := match ft with
  | .keep => f
  | .kill i => killL i f
  | .frame f' => f'
def ftK (k : Option Nat) : FT := match k with
  | none => .keep
  | some i => .kill i
theorem frT_ftK (k : Option Nat) (f : List AV) : frT (ftK k) f = killF k f := by cases k <;> rfl
/-! ### Steps -/
abbrev Cl := FuncId → List AV → List AObj → Option (AV × List AObj)
def CallOK (C : Ctx) (cl : Cl) : Prop := ∀ g args H x H', cl g args H = some (x, H') → C.call g args H fun y K => y = x ∧ K = H'
def PcOK (C : Ctx) (pcl : FuncId → List AV → Option AV) : Prop := ∀ g args x, pcl g args = some x → C.pc g args x
def EntOK (C : Ctx) (en : FuncId → Bool) : Prop := ∀ g, en g = true → C.ent g

/-- What is asked of the run of an operation. -/
noncomputable def evCall (cl : Cl) (fz : FuncId → Bool) (g : FuncId) (args : List AV) (f : List AV) (H : List AObj) : Option (AV × FT × Option (List AObj)) := match fz g && !isFrzL args with
  | false => match cl g args H with
    | some (x, H') => some (x, .keep, some H')
    | none => none
  | true => frzAll (List.range H.length ++ List.range H.length) (f ++ args) H fun fa H => match Nat.beq fa.length (f.length + args.length) with
    | true => match cl g (fa.drop f.length) H with
      | some (x, H') => some (x, .frame (fa.take f.length), some H')
      | none => none
    | false => none
noncomputable def evO (cl : Cl) (fz en : FuncId → Bool) (n0 : Nat) (o : IOp) (f : List AV) (e : IA → AV) (H : List AObj) : Option (AV × FT × Option (List AObj)) := match o with
  | .call g args => evCall cl fz g (args.map e) f H
  | .callv g args => match e g with
    | .fn g cap => match en g with
      | true => evCall cl fz g (args.map e ++ cap) f H
      | false => none
    | _ => none
  | .bslice t sz len zero ps => gif (fillE H (len * sz) (evPE e ps)) (some (.osl H.length 0 len, .keep, some (H ++ [.arr t sz false (fillP (reps len zero) (evPE e ps))])))
  | .mkmap k => some (.mref H.length, .keep, some (H ++ [.mp k []]))
  | .mapup x k v => match e x, e k with
    | .mref id, .int k n => match getO H id with
      | .mp k' es => gif (kEq k k' && isFrz (e v)) (some (.tup [], .keep, some (H.set id (.mp k (mset es n (e v))))))
      | _ => none
    | _, _ => none
  | .store _ _ _ | .alloc _ _ | .box _ _ _ | .mk _ _ _ _ _ _ | .app _ _ _ _ _ => match evW n0 o e H with
    | some (x, k, H') => some (x, ftK k, some H')
    | none => none
  | o => match evRR o e H with
    | some x => some (x, .keep, none)
    | none => none
def newH (H : List AObj) (h : Option (List AObj)) : List AObj := h.getD H
theorem evCall_sound {C : Ctx} {cl : Cl} {fz : FuncId → Bool} {G : Glob} (hG : ∀ s s', Gh G C.n0 s s' → C.gh s s') (hm : ∀ f args H R R', (∀ x H', R x H' → R' x H') → C.call f args H R → C.call f args H R') (hcl : CallOK C cl) {g : FuncId} {args f : List AV} {H : List AObj} {x : AV} {k : FT} {h' : Option (List AObj)}
    (h : evCall cl fz g args f H = some (x, k, h')) {K : AV → St → Prop} (hk : K x ⟨frT k f, newH H h'⟩) : ACall C g args ⟨f, H⟩ K := by
  unfold evCall at h
  cases hz : (fz g && !isFrzL args) with
  | false =>
    rw [hz] at h
    simp only at h
    cases hc : cl g args H with
    | none => rw [hc] at h; cases h
    | some xh =>
      rw [hc] at h
      simp only at h
      injection h with h2; injection h2 with h2 h3; injection h3 with h3 h4
      subst h2 h3 h4
      exact ⟨⟨f, H⟩, args, rfl, hG _ _ (Gh.refl _ _ _), hm _ _ _ _ _ (fun y K' ⟨e1, e2⟩ => by subst e1 e2; exact hk) (hcl g args H xh.1 xh.2 hc)⟩
  | true =>
    rw [hz] at h
    simp only at h
    obtain ⟨fa, Ha, g1, g2⟩ := frzAll_gh (α := Option (AV × FT × Option (List AObj))) (G := G) (n0 := C.n0) (List.range H.length ++ List.range H.length) (f ++ args) H
    rw [g2] at h
    cases hl : Nat.beq fa.length (f.length + args.length) with
    | false => rw [hl] at h; cases h
    | true =>
      rw [hl] at h
      simp only at h
      cases hc : cl g (fa.drop f.length) Ha with
      | none => rw [hc] at h; cases h
      | some xh =>
        rw [hc] at h
        simp only at h
        injection h with h2; injection h2 with h2 h3; injection h3 with h3 h4
        subst h2 h3 h4
        have hlen := Nat.eq_of_beq_eq_true hl
        refine ⟨⟨fa.take f.length, Ha⟩, fa.drop f.length, by simp; omega, hG _ _ ?_, hm _ _ _ _ _ (fun y K' ⟨e1, e2⟩ => by subst e1 e2; exact hk) (hcl g _ Ha xh.1 xh.2 hc)⟩
        simp only [List.take_append_drop]
        exact g1

theorem evO_sound {C : Ctx} {cl : Cl} {fz en : FuncId → Bool} {G : Glob} (hG : ∀ s s', Gh G C.n0 s s' → C.gh s s') (hg : ∀ s, C.gh s s) (hm : ∀ f args H R R', (∀ x H', R x H' → R' x H') → C.call f args H R → C.call f args H R') (hcl : CallOK C cl) (hen : EntOK C en) {o : IOp} {f : List AV} {H : List AObj} {x : AV} {k : FT} {h' : Option (List AObj)}
    (h : evO cl fz en C.n0 o f (ev f) H = some (x, k, h')) {K : AV → St → Prop} (hk : K x ⟨frT k f, newH H h'⟩) : aop C o ⟨f, H⟩ K := by
  have rd : evRR o (ev f) H = some x → k = .keep → h' = none → aop C o ⟨f, H⟩ K := fun h1 h2 h3 => by
    subst h2 h3
    exact rop_aop (evRR_sound h1 hk)
  have wr : ∀ k', k = ftK k' → evW C.n0 o (ev f) H = some (x, k', newH H h') → aop C o ⟨f, H⟩ K := fun k' hk' h1 => wop_aop hg (evW_sound h1 (by rw [hk', frT_ftK] at hk; exact hk))
  cases o <;> simp only [evO] at h
  case call g args => exact evCall_sound hG hm hcl h hk
  case callv g args =>
    simp only [aop]
    generalize ev f g = q at h
    cases q <;> simp only at h <;> try (cases h; done)
    rename_i g' cap
    cases he : en g' with
    | false => rw [he] at h; cases h
    | true =>
      rw [he] at h
      simp only at h
      exact ⟨hen _ he, evCall_sound hG hm hcl h hk⟩
  case bslice t sz len zero ps =>
    obtain ⟨h1, h2⟩ := gif_some h
    injection h2 with h2; injection h2 with h2 h3; injection h3 with h3 h4
    subst h2 h3 h4
    exact ⟨fillE_sound h1, hk⟩
  case mkmap t =>
    injection h with h2; injection h2 with h2 h3; injection h3 with h3 h4
    subst h2 h3 h4
    exact hk
  case mapup x' k' v =>
    simp only [aop]
    generalize ev f x' = q at h
    generalize ev f k' = r at h
    generalize ev f v = z at h
    cases q <;> cases r <;> simp only at h <;> try (cases h; done)
    simp only [getO] at h
    simp only [mapupP]
    rename_i id kk n
    generalize H.getD id .dead = b at h
    cases b <;> simp only at h <;> try (cases h; done)
    obtain ⟨h1, h2⟩ := gif_some h
    simp only [Bool.and_eq_true, kEq, decide_eq_true_eq] at h1
    injection h2 with h2; injection h2 with h2 h3; injection h3 with h3 h4
    subst h2 h3 h4
    exact ⟨⟨h1.1, isFrz_iff _ h1.2⟩, hk⟩
  case store n x' v =>
    split at h <;> try (cases h; done)
    rename_i y k' H' he
    injection h with h2; injection h2 with h2 h3; injection h3 with h3 h4
    subst h2 h3 h4
    exact wr _ rfl he
  case alloc t z =>
    split at h <;> try (cases h; done)
    rename_i y k' H' he
    injection h with h2; injection h2 with h2 h3; injection h3 with h3 h4
    subst h2 h3 h4
    exact wr _ rfl he
  case box t sz x' =>
    split at h <;> try (cases h; done)
    rename_i y k' H' he
    injection h with h2; injection h2 with h2 h3; injection h3 with h3 h4
    subst h2 h3 h4
    exact wr _ rfl he
  case mk t sz bytes zero l c =>
    split at h <;> try (cases h; done)
    rename_i y k' H' he
    injection h with h2; injection h2 with h2 h3; injection h3 with h3 h4
    subst h2 h3 h4
    exact wr _ rfl he
  case app t sz bytes b x' =>
    split at h <;> try (cases h; done)
    rename_i y k' H' he
    injection h with h2; injection h2 with h2 h3; injection h3 with h3 h4
    subst h2 h3 h4
    exact wr _ rfl he
  all_goals
    split at h <;> try (cases h; done)
    rename_i y he
    injection h with h2; injection h2 with h2 h3; injection h3 with h3 h4
    subst h2 h3 h4
    exact rd he rfl rfl
end Go.Avm
