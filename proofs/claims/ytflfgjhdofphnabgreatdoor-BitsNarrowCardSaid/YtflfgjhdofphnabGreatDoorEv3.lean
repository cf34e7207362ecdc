/- A piece of the small code, run: code, functions. -/
import Derived.Test.YtflfgjhdofphnabGreatDoorEv2
set_option linter.unusedSimpArgs false
set_option linter.unusedVariables false
namespace Go.Avm
open Go

/-! ### Steps -/
noncomputable def evFl (pcl : FuncId → List AV → Option AV) (en : FuncId → Bool) (o : IOp) (e : IA → AV) : Option AV := match o with
  | .mov x => match x with
    | .t _ => some (e x)
    | .v y => gif (isFrz y) (some (e x))
  | .call g args => match isFrzL (args.map e) with
    | true => pcl g (args.map e)
    | false => none
  | .callv g args => match e g with
    | .fn g' cap => match en g' && isFrzL (args.map e) && isFrzL cap with
      | true => pcl g' (args.map e ++ cap)
      | false => none
    | _ => none
  | .bslice t sz len zero ps => gif (isFrzL zero && isFrzL ((evPE e ps).map fun p => p.2.2) && fillE [] (len * sz) (evPE e ps)) (some (.sl len (fillP (reps len zero) (evPE e ps))))
  | .build zero ps => gif (isFrzL zero && isFrzL ((evPE e ps).map fun p => p.2.2) && fillE [] zero.length (evPE e ps)) (some (.agg (fillP zero (evPE e ps))))
  | .bin op x y => gif (isFrz (e x) && isFrz (e y)) (binE op (e x) (e y))
  | .fld n x => gif (isFrz (e x)) (evR (.fld n x) e [])
  | .load n x => gif (isFrz (e x)) (evR (.load n x) e [])
  | .idxA n x i => gif (isFrz (e x) && isFrz (e i)) (evR (.idxA n x i) e [])
  | .nilck x => gif (isFrz (e x)) (evR (.nilck x) e [])
  | .len x => gif (isFrz (e x)) (evR (.len x) e [])
  | .ext x i => gif (isFrz (e x)) (evR (.ext x i) e [])
  | .slc n x lo hi => gif (isFrz (e x)) (evR (.slc n x lo hi) e [])
  | _ => none
theorem evR_P {P : (AV → Prop) → Prop} {o : IOp} {f : List AV} {v : AV} (h : evR o (ev f) [] = some v) {K : AV → Prop} (hk : K v) : rop o f [] K := evR_sound h hk
theorem evFl_sound {C : Ctx} {pcl : FuncId → List AV → Option AV} {en : FuncId → Bool} (hpc : PcOK C pcl) (hen : EntOK C en) {o : IOp} {f : List AV} {v : AV} (h : evFl pcl en o (ev f) = some v) {K : AV → Prop} (hk : K v) : fop C o f K := by
  cases o <;> simp only [evFl] at h <;> try (cases h; done)
  case mov x =>
    cases x with
    | t i => simp only at h; injection h with h; subst h; exact ⟨trivial, hk⟩
    | v y =>
      simp only at h
      obtain ⟨h1, h2⟩ := gif_some h
      injection h2 with h2; subst h2
      exact ⟨isFrz_iff _ h1, hk⟩
  case call g args =>
    cases hz : isFrzL (args.map (ev f)) with
    | false => rw [hz] at h; cases h
    | true => rw [hz] at h; exact ⟨isFrzL_iff _ hz, v, hpc _ _ _ h, hk⟩
  case callv g args =>
    simp only [fop]
    generalize ev f g = q at h
    cases q <;> simp only at h <;> try (cases h; done)
    rename_i g' cap
    cases hz : (en g' && isFrzL (args.map (ev f)) && isFrzL cap) with
    | false => rw [hz] at h; cases h
    | true =>
      rw [hz] at h
      simp only [Bool.and_eq_true] at hz
      exact ⟨⟨hen _ hz.1.1, isFrzL_iff _ hz.1.2, isFrzL_iff _ hz.2⟩, v, hpc _ _ _ h, hk⟩
  case bslice t sz len zero ps =>
    obtain ⟨h1, h2⟩ := gif_some h
    simp only [Bool.and_eq_true] at h1
    injection h2 with h2; subst h2
    exact ⟨⟨isFrzL_iff _ h1.1.1, isFrzL_iff _ h1.1.2⟩, fillE_sound h1.2, hk⟩
  case build zero ps =>
    obtain ⟨h1, h2⟩ := gif_some h
    simp only [Bool.and_eq_true] at h1
    injection h2 with h2; subst h2
    exact ⟨frzL_append.2 ⟨isFrzL_iff _ h1.1.1, isFrzL_iff _ h1.1.2⟩, fillE_sound h1.2, hk⟩
  case bin op x y =>
    obtain ⟨h1, h2⟩ := gif_some h
    simp only [Bool.and_eq_true] at h1
    exact ⟨⟨isFrz_iff _ h1.1, isFrz_iff _ h1.2, trivial⟩, binE_sound h2 hk⟩
  case fld n x =>
    obtain ⟨h1, h2⟩ := gif_some h
    exact ⟨⟨isFrz_iff _ h1, trivial⟩, evR_sound (o := .fld n x) h2 hk⟩
  case load n x =>
    obtain ⟨h1, h2⟩ := gif_some h
    exact ⟨⟨isFrz_iff _ h1, trivial⟩, evR_sound (o := .load n x) h2 hk⟩
  case idxA n x i =>
    obtain ⟨h1, h2⟩ := gif_some h
    simp only [Bool.and_eq_true] at h1
    exact ⟨⟨isFrz_iff _ h1.1, isFrz_iff _ h1.2, trivial⟩, evR_sound (o := .idxA n x i) h2 hk⟩
  case nilck x =>
    obtain ⟨h1, h2⟩ := gif_some h
    exact ⟨⟨isFrz_iff _ h1, trivial⟩, evR_sound (o := .nilck x) h2 hk⟩
  case len x =>
    obtain ⟨h1, h2⟩ := gif_some h
    exact ⟨⟨isFrz_iff _ h1, trivial⟩, evR_sound (o := .len x) h2 hk⟩
  case ext x i =>
    obtain ⟨h1, h2⟩ := gif_some h
    exact ⟨⟨isFrz_iff _ h1, trivial⟩, evR_sound (o := .ext x i) h2 hk⟩
  case slc n x lo hi =>
    obtain ⟨h1, h2⟩ := gif_some h
    exact ⟨⟨isFrz_iff _ h1, trivial⟩, evR_sound (o := .slc n x lo hi) h2 hk⟩

noncomputable def evX (cl : Cl) (pcl : FuncId → List AV → Option AV) (en : FuncId → Bool) (n0 : Nat) (c : Nat) (o : IOp) (e : IA → AV) (H : List AObj) : Option (AV × Option Nat × Option (List AObj)) := match c with
  | 0 => match evFl pcl en o e with
    | some x => some (x, none, none)
    | none => none
  | 1 => match evRR o e H with
    | some x => some (x, none, none)
    | none => none
  | _ => match o with
    | .call g args => match cl g (args.map e) H with
      | some (x, H') => some (x, none, some H')
      | none => none
    | o => match evW n0 o e H with
      | some (x, k, H') => some (x, k, some H')
      | none => none
theorem evX_sound {C : Ctx} {cl : Cl} {pcl : FuncId → List AV → Option AV} {en : FuncId → Bool} (hen : EntOK C en) (hm : ∀ f args H R R', (∀ x H', R x H' → R' x H') → C.call f args H R → C.call f args H R') (hcl : CallOK C cl) (hpc : PcOK C pcl) {c : Nat} {o : IOp} {f : List AV} {H : List AObj} {x : AV} {k : Option Nat} {h' : Option (List AObj)}
    (h : evX cl pcl en C.n0 c o (ev f) H = some (x, k, h')) {K : AV → Option Nat → List AObj → Prop} (hk : K x k (newH H h')) : ex1 C c o f H K := by
  match c with
  | 0 =>
    simp only [evX] at h
    split at h <;> try (cases h; done)
    rename_i y he
    injection h with h2; injection h2 with h2 h3; injection h3 with h3 h4
    subst h2 h3 h4
    rw [ex1_0]
    exact evFl_sound hpc hen he hk
  | 1 =>
    simp only [evX] at h
    split at h <;> try (cases h; done)
    rename_i y he
    injection h with h2; injection h2 with h2 h3; injection h3 with h3 h4
    subst h2 h3 h4
    rw [ex1_1]
    exact evRR_sound he hk
  | c + 2 =>
    show wop C o f H K
    by_cases hc : ∃ g args, o = .call g args
    · obtain ⟨g, args, rfl⟩ := hc
      simp only [evX] at h
      cases hcc : cl g (args.map (ev f)) H with
      | none => rw [hcc] at h; cases h
      | some xh =>
        rw [hcc] at h
        simp only at h
        injection h with h2; injection h2 with h2 h3; injection h3 with h3 h4
        subst h2 h3 h4
        exact hm _ _ _ _ _ (fun y K' ⟨e1, e2⟩ => by subst e1 e2; exact hk) (hcl g _ H xh.1 xh.2 hcc)
    · have h5 : evX cl pcl en C.n0 (c + 2) o (ev f) H = (match evW C.n0 o (ev f) H with
          | some (x, k, H') => some (x, k, some H')
          | none => none) := by
        cases o <;> first | rfl | exact absurd ⟨_, _, rfl⟩ hc
      rw [h5] at h
      split at h <;> try (cases h; done)
      rename_i y k' H' he
      injection h with h2; injection h2 with h2 h3; injection h3 with h3 h4
      subst h2 h3 h4
      exact evW_sound he hk

/-! ### A list of steps -/
def killX {α : Type} (i : Nat) (x : AV) (k : AV → α) : α := match x with
  | .own j o => match Nat.beq j i with
    | true => k .junk
    | false => k (.own j o)
  | .osl j o n => match Nat.beq j i with
    | true => k .junk
    | false => k (.osl j o n)
  | .agg cs => frcV (kill i (.agg cs)) k
  | .tup cs => frcV (kill i (.tup cs)) k
  | .fn f cs => frcV (kill i (.fn f cs)) k
  | .mref j => frcV (kill i (.mref j)) k
  | .int t n => k (.int t n)
  | .bool b => k (.bool b)
  | .str s => k (.str s)
  | .nilp => k .nilp
  | .ptr cs o => k (.ptr cs o)
  | .nils => k .nils
  | .sl n cs => k (.sl n cs)
  | .raw v => k (.raw v)
  | .junk => k .junk
theorem killX_eq {α : Type} (i : Nat) (x : AV) (k : AV → α) : killX i x k = k (kill i x) := by
  cases x <;> simp only [killX, kill, frcV_eq]
  · rename_i j o
    cases h : Nat.beq j i with
    | true => rw [if_pos (Nat.eq_of_beq_eq_true h)]
    | false => rw [if_neg (fun e => by rw [e, Nat.beq_refl] at h; cases h)]
  · rename_i j o n
    cases h : Nat.beq j i with
    | true => rw [if_pos (Nat.eq_of_beq_eq_true h)]
    | false => rw [if_neg (fun e => by rw [e, Nat.beq_refl] at h; cases h)]
def killLX {α : Type} (i : Nat) : List AV → (List AV → α) → α
  | [], k => k []
  | x :: l, k => killX i x fun x => killLX i l fun l => k (x :: l)
theorem killLX_eq {α : Type} (i : Nat) : ∀ (l : List AV) (k : List AV → α), killLX i l k = k (killL i l)
  | [], _ => rfl
  | x :: l, k => by simp only [killLX, killX_eq, killLX_eq i l, killL]
def killFX {α : Type} (i : Option Nat) (f : List AV) (k : List AV → α) : α := match i with
  | none => k f
  | some i => killLX i f k
theorem killFX_eq {α : Type} (i : Option Nat) (f : List AV) (k : List AV → α) : killFX i f k = k (killF i f) := by
  cases i <;> simp only [killFX, killF, killLX_eq]
noncomputable def putX {α : Type} (f : List AV) (d : Option Nat) (x : AV) (k : List AV → α) : α := match d with
  | none => k f
  | some d => setF f d x k
theorem putX_eq {α : Type} (f : List AV) (d : Option Nat) (x : AV) (k : List AV → α) : putX f d x k = k (put f d x) := by
  cases d <;> simp only [putX, put, setF_eq]
def newHX {α : Type} (H : List AObj) (h : Option (List AObj)) (k : List AObj → α) : α := match h with
  | none => k H
  | some H => frcH H k
theorem newHX_eq {α : Type} (H : List AObj) (h : Option (List AObj)) (k : List AObj → α) : newHX H h k = k (newH H h) := by
  cases h <;> simp [newHX, newH, frcH_eq]

noncomputable def gdX (f : List AV) (g : Option (Nat × Bool)) : Option Bool := match g with
  | none => some true
  | some (j, b) => match getF f j with
    | .bool t => match t with
      | true => some b
      | false => some (!b)
    | .tup vs => match vs with
      | [] => some false
      | _ => none
    | _ => none
theorem gdX_eq (f : List AV) (g : Option (Nat × Bool)) : gdX f g = gd f g := by
  cases g with
  | none => rfl
  | some jb =>
    obtain ⟨j, b⟩ := jb
    simp only [gdX, gd, getF_eq]
    generalize f.getD j .junk = x
    cases x <;> try rfl
    · rename_i t
      cases t <;> cases b <;> rfl
    · rename_i vs
      cases vs <;> rfl

def frTX {α : Type} (ft : FT) (f : List AV) (k : List AV → α) : α := match ft with
  | .keep => k f
  | .kill i => killLX i f k
  | .frame f' => spine f' k
theorem frTX_eq {α : Type} (ft : FT) (f : List AV) (k : List AV → α) : frTX ft f k = k (frT ft f) := by
  cases ft <;> simp only [frTX, frT, killLX_eq, spine_eq]
noncomputable def evOps (cl : Cl) (fz en : FuncId → Bool) (n0 : Nat) : List IStep → List AV → List AObj → Option (List AV × List AObj)
  | [], f, H => some (f, H)
  | o :: os, f, H => match gdX f o.g with
    | some true => match evO cl fz en n0 o.op f (evQ f) H with
      | some (x, k, h) => frcV x fun x => frTX k f fun f => putX f o.dst x fun f => newHX H h fun H => evOps cl fz en n0 os f H
      | none => none
    | some false => putX f o.dst (.tup []) fun f => evOps cl fz en n0 os f H
    | none => none
noncomputable def evDs (cl : Cl) (pcl : FuncId → List AV → Option AV) (en : FuncId → Bool) (n0 : Nat) : List (IStep × Nat) → List AV → List AObj → Option (List AV × List AObj)
  | [], f, H => some (f, H)
  | (o, c) :: os, f, H => match gdX f o.g with
    | some true => match evX cl pcl en n0 c o.op (evQ f) H with
      | some (x, k, h) => frcV x fun x => killFX k f fun f => putX f o.dst x fun f => newHX H h fun H => evDs cl pcl en n0 os f H
      | none => none
    | some false => putX f o.dst (.tup []) fun f => evDs cl pcl en n0 os f H
    | none => none

section
variable {C : Ctx} {G : Glob} {cl : Cl} {pcl : FuncId → List AV → Option AV} {fz en : FuncId → Bool}
structure EvOK (G : Glob) (C : Ctx) (cl : Cl) (pcl : FuncId → List AV → Option AV) (en : FuncId → Bool) : Prop where
  gh : ∀ s, C.gh s s
  ghs : ∀ s s', Gh G C.n0 s s' → C.gh s s'
  mono : ∀ f args H R R', (∀ x H', R x H' → R' x H') → C.call f args H R → C.call f args H R'
  cl : CallOK C cl
  pc : PcOK C pcl
  en : EntOK C en

theorem aops_iff {K : St → Prop} {o : IStep} {os : List IStep} {s : St} : aops C K (o :: os) s ↔ (match gd s.f o.g with
    | some true => aop C o.op s fun x s' => aops C K os ⟨put s'.f o.dst x, s'.H⟩
    | some false => aops C K os ⟨put s.f o.dst (.tup []), s.H⟩
    | none => False) := by
  obtain ⟨d, op, g⟩ := o
  cases g with
  | none => simp only [aops, gd]
  | some jb =>
    obtain ⟨j, b⟩ := jb
    simp only [aops, gd, wantB_iff]
    generalize s.f.getD j .junk = x
    cases x <;> try rfl
    · rename_i t
      cases t <;> cases b <;> simp
    · rename_i vs
      cases vs <;> simp

theorem evOps_sound (hE : EvOK G C cl pcl en) : ∀ (os : List IStep) (f : List AV) (H : List AObj) (f' : List AV) (H' : List AObj), evOps cl fz en C.n0 os f H = some (f', H') → ∀ K : St → Prop, K ⟨f', H'⟩ → aops C K os ⟨f, H⟩
  | [], f, H, f', H', h, K, hk => by
    simp only [evOps] at h
    injection h with h; injection h with h1 h2; subst h1 h2
    exact hk
  | o :: os, f, H, f', H', h, K, hk => by
    rw [aops_iff]
    simp only [evOps, gdX_eq] at h
    simp only
    cases hg : gd f o.g with
    | none => rw [hg] at h; cases h
    | some r =>
      rw [hg] at h
      cases r with
      | false =>
        simp only [putX_eq] at h ⊢
        exact evOps_sound hE os _ _ _ _ h K hk
      | true =>
        simp only at h ⊢
        rw [evQ_eq] at h
        cases ho : evO cl fz en C.n0 o.op f (ev f) H with
        | none => rw [ho] at h; cases h
        | some r =>
          obtain ⟨x, k, hh⟩ := r
          rw [ho] at h
          simp only [frcV_eq, frTX_eq, putX_eq, newHX_eq] at h
          exact evO_sound hE.ghs hE.gh hE.mono hE.cl hE.en ho (evOps_sound hE os _ _ _ _ h K hk)

theorem evDs_sound (hE : EvOK G C cl pcl en) : ∀ (os : List (IStep × Nat)) (f : List AV) (H : List AObj) (f' : List AV) (H' : List AObj), evDs cl pcl en C.n0 os f H = some (f', H') → ∀ K : St → Prop, K ⟨f', H'⟩ → dops C K os ⟨f, H⟩
  | [], f, H, f', H', h, K, hk => by
    simp only [evDs] at h
    injection h with h; injection h with h1 h2; subst h1 h2
    exact hk
  | (o, c) :: os, f, H, f', H', h, K, hk => by
    simp only [dops]
    rw [dst1_iff]
    simp only [evDs, gdX_eq] at h
    simp only
    cases hg : gd f o.g with
    | none => rw [hg] at h; cases h
    | some r =>
      rw [hg] at h
      cases r with
      | false =>
        simp only [putX_eq] at h ⊢
        exact evDs_sound hE os _ _ _ _ h K hk
      | true =>
        simp only at h ⊢
        rw [evQ_eq] at h
        cases ho : evX cl pcl en C.n0 c o.op (ev f) H with
        | none => rw [ho] at h; cases h
        | some r =>
          obtain ⟨x, k, hh⟩ := r
          rw [ho] at h
          simp only [frcV_eq, killFX_eq, putX_eq, newHX_eq] at h
          exact evX_sound hE.en hE.mono hE.cl hE.pc ho (evDs_sound hE os _ _ _ _ h K hk)

/-! ### Code -/
abbrev Out := Option (Ex × List AV × List AObj)
def iter (b : List AV → List AObj → Out) : Nat → List AV → List AObj → Out
  | 0, _, _ => none
  | n + 1, f, H => match b f H with
    | some (.normal, f, H) => iter b n f H
    | some (.exit i, f, H) => some (.exit i, f, H)
    | some (.ret, f, H) => some (.ret, f, H)
    | none => none
noncomputable def evC (cl : Cl) (pcl : FuncId → List AV → Option AV) (fz en : FuncId → Bool) (n0 fuel : Nat) : IC → List AV → List AObj → Out
  | .skip, f, H => some (.normal, f, H)
  | .reg ops, f, H => match evOps cl fz en n0 ops f H with
    | some (f, H) => some (.normal, f, H)
    | none => none
  | .regD ops, f, H => match evDs cl pcl en n0 ops f H with
    | some (f, H) => some (.normal, f, H)
    | none => none
  | .seq a b, f, H => match evC cl pcl fz en n0 fuel a f H with
    | some (.normal, f, H) => evC cl pcl fz en n0 fuel b f H
    | some (.exit i, f, H) => some (.exit i, f, H)
    | some (.ret, f, H) => some (.ret, f, H)
    | none => none
  | .cond c a b, f, H => match evQ f c with
    | .bool t => match t with
      | true => evC cl pcl fz en n0 fuel a f H
      | false => evC cl pcl fz en n0 fuel b f H
    | _ => none
  | .block id b, f, H => match evC cl pcl fz en n0 fuel b f H with
    | some (.normal, f, H) => some (.normal, f, H)
    | some (.exit i, f, H) => match Nat.beq i id with
      | true => some (.normal, f, H)
      | false => some (.exit i, f, H)
    | some (.ret, f, H) => some (.ret, f, H)
    | none => none
  | .loop b, f, H => iter (evC cl pcl fz en n0 fuel b) fuel f H
  | .exit i, f, H => some (.exit i, f, H)
  | .ret, f, H => some (.ret, f, H)

theorem evC_sound (hE : EvOK G C cl pcl en) {fuel : Nat} : ∀ (c : IC) (f : List AV) (H : List AObj) (e : Ex) (f' : List AV) (H' : List AObj), evC cl pcl fz en C.n0 fuel c f H = some (e, f', H') → ∀ K : Ex → St → Prop, K e ⟨f', H'⟩ → awp C c K ⟨f, H⟩ := by
  intro c
  induction c with
  | skip =>
    intro f H e f' H' h K hk
    simp only [evC] at h
    injection h with h; injection h with h1 h2; injection h2 with h2 h3; subst h1 h2 h3
    exact hk
  | reg ops =>
    intro f H e f' H' h K hk
    simp only [evC] at h
    cases ho : evOps cl fz en C.n0 ops f H with
    | none => rw [ho] at h; cases h
    | some r =>
      rw [ho] at h
      simp only at h
      injection h with h; injection h with h1 h2; injection h2 with h2 h3; subst h1 h2 h3
      exact evOps_sound hE ops f H _ _ ho _ hk
  | regD ops =>
    intro f H e f' H' h K hk
    simp only [evC] at h
    cases ho : evDs cl pcl en C.n0 ops f H with
    | none => rw [ho] at h; cases h
    | some r =>
      rw [ho] at h
      simp only at h
      injection h with h; injection h with h1 h2; injection h2 with h2 h3; subst h1 h2 h3
      exact evDs_sound hE ops f H _ _ ho _ hk
  | seq a b iha ihb =>
    intro f H e f' H' h K hk
    simp only [evC] at h
    simp only [awp]
    cases ho : evC cl pcl fz en C.n0 fuel a f H with
    | none => rw [ho] at h; cases h
    | some r =>
      obtain ⟨e1, f1, H1⟩ := r
      rw [ho] at h
      refine iha f H e1 f1 H1 ho _ ?_
      cases e1 with
      | normal => exact ihb f1 H1 e f' H' h K hk
      | exit i =>
        simp only at h
        injection h with h; injection h with h1 h2; injection h2 with h2 h3; subst h1 h2 h3
        exact hk
      | ret =>
        simp only at h
        injection h with h; injection h with h1 h2; injection h2 with h2 h3; subst h1 h2 h3
        exact hk
  | cond c a b iha ihb =>
    intro f H e f' H' h K hk
    simp only [evC, evQ_eq] at h
    simp only [awp]
    generalize ev f c = q at h
    cases q <;> simp only at h <;> try (cases h; done)
    rename_i t
    simp only [condP]
    cases t with
    | true => exact ⟨fun _ => iha f H e f' H' h K hk, fun e => by cases e⟩
    | false => exact ⟨fun e => (by cases e), fun _ => ihb f H e f' H' h K hk⟩
  | block id b ih =>
    intro f H e f' H' h K hk
    simp only [evC] at h
    simp only [awp]
    cases ho : evC cl pcl fz en C.n0 fuel b f H with
    | none => rw [ho] at h; cases h
    | some r =>
      obtain ⟨e1, f1, H1⟩ := r
      rw [ho] at h
      refine ih f H e1 f1 H1 ho _ ?_
      cases e1 with
      | normal =>
        simp only at h
        injection h with h; injection h with h1 h2; injection h2 with h2 h3; subst h1 h2 h3
        exact hk
      | ret =>
        simp only at h
        injection h with h; injection h with h1 h2; injection h2 with h2 h3; subst h1 h2 h3
        exact hk
      | exit i =>
        simp only at h
        simp only [exBlock]
        cases hb : Nat.beq i id with
        | true =>
          rw [hb] at h
          simp only at h
          injection h with h; injection h with h1 h2; injection h2 with h2 h3; subst h1 h2 h3
          rw [if_pos (Nat.eq_of_beq_eq_true hb)]
          exact hk
        | false =>
          rw [hb] at h
          simp only at h
          injection h with h; injection h with h1 h2; injection h2 with h2 h3; subst h1 h2 h3
          rw [if_neg (fun e => by rw [e, Nat.beq_refl] at hb; cases hb)]
          exact hk
  | loop b ih =>
    intro f H e f' H' h K hk
    simp only [evC] at h
    simp only [awp]
    refine ⟨fun n s => iter (evC cl pcl fz en C.n0 fuel b) n s.f s.H = some (e, f', H'), fuel, ⟨f, H⟩, hE.gh _, h, ?_⟩
    intro n s hI
    cases n with
    | zero => simp [iter] at hI
    | succ n =>
      simp only [iter] at hI
      cases ho : evC cl pcl fz en C.n0 fuel b s.f s.H with
      | none => rw [ho] at hI; cases hI
      | some r =>
        obtain ⟨e1, f1, H1⟩ := r
        rw [ho] at hI
        refine ih s.f s.H e1 f1 H1 ho _ ?_
        cases e1 with
        | normal => exact ⟨⟨f1, H1⟩, n, hE.gh _, Nat.lt_succ_self n, hI⟩
        | exit i =>
          simp only at hI
          injection hI with h; injection h with h1 h2; injection h2 with h2 h3; subst h1 h2 h3
          exact hk
        | ret =>
          simp only at hI
          injection hI with h; injection h with h1 h2; injection h2 with h2 h3; subst h1 h2 h3
          exact hk
  | exit i =>
    intro f H e f' H' h K hk
    simp only [evC] at h
    injection h with h; injection h with h1 h2; injection h2 with h2 h3; subst h1 h2 h3
    exact hk
  | ret =>
    intro f H e f' H' h K hk
    simp only [evC] at h
    injection h with h; injection h with h1 h2; injection h2 with h2 h3; subst h1 h2 h3
    exact hk
end
end Go.Avm
