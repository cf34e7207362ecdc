/- Regions whose order is drawn: neighbours change places. -/
import Derived.Test.YtflfgjhdofphnabGreatDoorDr
set_option linter.unusedSimpArgs false
set_option linter.unusedVariables false
namespace Go.Avm
open Go

structure Reg (C : Ctx) : Prop where
  mono : ∀ f args H R R', (∀ x H', R x H' → R' x H') → C.call f args H R → C.call f args H R'
  pcf : ∀ g args v, C.pc g args v → Frz v

def gd (f : List AV) (g : Option (Nat × Bool)) : Option Bool := match g with
  | none => some true
  | some (j, b) => match f.getD j .junk with
    | .bool t => some (t == b)
    | .tup [] => some false
    | _ => none

section
variable {C : Ctx}

theorem ex1_0 (o : IOp) (f : List AV) (H : List AObj) (K : AV → Option Nat → List AObj → Prop) : ex1 C 0 o f H K = fop C o f fun x => K x none H := rfl
theorem ex1_1 (o : IOp) (f : List AV) (H : List AObj) (K : AV → Option Nat → List AObj → Prop) : ex1 C 1 o f H K = rop o f H fun x => K x none H := rfl
theorem ex1_2 (o : IOp) (f : List AV) (H : List AObj) (K : AV → Option Nat → List AObj → Prop) : ex1 C 2 o f H K = wop C o f H K := rfl
theorem wantB_iff {b : Bool} {x : AV} {A B : Prop} : wantB b x A B ↔ (match x with | .bool t => (if (t == b) = true then A else B) | .tup [] => B | _ => False) := by
  unfold wantB
  split
  · rename_i t
    simp only [ifB]
    cases (t == b) <;> simp
  · rfl
  · split <;> simp_all

theorem dst1_iff {c : Nat} {o : IStep} {s : St} {K : St → Prop} : dst1 C c o s K ↔ (match gd s.f o.g with
    | some true => ex1 C c o.op s.f s.H fun x k H => K ⟨put (killF k s.f) o.dst x, H⟩
    | some false => K ⟨put s.f o.dst (.tup []), s.H⟩
    | none => False) := by
  obtain ⟨d, op, g⟩ := o
  cases g with
  | none => simp only [dst1, gd]
  | some jb =>
    obtain ⟨j, b⟩ := jb
    simp only [dst1, gd, wantB_iff]
    generalize s.f.getD j .junk = x
    cases x <;> try rfl
    · rename_i t
      cases t <;> cases b <;> simp
    · rename_i vs
      cases vs <;> simp

theorem killF_get (k : Option Nat) (f : List AV) (t : Nat) : (killF k f).getD t .junk = killo k (f.getD t .junk) := by
  cases k with
  | none => rfl
  | some i =>
    simp only [killF, killo]
    induction f generalizing t with
    | nil => simp [killL, kill]
    | cons c cs ih =>
      cases t with
      | zero => simp [killL]
      | succ t => simpa [killL] using ih t

theorem killL_set (i : Nat) : ∀ (f : List AV) (d : Nat) (x : AV), killL i (f.set d x) = (killL i f).set d (kill i x)
  | [], _, _ => rfl
  | c :: cs, 0, _ => rfl
  | c :: cs, d + 1, x => by simp only [List.set_cons_succ, killL, killL_set i cs d x]
theorem killF_put (k : Option Nat) (f : List AV) (d : Option Nat) (x : AV) : killF k (put f d x) = put (killF k f) d (killo k x) := by
  cases k with
  | none => rfl
  | some i =>
    cases d with
    | none => rfl
    | some d => simp only [killF, put, killo, killL_set]
theorem put_comm {f : List AV} {a b : Option Nat} {x y : AV} (h : sameDst a b = false) : put (put f a x) b y = put (put f b y) a x := by
  cases a with
  | none => rfl
  | some a =>
    cases b with
    | none => rfl
    | some b =>
      have h : a ≠ b := fun e => by subst e; simp [sameDst, Nat.beq_refl] at h
      simp only [put]
      exact List.set_comm _ _ h
theorem put_get {f : List AV} {d : Option Nat} {x : AV} {l : List Nat} (h : hits d l = false) {t : Nat} (ht : t ∈ l) : (put f d x).getD t .junk = f.getD t .junk := by
  cases d with
  | none => rfl
  | some d =>
    have : d ≠ t := fun e => by
      subst e
      simp only [hits] at h
      rw [memN_iff.2 ht] at h
      cases h
    simp only [put, List.getD_eq_getElem?_getD, List.getElem?_set_ne this]
theorem agr_put {k : Option Nat} {f : List AV} {d : Option Nat} {x : AV} {l : List Nat} (h : hits d l = false) : Agr k f (put (killF k f) d x) l := fun t ht => by
  rw [put_get h ht, killF_get]
theorem agr_put0 {f : List AV} {d : Option Nat} {x : AV} {l : List Nat} (h : hits d l = false) : Agr none f (put f d x) l := agr_put (k := none) h
theorem agr_back {f : List AV} {d : Option Nat} {x : AV} {l : List Nat} (h : hits d l = false) : Agr none (put f d x) f l := fun t ht => (put_get h ht).symm

theorem gd_agr {k : Option Nat} {f f' : List AV} {o : IStep} (h : Agr k f f' o.rds) {r : Bool} (hg : gd f o.g = some r) : gd f' o.g = some r := by
  obtain ⟨d, op, g⟩ := o
  cases g with
  | none => exact hg
  | some jb =>
    obtain ⟨j, b⟩ := jb
    simp only [gd] at hg ⊢
    have := h j (by simp [IStep.rds])
    rw [this]
    generalize f.getD j .junk = x at hg
    cases x <;> try (cases hg; done)
    · rename_i t
      cases k <;> simpa [killo, kill] using hg
    · rename_i vs
      cases vs with
      | nil => cases k <;> simpa [killo, kill, killL] using hg
      | cons v vs => simp at hg
theorem rds_op {o : IStep} : o.op.rds ⊆ o.rds := by
  intro t ht
  simp [IStep.rds, ht]

theorem ex1_agr {c : Nat} {o : IOp} {f f' : List AV} {H : List AObj} {K : AV → Option Nat → List AObj → Prop} (hC : Reg C) (ha : Agr none f f' o.rds) (h : ex1 C c o f H K) : ex1 C c o f' H K := by
  match c with
  | 0 =>
    rw [ex1_0] at h ⊢
    obtain ⟨v, h1, h2⟩ := fop_det h hC.pcf
    exact h2 none f' ha _ h1
  | 1 =>
    rw [ex1_1] at h ⊢
    obtain ⟨v, h1, h2⟩ := rop_det h
    exact h2 H (Ext.refl _) f' ha _ h1
  | c + 2 => exact wop_agr ha h

theorem wop_mono {o : IOp} {f : List AV} {H : List AObj} {K K' : AV → Option Nat → List AObj → Prop} (hC : Reg C) (hk : ∀ x k H', K x k H' → K' x k H') (h : wop C o f H K) : wop C o f H K' := by
  cases o <;> simp only [wop] at h ⊢
  case store n x v =>
    generalize ev f x = q at h
    cases q <;> simp only [storeP] at h ⊢
    rename_i id o
    generalize H.getD id .dead = b at h
    match b, h with
    | .arr t es false cs, h => exact ⟨h.1, hk _ _ _ h.2⟩
  case alloc t z => exact hk _ _ _ h
  case box t sz x => exact ⟨h.1, hk _ _ _ h.2⟩
  case mk t sz bytes zero l c =>
    generalize ev f l = q at h
    generalize ev f c = r at h
    cases q <;> cases r <;> simp only [wmkP] at h ⊢
    exact ⟨h.1, hk _ _ _ h.2⟩
  case app t sz bytes b x =>
    have key : ∀ m src, wappB C H t sz bytes (ev f b) m src K → wappB C H t sz bytes (ev f b) m src K' := by
      intro m src h
      generalize ev f b = q at h
      cases q <;> simp only [wappB] at h ⊢
      · exact ⟨h.1, hk _ _ _ h.2⟩
      · rename_i id off len
        generalize H.getD id .dead = ob at h
        cases ob <;> simp only [wappO] at h ⊢
        exact ⟨h.1, hk _ _ _ h.2⟩
    unfold wappP at h ⊢
    generalize ev f x = q at h
    cases q <;> simp only [srcP] at h ⊢
    · exact key _ _ h
    · exact ⟨h.1, key _ _ h.2⟩
    · rename_i id off len
      generalize H.getD id .dead = ob at h
      cases ob <;> simp only [srcO] at h ⊢
      exact ⟨h.1, key _ _ h.2⟩
  case call g args => exact hC.mono _ _ _ _ _ (fun x H' h => hk _ _ _ h) h

theorem ex1_mono {c : Nat} {o : IOp} {f : List AV} {H : List AObj} {K K' : AV → Option Nat → List AObj → Prop} (hC : Reg C) (hk : ∀ x k H', K x k H' → K' x k H') (h : ex1 C c o f H K) : ex1 C c o f H K' := by
  match c with
  | 0 =>
    rw [ex1_0] at h ⊢
    obtain ⟨v, h1, h2⟩ := fop_det h hC.pcf
    exact h2 none f (fun _ _ => rfl) (fun x => K' x none H) (hk _ _ _ h1)
  | 1 =>
    rw [ex1_1] at h ⊢
    obtain ⟨v, h1, h2⟩ := rop_det h
    exact h2 H (Ext.refl _) f (fun _ _ => rfl) (fun x => K' x none H) (hk _ _ _ h1)
  | c + 2 => exact wop_mono hC hk h

theorem dst1_mono {c : Nat} {o : IStep} {s : St} {K K' : St → Prop} (hC : Reg C) (hk : ∀ s, K s → K' s) (h : dst1 C c o s K) : dst1 C c o s K' := by
  rw [dst1_iff] at h ⊢
  generalize gd s.f o.g = g at h
  match g, h with
  | some true, h => exact ex1_mono hC (fun x k H' h => hk _ h) h
  | some false, h => exact hk _ h

theorem det0 {o : IStep} {s : St} {Φ : St → Prop} (hC : Reg C) (h : dst1 C 0 o s Φ) :
    ∃ v, Φ ⟨put s.f o.dst v, s.H⟩ ∧ ∀ k f' H', Agr k s.f f' o.rds → ∀ Φ' : St → Prop, Φ' ⟨put f' o.dst (killo k v), H'⟩ → dst1 C 0 o ⟨f', H'⟩ Φ' := by
  rw [dst1_iff] at h
  cases hg : gd s.f o.g with
  | none => rw [hg] at h; exact h.elim
  | some r =>
    rw [hg] at h
    cases r with
    | true =>
      simp only [ex1_0] at h
      obtain ⟨v, h1, h2⟩ := fop_det h hC.pcf
      refine ⟨v, h1, fun k f' H' ha Φ' hp => ?_⟩
      rw [dst1_iff]
      simp only [gd_agr ha hg, ex1_0]
      exact h2 k f' (ha.sub rds_op) (fun x => Φ' ⟨put (killF none f') o.dst x, H'⟩) hp
    | false =>
      refine ⟨.tup [], h, fun k f' H' ha Φ' hp => ?_⟩
      rw [dst1_iff]
      simp only [gd_agr ha hg]
      cases k <;> simpa [killo, kill, killL] using hp
theorem det1 {o : IStep} {s : St} {Φ : St → Prop} (h : dst1 C 1 o s Φ) :
    ∃ v, Φ ⟨put s.f o.dst v, s.H⟩ ∧ ∀ f' H', Agr none s.f f' o.rds → Ext s.H H' → ∀ Φ' : St → Prop, Φ' ⟨put f' o.dst v, H'⟩ → dst1 C 1 o ⟨f', H'⟩ Φ' := by
  rw [dst1_iff] at h
  cases hg : gd s.f o.g with
  | none => rw [hg] at h; exact h.elim
  | some r =>
    rw [hg] at h
    cases r with
    | true =>
      simp only [ex1_1] at h
      obtain ⟨v, h1, h2⟩ := rop_det h
      refine ⟨v, h1, fun f' H' ha he Φ' hp => ?_⟩
      rw [dst1_iff]
      simp only [gd_agr ha hg, ex1_1]
      exact h2 H' he f' (ha.sub rds_op) (fun x => Φ' ⟨put (killF none f') o.dst x, H'⟩) hp
    | false =>
      refine ⟨.tup [], h, fun f' H' ha he Φ' hp => ?_⟩
      rw [dst1_iff]
      simp only [gd_agr ha hg]
      exact hp

theorem dst1_comm {ci cj : Nat} {oi oj : IStep} {s : St} {K : St → Prop} (hC : Reg C) (hc : ci = 0 ∨ (ci = 1 ∧ ((cj = 0 ∨ cj = 1) ∨ (cj = 2 ∧ isMaker oj.op = true)))) (ha : (!hits oi.dst oj.rds && !hits oj.dst oi.rds && !sameDst oi.dst oj.dst) = true)
    (h : dst1 C ci oi s fun s1 => dst1 C cj oj s1 K) : dst1 C cj oj s fun s2 => dst1 C ci oi s2 K := by
  simp only [Bool.and_eq_true, Bool.not_eq_true'] at ha
  obtain ⟨⟨a1, a2⟩, a3⟩ := ha
  rcases hc with rfl | ⟨rfl, hc⟩
  · obtain ⟨v, h1, h2⟩ := det0 hC h
    rw [dst1_iff] at h1 ⊢
    simp only at h1
    cases hg : gd (put s.f oi.dst v) oj.g with
    | none => rw [hg] at h1; exact h1.elim
    | some r =>
      have hg' := gd_agr (k := none) (f' := s.f) (o := oj) (agr_back a1) hg
      rw [hg] at h1
      rw [hg']
      cases r with
      | true =>
        simp only at h1 ⊢
        refine ex1_mono hC ?_ (ex1_agr (f' := s.f) hC ((agr_back a1).sub rds_op) h1)
        intro x k H' hk
        refine h2 k _ H' (agr_put a2) _ ?_
        rw [killF_put, put_comm a3] at hk
        exact hk
      | false =>
        simp only at h1 ⊢
        refine h2 none _ _ (agr_put0 a2) _ ?_
        rw [put_comm a3] at h1
        exact h1
  · obtain ⟨v, h1, h2⟩ := det1 h
    rcases hc with (rfl | rfl) | ⟨rfl, hm⟩
    · obtain ⟨u, h3, h4⟩ := det0 hC h1
      refine h4 none s.f s.H (agr_back a1) _ ?_
      refine h2 _ _ (agr_put0 a2) (Ext.refl _) _ ?_
      rw [put_comm a3] at h3
      exact h3
    · obtain ⟨u, h3, h4⟩ := det1 h1
      refine h4 s.f s.H (agr_back a1) (Ext.refl _) _ ?_
      refine h2 _ _ (agr_put0 a2) (Ext.refl _) _ ?_
      rw [put_comm a3] at h3
      exact h3
    · rw [dst1_iff] at h1 ⊢
      simp only at h1
      cases hg : gd (put s.f oi.dst v) oj.g with
      | none => rw [hg] at h1; exact h1.elim
      | some r =>
        have hg' := gd_agr (k := none) (f' := s.f) (o := oj) (agr_back a1) hg
        rw [hg] at h1
        rw [hg']
        cases r with
        | true =>
          simp only [ex1_2] at h1 ⊢
          obtain ⟨x, b, h3, h4⟩ := wop_maker (C := C) (f := s.f) hm (wop_agr ((agr_back a1).sub rds_op) h1)
          refine h4 _ ?_
          refine h2 _ _ (agr_put0 a2) (Ext.app _ _) _ ?_
          simp only [killF] at h3 ⊢
          rw [put_comm a3] at h3
          exact h3
        | false =>
          simp only at h1 ⊢
          refine h2 _ _ (agr_put0 a2) (Ext.refl _) _ ?_
          rw [put_comm a3] at h1
          exact h1

/-! ### Any order -/
def dany (C : Ctx) (K : St → Prop) (os : List IStep) (cl : List Nat) (ops : Array Oper) : Nat → Array Bool → St → Prop
  | 0, L, s => Region.ready .any ops L = [] ∧ K s
  | n + 1, L, s => (Region.ready .any ops L = [] → K s) ∧ ∀ i ∈ Region.ready .any ops L, dst1 C (cl.getD i 4) (os.getD i default) s (dany C K os cl ops n (L.setIfInBounds i true))

variable {K : St → Prop} {os : List IStep} {cl : List Nat} {ops : Array Oper}

/-- What stands ahead of a listed one is listed. -/
def Down (ops : Array Oper) (L : Array Bool) : Prop := L.size = ops.size ∧ ∀ (j : Nat) (o : Oper), ops[j]? = some o → L.getD j true = true → ∀ e ∈ o.after, Region.binds .any e = true → L.getD e.on false = true

theorem getD_tf {L : Array Bool} {j : Nat} (h : j < L.size) : L.getD j true = L.getD j false := by simp [h]

theorem ready_lt {L : Array Bool} {i : Nat} (h : i ∈ Region.ready .any ops L) : i < ops.size := by
  obtain ⟨_, o, ho, _⟩ := mem_ready.1 h
  exact (Array.getElem?_eq_some_iff.1 ho).1

theorem Down.add {L : Array Bool} (h : Down ops L) {i : Nat} (hi : i ∈ Region.ready .any ops L) : Down ops (L.setIfInBounds i true) := by
  refine ⟨by simp [h.1], fun j o ho hj e he hb => ?_⟩
  by_cases hij : i = j
  · subst hij
    obtain ⟨_, o', ho', hall⟩ := mem_ready.1 hi
    rw [ho] at ho'; injection ho' with ho'; subst ho'
    exact getD_set_true (hall e he hb)
  · rw [getD_set_ne true hij] at hj
    exact getD_set_true (h.2 j o ho hj e he hb)

theorem dany_first (hC : Reg C) {i : Nat} : ∀ (n : Nat) (L : Array Bool) (s : St), Down ops L → i ∈ Region.ready .any ops L →
    (∀ j, j ∈ Region.ready .any ops L ∨ L.getD j true = false → j ≠ i → (∃ L', Down ops L' ∧ (L'.getD i true = false) ∧ j ∈ Region.ready .any ops L') →
      (cl.getD i 4 = 0 ∨ (cl.getD i 4 = 1 ∧ ((cl.getD j 4 = 0 ∨ cl.getD j 4 = 1) ∨ (cl.getD j 4 = 2 ∧ isMaker (os.getD j default).op = true)))) ∧ apartI (infOf os cl i) (infOf os cl j) = true) →
    dst1 C (cl.getD i 4) (os.getD i default) s (dany C K os cl ops n (L.setIfInBounds i true)) → dany C K os cl ops (n + 1) L s := by
  intro n
  induction n with
  | zero =>
    intro L s hd hi hc h
    refine ⟨fun e => (by rw [e] at hi; cases hi), fun j hj => ?_⟩
    by_cases hji : j = i
    · subst hji; exact h
    · exfalso
      have hj' := ready_mono (ops := ops) hj hji
      have hcc := (hc j (.inl hj) hji ⟨L, hd, (mem_ready.1 hi).1, hj⟩).1
      have : ∃ s', dany C K os cl ops 0 (L.setIfInBounds i true) s' := by
        rcases hcc with e | ⟨e, _⟩
        · rw [e] at h; obtain ⟨v, h1, _⟩ := det0 hC h; exact ⟨_, h1⟩
        · rw [e] at h; obtain ⟨v, h1, _⟩ := det1 h; exact ⟨_, h1⟩
      obtain ⟨s', h1⟩ := this
      rw [h1.1] at hj'; cases hj'
  | succ n ih =>
    intro L s hd hi hc h
    refine ⟨fun e => (by rw [e] at hi; cases hi), fun j hj => ?_⟩
    by_cases hji : j = i
    · subst hji; exact h
    · have hcc := hc j (.inl hj) hji ⟨L, hd, (mem_ready.1 hi).1, hj⟩
      have h1 : dst1 C (cl.getD i 4) (os.getD i default) s fun s1 => dst1 C (cl.getD j 4) (os.getD j default) s1 (dany C K os cl ops n ((L.setIfInBounds i true).setIfInBounds j true)) :=
        dst1_mono hC (fun s1 h1 => h1.2 j (ready_mono hj hji)) h
      have h2 := dst1_comm hC hcc.1 hcc.2 h1
      refine dst1_mono hC (fun s2 h3 => ?_) h2
      refine ih (L.setIfInBounds j true) s2 (hd.add hj) (ready_mono hi (Ne.symm hji)) ?_ ?_
      · intro q hq hqi hL
        refine hc q ?_ hqi hL
        have hlt : ∀ q, q ∈ Region.ready .any ops (L.setIfInBounds j true) ∨ (L.setIfInBounds j true).getD q true = false → L.getD q true = false := by
          intro q hq
          have h0 : (L.setIfInBounds j true).getD q true = false := by
            rcases hq with hq | hq
            · exact (mem_ready.1 hq).1
            · exact hq
          by_cases hjq : j = q
          · subst hjq
            have hjs : j < L.size := by rw [hd.1]; exact ready_lt hj
            simp [hjs] at h0
          · rw [getD_set_ne true hjq] at h0; exact h0
        exact .inr (hlt q hq)
      · rw [Array.setIfInBounds_comm _ _ hji]
        exact h3
end
end Go.Avm
