/- A piece of the small code, run: functions, by a table. -/
import Derived.Test.YtflfgjhdofphnabGreatDoorEv3
set_option linter.unusedSimpArgs false
set_option linter.unusedVariables false
namespace Go.Avm
open Go

noncomputable def resE1 (f : List AV) (H : List AObj) (r : IR) : Option AV := match r with
  | .t i => some (getF f i)
  | .c i n => match getF f i with
    | .ptr cs o => loadE n cs o
    | .own id o => match getO H id with
      | .arr _ _ _ cs => loadE n cs o
      | _ => none
    | _ => none
noncomputable def resE (f : List AV) (H : List AObj) : List IR → Option (List AV)
  | [] => some []
  | r :: rs => match resE1 f H r with
    | some x => match resE f H rs with
      | some xs => some (x :: xs)
      | none => none
    | none => none
theorem resE1_sound {f : List AV} {H : List AObj} {r : IR} {x : AV} (h : resE1 f H r = some x) {K : AV → Prop} (hk : K x) : resP1 ⟨f, H⟩ r K := by
  cases r with
  | t i =>
    simp only [resE1, getF_eq] at h
    injection h with h; subst h
    exact hk
  | c i n =>
    simp only [resE1, getF_eq] at h
    simp only [resP1]
    generalize f.getD i .junk = q at h
    cases q <;> simp only at h <;> try (cases h; done)
    · exact loadE_sound h hk
    · simp only [getO] at h
      simp only [loadP]
      rename_i id o
      generalize H.getD id .dead = b at h
      cases b <;> simp only at h <;> try (cases h; done)
      exact loadE_sound h hk
theorem resE_sound {f : List AV} {H : List AObj} : ∀ {rs : List IR} {xs : List AV}, resE f H rs = some xs → ∀ {K : List AV → Prop}, K xs → resP ⟨f, H⟩ rs K
  | [], xs, h, K, hk => by
    simp only [resE] at h
    injection h with h; subst h
    exact hk
  | r :: rs, xs, h, K, hk => by
    simp only [resE] at h
    cases h1 : resE1 f H r with
    | none => rw [h1] at h; cases h
    | some x =>
      rw [h1] at h
      simp only at h
      cases h2 : resE f H rs with
      | none => rw [h2] at h; cases h
      | some ys =>
        rw [h2] at h
        simp only at h
        injection h with h; subst h
        exact resE1_sound h1 (resE_sound h2 (K := fun xs => K (x :: xs)) hk)

/-! ### Functions -/
inductive Tb where
  | leaf
  | node (k : Nat) (v : IF) (l r : Tb)
def Tb.find (n : Nat) : Tb → Option IF
  | .leaf => none
  | .node k v l r => match Nat.beq n k with
    | true => some v
    | false => match Nat.blt n k with
      | true => l.find n
      | false => r.find n
def Tb.OK (P : Program) : Tb → Prop
  | .leaf => True
  | .node k v l r => lowF P k = some v ∧ l.OK P ∧ r.OK P
theorem Tb.find_ok {P : Program} {n : Nat} {F : IF} : ∀ {t : Tb}, t.OK P → t.find n = some F → lowF P n = some F
  | .leaf, _, h => by simp [Tb.find] at h
  | .node k v l r, ho, h => by
    simp only [Tb.find] at h
    simp only [Tb.OK] at ho
    cases hb : Nat.beq n k with
    | true =>
      rw [hb] at h
      simp only at h
      injection h with h; subst h
      rw [Nat.eq_of_beq_eq_true hb]
      exact ho.1
    | false =>
      rw [hb] at h
      simp only at h
      cases hl : Nat.blt n k with
      | true => rw [hl] at h; exact Tb.find_ok ho.2.1 h
      | false => rw [hl] at h; exact Tb.find_ok ho.2.2 h

noncomputable def retE (pure_ : Bool) (rs : List IR) (f : List AV) (H : List AObj) : Option (AV × List AObj) := match pure_ with
  | false => match resE f H rs with
    | some xs => some (tupOf xs, H)
    | none => none
  | true => match resE f H rs with
    | some xs => match isFrz (tupOf xs) with
      | true => some (tupOf xs, H)
      | false => frzAll (List.range H.length ++ List.range H.length ++ List.range H.length) (keepF (rs.map fun | .t i => i | .c i _ => i) 0 f) H fun f H =>
        match resE f H rs with
        | some xs => some (tupOf xs, H)
        | none => none
    | none => none

noncomputable def initX (args : List AV) (n : Nat) : List AV := args ++ List.replicate (n - args.length) (.tup [])

def pureM (kp : FuncId → Bool) (g : FuncId) (args : List AV) : Bool := match kp g with
  | true => false
  | false => isFrzL args
theorem pureM_frz {kp : FuncId → Bool} {g : FuncId} {args : List AV} (h : pureM kp g args = true) : isFrzL args = true := by
  unfold pureM at h
  cases hk : kp g <;> rw [hk] at h
  · exact h
  · cases h
/-- kp: whose results stay objects of the caller's own. -/
noncomputable def evFn (kp fz : FuncId → Bool) (t : Tb) (prim : FuncId → List AV → Option AV) (en : FuncId → Bool) (fuel : Nat) : Nat → Cl
  | 0, _, _, _ => none
  | d + 1, g, args, H =>
    let run (args : List AV) (H : List AObj) (p : Bool) : Option (AV × List AObj) := match t.find g with
      | none => none
      | some F => spine (initF args F.n) fun f => match evC (evFn kp fz t prim en fuel d) (fun g args => match evFn kp fz t prim en fuel d g args [] with
          | some (x, _) => match isFrz x with
            | true => some x
            | false => none
          | none => none) fz en H.length fuel F.body f H with
        | some (.normal, f, H) => retE p F.res f H
        | some (.ret, f, H) => retE p F.res f H
        | _ => none
    match pureM kp g args with
    | true => match prim g args with
      | some v => some (v, H)
      | none => match run args [] true with
        | some (x, _) => match isFrz x with
          | true => frcV x fun x => some (x, H)
          | false => match H with
            | [] => run args [] true
            | _ => none
        | none => none
    | false => match run args H false with
      | some (x, H) => some (x, H)
      | none => none

theorem run_sound {P : Program} {G : Glob} (hm : P.follows .mixedOrders = true) {cl : Cl} {pcl : FuncId → List AV → Option AV} {fz en : FuncId → Bool} {fuel : Nat} {g : FuncId} {F : IF} (hF : lowF P g = some F) {args : List AV} {H : List AObj}
    (hE : EvOK G (ctx P G H.length) cl pcl en) {p : Bool} {x : AV} {H' : List AObj}
    (h : (match evC cl pcl fz en H.length fuel F.body (initF args F.n) H with
        | some (.normal, f, H) => retE p F.res f H
        | some (.ret, f, H) => retE p F.res f H
        | _ => none) = some (x, H')) : AC P G g args H fun y K => y = x ∧ K = H' := by
  have ret : ∀ f1 H1, retE p F.res f1 H1 = some (x, H') → RetOK (ctx P G H.length) F.res (fun y K => y = x ∧ K = H') ⟨f1, H1⟩ := by
    intro f1 H1 hr
    have plain : ∀ s f2 H2 xs, Gh G H.length s ⟨f2, H2⟩ → resE f2 H2 F.res = some xs → tupOf xs = x → H2 = H' → RetOK (ctx P G H.length) F.res (fun y K => y = x ∧ K = H') s := fun s f2 H2 xs hg h1 h2 h3 =>
      ⟨⟨f2, H2⟩, hg, resE_sound h1 ⟨h2, h3⟩⟩
    cases p with
    | false =>
      simp only [retE] at hr
      cases h1 : resE f1 H1 F.res with
      | none => rw [h1] at hr; cases hr
      | some xs =>
        rw [h1] at hr
        simp only at hr
        injection hr with hr; injection hr with h2 h3
        exact plain _ f1 H1 xs (Gh.refl _ _ _) h1 h2 h3
    | true =>
      simp only [retE] at hr
      cases h1 : resE f1 H1 F.res with
      | none => rw [h1] at hr; cases hr
      | some xs =>
        rw [h1] at hr
        simp only at hr
        cases hz : isFrz (tupOf xs) with
        | true =>
          rw [hz] at hr
          simp only at hr
          injection hr with hr; injection hr with h2 h3
          exact plain _ f1 H1 xs (Gh.refl _ _ _) h1 h2 h3
        | false =>
          rw [hz] at hr
          simp only at hr
          obtain ⟨f2, H2, g1, g2⟩ := frzAll_gh (α := Option (AV × List AObj)) (G := G) (n0 := H.length) (List.range H1.length ++ List.range H1.length ++ List.range H1.length) (keepF (F.res.map fun | .t i => i | .c i _ => i) 0 f1) H1
          rw [g2] at hr
          cases h2 : resE f2 H2 F.res with
          | none => rw [h2] at hr; cases hr
          | some ys =>
            rw [h2] at hr
            simp only at hr
            injection hr with hr; injection hr with h3 h4
            exact plain _ f2 H2 ys ((Gh.keep ⟨f1, H1⟩ _).trans g1) h2 h3 h4
  refine AC_of_awp hF rfl hm ?_
  cases ho : evC cl pcl fz en H.length fuel F.body (initF args F.n) H with
  | none => rw [ho] at h; cases h
  | some r =>
    obtain ⟨e, f1, H1⟩ := r
    rw [ho] at h
    refine evC_sound hE F.body _ _ e f1 H1 ho _ ?_
    cases e with
    | normal => exact ret f1 H1 h
    | ret => exact ret f1 H1 h
    | exit i => cases h

theorem evFn_sound {P : Program} {G : Glob} {kp fz : FuncId → Bool} (hm : P.follows .mixedOrders = true) {t : Tb} (ht : t.OK P) {prim : FuncId → List AV → Option AV} (hp : ∀ g args v, FrzL args → prim g args = some v → PE P G g args v) {en : FuncId → Bool} (hen : ∀ g, en g = true → Ent P g) {fuel : Nat} :
    ∀ (d : Nat) (g : FuncId) (args : List AV) (H : List AObj) (x : AV) (H' : List AObj), evFn kp fz t prim en fuel d g args H = some (x, H') → AC P G g args H fun y K => y = x ∧ K = H'
  | 0, _, _, _, _, _, h => by simp [evFn] at h
  | d + 1, g, args, H, x, H', h => by
    have ih := evFn_sound (kp := kp) (fz := fz) hm ht hp hen (fuel := fuel) d
    have hE : ∀ n0, EvOK G (ctx P G n0) (evFn kp fz t prim en fuel d) (fun g args => match evFn kp fz t prim en fuel d g args [] with
          | some (x, _) => match isFrz x with
            | true => some x
            | false => none
          | none => none) en := fun n0 => by
      refine ⟨fun s => Gh.refl G n0 s, fun _ _ h => h, fun _ _ _ _ _ k h => AC.mono h k, fun g args H x H' h => ih g args H x H' h, fun g args x h => ?_, hen⟩
      cases ho : evFn kp fz t prim en fuel d g args [] with
      | none => simp only [ho] at h; cases h
      | some r =>
        obtain ⟨y, K⟩ := r
        simp only [ho] at h
        cases hz : isFrz y with
        | false => rw [hz] at h; cases h
        | true =>
          rw [hz] at h
          simp only at h
          injection h with h; subst h
          exact ⟨isFrz_iff _ hz, AC.mono (ih g args [] y K ho) fun z _ ⟨e, _⟩ => by subst e; exact ⟨isFrz_iff _ hz, rfl⟩⟩
    have atH : ∀ {v : AV}, FrzL args → PE P G g args v → AC P G g args H fun y K => y = v ∧ K = H := fun hz hpe => AC.mono (hpe.2.at_ hz H) fun _ _ ⟨e1, _, e2⟩ => ⟨e2, e1⟩
    simp only [evFn] at h
    cases hz : pureM kp g args with
    | true =>
      have hzz := isFrzL_iff _ (pureM_frz hz)
      rw [hz] at h
      simp only at h
      cases hpr : prim g args with
      | some v =>
        rw [hpr] at h
        simp only at h
        injection h with h; injection h with h1 h2; subst h1 h2
        exact atH hzz (hp g args _ hzz hpr)
      | none =>
        rw [hpr] at h
        simp only at h
        cases hf : t.find g with
        | none => rw [hf] at h; cases h
        | some F =>
          rw [hf] at h
          simp only [spine_eq] at h
          generalize hq : (match evC (evFn kp fz t prim en fuel d) (fun g args => match evFn kp fz t prim en fuel d g args [] with
              | some (x, _) => match isFrz x with
                | true => some x
                | false => none
              | none => none) fz en (List.length ([] : List AObj)) fuel F.body (initF args F.n) [] with
            | some (.normal, f, H) => retE true F.res f H
            | some (.ret, f, H) => retE true F.res f H
            | _ => none) = q at h
          cases q with
          | none => cases h
          | some r =>
            obtain ⟨y, K⟩ := r
            have hac := run_sound (G := G) (H := []) hm (Tb.find_ok ht hf) (hE 0) (p := true) hq
            simp only at h
            cases hy : isFrz y with
            | true =>
              rw [hy] at h
              simp only [frcV_eq] at h
              injection h with h; injection h with h1 h2; subst h1 h2
              exact atH hzz ⟨isFrz_iff _ hy, AC.mono hac fun z _ ⟨e, _⟩ => by subst e; exact ⟨isFrz_iff _ hy, rfl⟩⟩
            | false =>
              rw [hy] at h
              cases H with
              | cons o H => cases h
              | nil =>
                simp only at h
                injection h with h; injection h with h1 h2; subst h1 h2
                exact hac
    | false =>
      rw [hz] at h
      simp only at h
      cases hf : t.find g with
      | none => rw [hf] at h; cases h
      | some F =>
        rw [hf] at h
        simp only [spine_eq] at h
        generalize hq : (match evC (evFn kp fz t prim en fuel d) (fun g args => match evFn kp fz t prim en fuel d g args [] with
            | some (x, _) => match isFrz x with
              | true => some x
              | false => none
            | none => none) fz en H.length fuel F.body (initF args F.n) H with
          | some (.normal, f, H) => retE false F.res f H
          | some (.ret, f, H) => retE false F.res f H
          | _ => none) = q at h
        cases q with
        | none => cases h
        | some r =>
          obtain ⟨y, K⟩ := r
          simp only at h
          injection h with h; injection h with h1 h2; subst h1 h2
          exact run_sound (G := G) hm (Tb.find_ok ht hf) (hE H.length) (p := false) hq
end Go.Avm
