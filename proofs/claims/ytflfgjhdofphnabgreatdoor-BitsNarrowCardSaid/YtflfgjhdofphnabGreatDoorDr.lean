/- Regions whose order is drawn: one order that is told stands for all. -/
import Derived.Test.YtflfgjhdofphnabGreatDoorSnd8
set_option linter.unusedSimpArgs false
set_option linter.unusedVariables false
namespace Go.Avm
open Go

/-! ### What an operation tells is one thing -/
/-- All that is alive is as it was. -/
def Ext (H H' : List AObj) : Prop := ∀ i, H.getD i .dead = .dead ∨ H'.getD i .dead = H.getD i .dead
theorem Ext.refl (H : List AObj) : Ext H H := fun _ => .inr rfl
theorem Ext.app (H : List AObj) (o : AObj) : Ext H (H ++ [o]) := fun i => by
  rcases Nat.lt_or_ge i H.length with h | h
  · right; simp [List.getD_eq_getElem?_getD, List.getElem?_append_left h]
  · left; simp [List.getD_eq_getElem?_getD, List.getElem?_eq_none h]
theorem Ext.nil (H : List AObj) : Ext [] H := fun i => .inl (by simp)

def Det (Z : Prop) (T : List AObj → (AV → Prop) → Prop) (H : List AObj) : Prop :=
  ∀ Φ, T H Φ → ∃ v, Φ v ∧ (Z → Frz v) ∧ ∀ H', Ext H H' → ∀ Φ', Φ' v → T H' Φ'

theorem live_ext {H H' : List AObj} (h : Ext H H') {i : Nat} {K : Prop} (hl : liveP (H.getD i .dead) K) : K ∧ ∀ K' : Prop, K' → liveP (H'.getD i .dead) K' := by
  rcases h i with e | e
  · rw [e] at hl; exact hl.elim
  · rw [e]
    generalize H.getD i .dead = o at hl
    cases o <;> simp only [liveP] at hl ⊢
    exact ⟨hl, fun _ k => k⟩

theorem live_of {H : List AObj} {i : Nat} {K : Prop} (hl : liveP (H.getD i .dead) K) : K := (live_ext (Ext.refl H) hl).1

theorem frz_get {cs : List AV} (h : FrzL cs) {o : Nat} (ho : o < cs.length) : Frz (cs.getD o .junk) := by
  rw [FrzL.iff] at h
  rw [List.getD_eq_getElem?_getD, List.getElem?_eq_getElem ho]
  exact h _ (List.getElem_mem ho)
theorem frz_take {cs : List AV} (h : FrzL cs) (a b : Nat) : FrzL ((cs.drop a).take b) := by
  rw [FrzL.iff] at h ⊢
  exact fun x hx => h x (List.mem_of_mem_drop (List.mem_of_mem_take hx))

section
variable {H : List AObj}
theorem binP_det (op : BinOp) (x y : AV) : Det True (fun _ => binP op x y) H := by
  intro Φ h
  cases x <;> cases y <;> simp only [binP] at h ⊢
  case int.int k a k' b =>
    cases op <;> simp only at h <;> first
      | exact h.elim
      | exact ⟨_, h.2, fun _ => by simp only [Frz], fun _ _ Φ' hp => ⟨h.1, hp⟩⟩
  case str.str a b =>
    cases op <;> simp only at h <;> first
      | exact h.elim
      | exact ⟨_, h, fun _ => by simp only [Frz], fun _ _ Φ' hp => hp⟩
      | exact ⟨_, h.2, fun _ => by simp only [Frz], fun _ _ Φ' hp => ⟨h.1, hp⟩⟩
theorem eqbP_det (n : Bool) (x y : AV) : Det True (fun _ => eqbP n x y) H := by
  intro Φ h
  cases x <;> cases y <;> simp only [eqbP] at h ⊢
  exact ⟨_, h, fun _ => by simp only [Frz], fun _ _ Φ' hp => hp⟩
theorem notP_det (x : AV) : Det True (fun _ => notP x) H := by
  intro Φ h
  cases x <;> simp only [notP] at h ⊢
  exact ⟨_, h, fun _ => by simp only [Frz], fun _ _ Φ' hp => hp⟩
theorem negP_det (x : AV) : Det True (fun _ => negP x) H := by
  intro Φ h
  cases x <;> simp only [negP] at h ⊢
  exact ⟨_, h, fun _ => by simp only [Frz], fun _ _ Φ' hp => hp⟩
theorem convP_det (k : IntKind) (x : AV) : Det True (fun _ => convP k x) H := by
  intro Φ h
  cases x <;> simp only [convP] at h ⊢
  exact ⟨_, h, fun _ => by simp only [Frz], fun _ _ Φ' hp => hp⟩
theorem idxSP_det (x i : AV) : Det True (fun _ => idxSP x i) H := by
  intro Φ h
  cases x <;> cases i <;> simp only [idxSP] at h ⊢
  exact ⟨_, h.2, fun _ => by simp only [Frz], fun _ _ Φ' hp => ⟨h.1, hp⟩⟩
theorem lenSP_det (x : AV) : Det True (fun _ => lenSP x) H := by
  intro Φ h
  cases x <;> simp only [lenSP] at h ⊢
  exact ⟨_, h, fun _ => by simp only [Frz], fun _ _ Φ' hp => hp⟩
theorem maxP_det (x y : AV) : Det True (fun _ => maxP x y) H := by
  intro Φ h
  cases x <;> cases y <;> simp only [maxP] at h ⊢
  exact ⟨_, h, fun _ => by simp only [Frz], fun _ _ Φ' hp => hp⟩
theorem minP_det (x y : AV) : Det True (fun _ => minP x y) H := by
  intro Φ h
  cases x <;> cases y <;> simp only [minP] at h ⊢
  exact ⟨_, h, fun _ => by simp only [Frz], fun _ _ Φ' hp => hp⟩
theorem bdP_det {d : Int} {x : Option AV} {Φ : Int → Prop} (h : bdP d x Φ) : ∃ n, Φ n ∧ ∀ Φ' : Int → Prop, Φ' n → bdP d x Φ' := by
  cases x with
  | none => exact ⟨d, h, fun _ k => k⟩
  | some x =>
    cases x <;> simp only [bdP] at h ⊢
    exact ⟨_, h, fun _ k => k⟩
theorem slcSP_det (x : AV) (lo hi : Option AV) : Det True (fun _ => slcSP x lo hi) H := by
  intro Φ h
  cases x <;> simp only [slcSP] at h ⊢
  obtain ⟨l, h1, k1⟩ := bdP_det h
  obtain ⟨m, h2, k2⟩ := bdP_det h1
  exact ⟨_, h2.2, fun _ => by simp only [Frz], fun _ _ Φ' hp => k1 _ (k2 _ ⟨h2.1, hp⟩)⟩
theorem eqinP_det (n : Bool) (x : AV) : Det True (fun _ => eqinP n x) H := by
  intro Φ h
  cases x <;> simp only [eqinP] at h ⊢
  rename_i v
  cases v <;> simp only at h ⊢
  · exact ⟨_, h, fun _ => by simp only [Frz], fun _ _ Φ' hp => hp⟩
  · exact ⟨_, h, fun _ => by simp only [Frz], fun _ _ Φ' hp => hp⟩
theorem extP_det (x : AV) (i : Nat) : Det (Frz x) (fun _ => extP x i) H := by
  intro Φ h
  cases x <;> simp only [extP] at h ⊢
  exact ⟨_, h.2, fun z => by simp only [Frz] at z; exact frz_get z h.1, fun _ _ Φ' hp => ⟨h.1, hp⟩⟩
theorem eqpnP_det (n : Bool) (x : AV) : Det True (fun H => eqpnP H n x) H := by
  intro Φ h
  cases x <;> simp only [eqpnP] at h ⊢
  case own i o => exact ⟨_, live_of h, fun _ => by simp only [Frz], fun H' he Φ' hp => (live_ext he h).2 _ hp⟩
  all_goals exact ⟨_, h, fun _ => by simp only [Frz], fun _ _ Φ' hp => hp⟩
theorem eqsnP_det (n : Bool) (x : AV) : Det True (fun H => eqsnP H n x) H := by
  intro Φ h
  cases x <;> simp only [eqsnP] at h ⊢
  case nils => exact ⟨_, h, fun _ => by simp only [Frz], fun _ _ Φ' hp => hp⟩
  case sl len cs => exact ⟨_, h.2, fun _ => by simp only [Frz], fun _ _ Φ' hp => ⟨h.1, hp⟩⟩
  case osl i o len =>
    have := live_of h
    exact ⟨_, this.2, fun _ => by simp only [Frz], fun H' he Φ' hp => (live_ext he h).2 _ ⟨this.1, hp⟩⟩
theorem nilckP_det (x : AV) : Det (Frz x) (fun H => nilckP H x) H := by
  intro Φ h
  cases x <;> simp only [nilckP] at h ⊢
  case ptr cs o => exact ⟨_, h, fun z => z, fun _ _ Φ' hp => hp⟩
  case own i o => exact ⟨_, live_of h, fun z => z, fun H' he Φ' hp => (live_ext he h).2 _ hp⟩
theorem fldP_det (n : Nat) (x : AV) : Det (Frz x) (fun H => fldP H n x) H := by
  intro Φ h
  cases x <;> simp only [fldP] at h ⊢
  case ptr cs o => exact ⟨_, h, fun z => by simp only [Frz] at z ⊢; exact z, fun _ _ Φ' hp => hp⟩
  case own i o => exact ⟨_, live_of h, fun z => by simp only [Frz] at z, fun H' he Φ' hp => (live_ext he h).2 _ hp⟩
theorem idxAP_det (n : Nat) (x i : AV) : Det (Frz x) (fun H => idxAP H n x i) H := by
  intro Φ h
  cases x <;> cases i <;> simp only [idxAP] at h ⊢
  case sl.int => exact ⟨_, h.2, fun z => by simp only [Frz] at z ⊢; exact z, fun _ _ Φ' hp => ⟨h.1, hp⟩⟩
  case osl.int =>
    have := live_of h
    exact ⟨_, this.2, fun z => by simp only [Frz] at z, fun H' he Φ' hp => (live_ext he h).2 _ ⟨this.1, hp⟩⟩
theorem idxPP_det (m n : Nat) (x i : AV) : Det (Frz x) (fun H => idxPP H m n x i) H := by
  intro Φ h
  cases x <;> cases i <;> simp only [idxPP] at h ⊢
  case ptr.int => exact ⟨_, h.2, fun z => by simp only [Frz] at z ⊢; exact z, fun _ _ Φ' hp => ⟨h.1, hp⟩⟩
  case own.int =>
    have := live_of h
    exact ⟨_, this.2, fun z => by simp only [Frz] at z, fun H' he Φ' hp => (live_ext he h).2 _ ⟨this.1, hp⟩⟩
theorem loadC_det {q : Option Nat} {cs : List AV} {o : Nat} {Φ : AV → Prop} (h : loadC q cs o Φ) : ∃ v, Φ v ∧ (FrzL cs → Frz v) ∧ ∀ Φ' : AV → Prop, Φ' v → loadC q cs o Φ' := by
  cases q <;> simp only [loadC] at h ⊢
  · exact ⟨_, h.2, fun z => frz_get z h.1, fun _ k => ⟨h.1, k⟩⟩
  · exact ⟨_, h.2, fun z => by simp only [Frz]; exact frz_take z _ _, fun _ k => ⟨h.1, k⟩⟩
theorem ext_obj {H' : List AObj} (h : Ext H H') {i : Nat} (hi : H.getD i .dead ≠ .dead) : H'.getD i .dead = H.getD i .dead := (h i).resolve_left hi
theorem loadP_det (q : Option Nat) (x : AV) : Det (Frz x) (fun H => loadP H q x) H := by
  intro Φ h
  cases x <;> simp only [loadP] at h ⊢
  case ptr cs o =>
    obtain ⟨v, h1, h2, h3⟩ := loadC_det h
    exact ⟨v, h1, fun z => h2 (by simpa only [Frz] using z), fun _ _ Φ' hp => h3 _ hp⟩
  case own i o =>
    have hd : H.getD i .dead ≠ .dead := fun e => by rw [e] at h; exact h
    have key : ∀ b : AObj, loadO q b o Φ → ∃ v, Φ v ∧ ∀ Φ' : AV → Prop, Φ' v → loadO q b o Φ' := by
      intro b hb
      cases b <;> simp only [loadO] at hb ⊢
      obtain ⟨v, h1, _, h3⟩ := loadC_det hb
      exact ⟨v, h1, h3⟩
    obtain ⟨v, h1, h3⟩ := key _ h
    exact ⟨v, h1, fun z => by simp only [Frz] at z, fun H' he Φ' hp => by rw [ext_obj he hd]; exact h3 _ hp⟩
theorem lenQ_det (x : AV) : Det True (fun H => lenQ H x) H := by
  intro Φ h
  cases x <;> simp only [lenQ] at h ⊢
  case nils => exact ⟨_, h, fun _ => by simp only [Frz], fun _ _ Φ' hp => hp⟩
  case sl len cs => exact ⟨_, h.2, fun _ => by simp only [Frz], fun _ _ Φ' hp => ⟨h.1, hp⟩⟩
  case osl i o len =>
    have := live_of h
    exact ⟨_, this.2, fun _ => by simp only [Frz], fun H' he Φ' hp => (live_ext he h).2 _ ⟨this.1, hp⟩⟩
theorem slcP_det (n : Nat) (x : AV) (lo hi : Option AV) : Det (Frz x) (fun H => slcP H n x lo hi) H := by
  intro Φ h
  cases x <;> simp only [slcP] at h ⊢
  case nils =>
    obtain ⟨l, h1, k1⟩ := bdP_det h
    obtain ⟨m, h2, k2⟩ := bdP_det h1
    exact ⟨_, h2.2, fun z => z, fun _ _ Φ' hp => k1 _ (k2 _ ⟨h2.1, hp⟩)⟩
  case sl len cs =>
    obtain ⟨l, h1, k1⟩ := bdP_det h
    obtain ⟨m, h2, k2⟩ := bdP_det h1
    exact ⟨_, h2.2, fun z => by simp only [Frz] at z ⊢; exact frz_take z _ _, fun _ _ Φ' hp => k1 _ (k2 _ ⟨h2.1, hp⟩)⟩
  case osl id off len =>
    obtain ⟨l, h1, k1⟩ := bdP_det h
    obtain ⟨m, h2, k2⟩ := bdP_det h1
    have hd : H.getD id .dead ≠ .dead := fun e => by rw [e] at h2; exact h2
    have key : ∀ b : AObj, slcO b n id off len l m Φ → ∃ v, Φ v ∧ ∀ Φ' : AV → Prop, Φ' v → slcO b n id off len l m Φ' := by
      intro b hb
      cases b <;> simp only [slcO] at hb ⊢
      obtain ⟨g1, g2, g3⟩ := hb
      rcases Int.lt_or_eq_of_le g1.2.2.1 with e | e
      · exact ⟨_, g3 e, fun Φ' hp => ⟨g1, fun e' => by omega, fun _ => hp⟩⟩
      · exact ⟨_, g2 e, fun Φ' hp => ⟨g1, fun _ => hp, fun e' => by omega⟩⟩
    obtain ⟨v, h3, k3⟩ := key _ h2
    exact ⟨v, h3, fun z => by simp only [Frz] at z, fun H' he Φ' hp => k1 _ (k2 _ (by rw [ext_obj he hd]; exact k3 _ hp))⟩
theorem b2sC_det {len : Nat} {cs : List AV} {Φ : AV → Prop} (h : b2sC len cs Φ) : ∃ v, Φ v ∧ Frz v ∧ ∀ Φ' : AV → Prop, Φ' v → b2sC len cs Φ' := by
  unfold b2sC at h ⊢
  split at h
  · rename_i l hl
    exact ⟨_, h.2, by simp only [Frz], fun _ k => ⟨h.1, k⟩⟩
  · exact h.elim
theorem b2sP_det (x : AV) : Det True (fun H => b2sP H x) H := by
  intro Φ h
  cases x <;> simp only [b2sP] at h ⊢
  case nils => exact ⟨_, h, fun _ => by simp only [Frz], fun _ _ Φ' hp => hp⟩
  case sl len cs =>
    obtain ⟨v, h1, h2, h3⟩ := b2sC_det h
    exact ⟨v, h1, fun _ => h2, fun _ _ Φ' hp => h3 _ hp⟩
  case osl id off len =>
    have hd : H.getD id .dead ≠ .dead := fun e => by rw [e] at h; exact h
    have key : ∀ b : AObj, b2sO b off len Φ → ∃ v, Φ v ∧ Frz v ∧ ∀ Φ' : AV → Prop, Φ' v → b2sO b off len Φ' := by
      intro b hb
      cases b <;> simp only [b2sO] at hb ⊢
      obtain ⟨v, h1, h2, h3⟩ := b2sC_det hb.2
      exact ⟨v, h1, h2, fun _ k => ⟨hb.1, h3 _ k⟩⟩
    obtain ⟨v, h1, h2, h3⟩ := key _ h
    exact ⟨v, h1, fun _ => h2, fun H' he Φ' hp => by rw [ext_obj he hd]; exact h3 _ hp⟩
theorem pickP_det (c a b : AV) : Det (Frz a ∧ Frz b) (fun _ => pickP c a b) H := by
  intro Φ h
  cases c <;> simp only [pickP] at h ⊢
  rename_i t
  exact ⟨_, h, fun z => by cases t <;> simp [z.1, z.2], fun _ _ Φ' hp => hp⟩
theorem oneC_ext {H' : List AObj} (he : Ext H H') {x : AV} (h : OneC H x) : OneC H' x := by
  cases x <;> simp only [OneC] at h ⊢
  · exact (live_ext he h).2 _ trivial
  · exact (live_ext he h).2 _ trivial
  · exact h
theorem fillOk_ext {H' : List AObj} (he : Ext H H') {n : Nat} : ∀ {ps : List (Nat × Nat × AV)}, fillOk H n ps → fillOk H' n ps
  | [], h => h
  | p :: ps, h => by
    simp only [fillOk] at h ⊢
    exact ⟨⟨h.1.1, h.1.2.1, h.1.2.2.1, fun x hx => oneC_ext he (h.1.2.2.2 x hx)⟩, fillOk_ext he h.2⟩
end

/-! ### What hangs on which slots -/
def killo (k : Option Nat) (x : AV) : AV := match k with
  | none => x
  | some i => kill i x
theorem killo_frz {k : Option Nat} {x : AV} (h : Frz x) : killo k x = x := by
  cases k with
  | none => rfl
  | some i => exact kill_frz i x h
def Agr (k : Option Nat) (f f' : List AV) (l : List Nat) : Prop := ∀ t ∈ l, f'.getD t .junk = killo k (f.getD t .junk)
theorem Agr.sub {k : Option Nat} {f f' : List AV} {l m : List Nat} (h : Agr k f f' l) (s : m ⊆ l) : Agr k f f' m := fun t ht => h t (s ht)
theorem ev_frz {k : Option Nat} {f f' : List AV} {l : List Nat} {x : IA} (h : Agr k f f' l) (s : x.rd ⊆ l) (z : Frz (ev f x)) : ev f' x = ev f x := by
  cases x with
  | t i =>
    have := h i (s (by simp [IA.rd]))
    simp only [ev] at z ⊢
    rw [this, killo_frz z]
  | v y => rfl
theorem ev_kill {k : Option Nat} {f f' : List AV} {l : List Nat} {x : IA} (h : Agr k f f' l) (s : x.rd ⊆ l) (z : okC x) : ev f' x = killo k (ev f x) := by
  cases x with
  | t i => exact h i (s (by simp [IA.rd]))
  | v y => simp only [okC] at z; simp only [ev]; rw [killo_frz z]
theorem ev_none {f f' : List AV} {l : List Nat} {x : IA} (h : Agr none f f' l) (s : x.rd ⊆ l) : ev f' x = ev f x := by
  cases x with
  | t i => exact h i (s (by simp [IA.rd]))
  | v y => rfl
theorem evO_none {f f' : List AV} {l : List Nat} {x : Option IA} (h : Agr none f f' l) (s : rdO x ⊆ l) : x.map (ev f') = x.map (ev f) := by
  cases x with
  | none => rfl
  | some y => simp only [Option.map_some, ev_none h (x := y) s]
theorem evO_int {k : Option Nat} {f f' : List AV} {l : List Nat} {x : Option IA} (h : Agr k f f' l) (s : rdO x ⊆ l) {d : Int} {K : Int → Prop} (hb : bdP d (x.map (ev f)) K) : x.map (ev f') = x.map (ev f) := by
  cases x with
  | none => rfl
  | some y =>
    simp only [Option.map_some, Option.some.injEq] at hb ⊢
    refine ev_frz h (x := y) s ?_
    generalize ev f y = z at hb
    cases z <;> simp only [bdP] at hb
    simp only [Frz]
theorem evL_none {f f' : List AV} {l : List Nat} : ∀ {xs : List IA}, Agr none f f' l → xs.flatMap IA.rd ⊆ l → xs.map (ev f') = xs.map (ev f)
  | [], _, _ => rfl
  | x :: xs, h, s => by
    simp only [List.flatMap_cons, List.append_subset] at s
    simp only [List.map_cons, ev_none h s.1, evL_none h s.2]
theorem evL_frz {k : Option Nat} {f f' : List AV} {l : List Nat} : ∀ {xs : List IA}, Agr k f f' l → xs.flatMap IA.rd ⊆ l → FrzL (xs.map (ev f)) → xs.map (ev f') = xs.map (ev f)
  | [], _, _, _ => rfl
  | x :: xs, h, s, z => by
    simp only [List.flatMap_cons, List.append_subset] at s
    simp only [List.map_cons, FrzL] at z
    simp only [List.map_cons, ev_frz h s.1 z.1, evL_frz h s.2 z.2]
theorem evP_none {f f' : List AV} {l : List Nat} : ∀ {ps : List (Nat × Nat × IA)}, Agr none f f' l → (ps.flatMap fun p => p.2.2.rd) ⊆ l → evP f' ps = evP f ps
  | [], _, _ => rfl
  | p :: ps, h, s => by
    simp only [List.flatMap_cons, List.append_subset] at s
    have := evP_none (ps := ps) h s.2
    simp only [evP, List.map_cons] at this ⊢
    rw [ev_none h s.1, this]
theorem evP_frz {k : Option Nat} {f f' : List AV} {l : List Nat} : ∀ {ps : List (Nat × Nat × IA)}, Agr k f f' l → (ps.flatMap fun p => p.2.2.rd) ⊆ l → FrzL ((evP f ps).map fun p => p.2.2) → evP f' ps = evP f ps
  | [], _, _, _ => rfl
  | p :: ps, h, s, z => by
    simp only [List.flatMap_cons, List.append_subset] at s
    simp only [evP, List.map_cons, FrzL] at z
    have := evP_frz (ps := ps) h s.2 z.2
    simp only [evP, List.map_cons] at this ⊢
    rw [ev_frz h s.1 z.1, this]

theorem frzL_append {a b : List AV} : FrzL (a ++ b) ↔ FrzL a ∧ FrzL b := by simp only [FrzL.iff, List.mem_append]; exact ⟨fun h => ⟨fun x hx => h x (.inl hx), fun x hx => h x (.inr hx)⟩, fun h x hx => hx.elim (h.1 x) (h.2 x)⟩
theorem frzL_set {cs : List AV} (h : FrzL cs) {o : Nat} {x : AV} (hx : Frz x) : FrzL (cs.set o x) := by
  rw [FrzL.iff] at h ⊢
  intro y hy
  rcases List.mem_or_eq_of_mem_set hy with h' | h'
  · exact h y h'
  · exact h' ▸ hx
theorem frz_cells {x : AV} (h : Frz x) : FrzL (cellsOf x) := by
  cases x <;> simp only [cellsOf, FrzL, Frz] at h ⊢ <;> simp [h]
theorem frz_putAt : ∀ {l cs : List AV} {o : Nat}, FrzL cs → FrzL l → FrzL (putAt cs o l)
  | [], _, _, h, _ => h
  | x :: xs, cs, o, h, k => by
    simp only [FrzL] at k
    exact frz_putAt (l := xs) (frzL_set (o := o) h k.1) k.2
theorem frz_fill : ∀ {ps : List (Nat × Nat × AV)} {cs : List AV}, FrzL cs → FrzL (ps.map fun p => p.2.2) → FrzL (fillP cs ps)
  | [], _, h, _ => h
  | p :: ps, cs, h, k => by
    simp only [List.map_cons, FrzL] at k
    exact frz_fill (ps := ps) (frz_putAt (o := p.1) h (frz_cells k.1)) k.2
theorem frz_reps {z : List AV} (h : FrzL z) : ∀ n, FrzL (reps n z)
  | 0 => by simp [reps, FrzL]
  | n + 1 => by rw [reps_succ]; exact frzL_append.2 ⟨h, frz_reps h n⟩

theorem fin1 {Z : Prop} {T : List AObj → (AV → Prop) → Prop} {Φ : AV → Prop} (hd : Det Z T []) (h : T [] Φ) (z : Z) : ∃ v, Φ v ∧ ∀ (k : Option Nat) (Φ' : AV → Prop), Φ' (killo k v) → T [] Φ' := by
  obtain ⟨v, h1, h2, h3⟩ := hd Φ h
  exact ⟨v, h1, fun k Φ' hp => h3 [] (Ext.refl _) Φ' (by rw [killo_frz (h2 z)] at hp; exact hp)⟩

section
variable {C : Ctx} {f : List AV}
theorem fop_det {o : IOp} {Φ : AV → Prop} (h : fop C o f Φ) (hpc : ∀ g args v, C.pc g args v → Frz v) :
    ∃ v, Φ v ∧ ∀ k f', Agr k f f' o.rds → ∀ Φ' : AV → Prop, Φ' (killo k v) → fop C o f' Φ' := by
  cases o <;> simp only [fop] at h
  case mov x =>
    refine ⟨_, h.2, fun k f' ha Φ' hp => ?_⟩
    show okC x ∧ Φ' (ev f' x)
    rw [ev_kill ha (by simp [IOp.rds]) h.1]
    exact ⟨h.1, hp⟩
  case pick c a b =>
    obtain ⟨⟨z1, z2⟩, h⟩ := h
    have hc : Frz (ev f c) := by
      generalize ev f c = q at h
      cases q <;> simp only [pickP] at h
      simp only [Frz]
    generalize hq : ev f c = q at h hc
    cases q <;> simp only [pickP] at h
    rename_i tb
    refine ⟨_, h, fun k f' ha Φ' hp => ?_⟩
    show (okC a ∧ okC b) ∧ pickP (ev f' c) (ev f' a) (ev f' b) Φ'
    have e1 : ev f' c = ev f c := ev_frz ha (by simp [IOp.rds]) (hq ▸ hc)
    have e2 : ev f' a = killo k (ev f a) := ev_kill ha (by intro x hx; simp [IOp.rds, hx]) z1
    have e3 : ev f' b = killo k (ev f b) := ev_kill ha (by intro x hx; simp [IOp.rds, hx]) z2
    rw [e1, e2, e3, hq]
    refine ⟨⟨z1, z2⟩, ?_⟩
    simp only [pickP]
    cases tb <;> simpa using hp
  case call g args =>
    obtain ⟨hz, v, hv, hp⟩ := h
    refine ⟨v, hp, fun k f' ha Φ' hp => ?_⟩
    show FrzL (args.map (ev f')) ∧ ∃ v, C.pc g (args.map (ev f')) v ∧ Φ' v
    rw [evL_frz ha (by simp [IOp.rds]) hz]
    rw [killo_frz (hpc _ _ _ hv)] at hp
    exact ⟨hz, v, hv, hp⟩
  case callv g args =>
    generalize hg : ev f g = q at h
    cases q <;> simp only [fcallvP] at h
    rename_i g' cap
    obtain ⟨⟨he, hz, hc⟩, v, hv, hp⟩ := h
    refine ⟨v, hp, fun k f' ha Φ' hp => ?_⟩
    show fcallvP C (ev f' g) (args.map (ev f')) Φ'
    rw [evL_frz ha (by intro x hx; simp only [IOp.rds, List.mem_append]; exact .inr hx) hz, ev_frz ha (x := g) (by intro x hx; simp [IOp.rds, hx]) (by rw [hg]; simpa only [Frz] using hc), hg]
    rw [killo_frz (hpc _ _ _ hv)] at hp
    exact ⟨⟨he, hz, hc⟩, v, hv, hp⟩
  case bslice t sz len zero parts =>
    obtain ⟨⟨z1, z2⟩, h1, hp⟩ := h
    refine ⟨_, hp, fun k f' ha Φ' hp => ?_⟩
    show (FrzL zero ∧ FrzL ((evP f' parts).map fun p => p.2.2)) ∧ fillOk [] (len * sz) (evP f' parts) ∧ Φ' (.sl len (fillP (reps len zero) (evP f' parts)))
    rw [evP_frz ha (by simp [IOp.rds]) z2]
    rw [killo_frz (by simp only [Frz]; exact frz_fill (frz_reps z1 _) z2)] at hp
    exact ⟨⟨z1, z2⟩, h1, hp⟩
  case build zero parts =>
    obtain ⟨z, h1, hp⟩ := h
    have z' := frzL_append.1 z
    refine ⟨_, hp, fun k f' ha Φ' hp => ?_⟩
    show FrzL (zero ++ (evP f' parts).map fun p => p.2.2) ∧ fillOk [] zero.length (evP f' parts) ∧ Φ' (.agg (fillP zero (evP f' parts)))
    rw [evP_frz ha (by simp [IOp.rds]) z'.2]
    rw [killo_frz (by simp only [Frz]; exact frz_fill z'.1 z'.2)] at hp
    exact ⟨z, h1, hp⟩
  case ext x i =>
    obtain ⟨z, h⟩ := h
    obtain ⟨v, h1, h3⟩ := fin1 (extP_det (H := []) _ _) h z.1
    refine ⟨v, h1, fun k f' ha Φ' hp => ?_⟩
    show FrzL [ev f' x] ∧ extP (ev f' x) i Φ'
    rw [ev_frz ha (by simp [IOp.rds]) z.1]
    exact ⟨z, h3 k Φ' hp⟩
  case slc n x lo hi =>
    obtain ⟨z, h⟩ := h
    obtain ⟨v, h1, h3⟩ := fin1 (slcP_det (H := []) _ _ _ _) h z.1
    refine ⟨v, h1, fun k f' ha Φ' hp => ?_⟩
    show FrzL [ev f' x] ∧ slcP [] n (ev f' x) (lo.map (ev f')) (hi.map (ev f')) Φ'
    have e : lo.map (ev f') = lo.map (ev f) ∧ hi.map (ev f') = hi.map (ev f) := by
      generalize ev f x = q at h
      cases q <;> simp only [slcP] at h
      all_goals
        obtain ⟨l, g1, _⟩ := bdP_det h
        exact ⟨evO_int ha (by intro x hx; simp [IOp.rds, hx]) h, evO_int ha (by intro x hx; simp [IOp.rds, hx]) g1⟩
    rw [ev_frz ha (by intro x hx; simp [IOp.rds, hx]) z.1, e.1, e.2]
    exact ⟨z, h3 k Φ' hp⟩
  case slcS x lo hi =>
    obtain ⟨z, h⟩ := h
    obtain ⟨v, h1, h3⟩ := fin1 (slcSP_det (H := []) _ _ _) h trivial
    refine ⟨v, h1, fun k f' ha Φ' hp => ?_⟩
    show FrzL [ev f' x] ∧ slcSP (ev f' x) (lo.map (ev f')) (hi.map (ev f')) Φ'
    have e : lo.map (ev f') = lo.map (ev f) ∧ hi.map (ev f') = hi.map (ev f) := by
      generalize ev f x = q at h
      cases q <;> simp only [slcSP] at h
      obtain ⟨l, g1, _⟩ := bdP_det h
      exact ⟨evO_int ha (by intro x hx; simp [IOp.rds, hx]) h, evO_int ha (by intro x hx; simp [IOp.rds, hx]) g1⟩
    rw [ev_frz ha (by intro x hx; simp [IOp.rds, hx]) z.1, e.1, e.2]
    exact ⟨z, h3 k Φ' hp⟩
  case bin op x y =>
    obtain ⟨z, h⟩ := h
    obtain ⟨v, h1, h3⟩ := fin1 (binP_det (H := []) _ _ _) h trivial
    refine ⟨v, h1, fun k f' ha Φ' hp => ?_⟩
    show FrzL [ev f' x, ev f' y] ∧ binP op (ev f' x) (ev f' y) Φ'
    rw [ev_frz ha (x := x) (by intro x hx; simp [IOp.rds, hx]) z.1, ev_frz ha (x := y) (by intro x hx; simp [IOp.rds, hx]) z.2.1]
    exact ⟨z, h3 k Φ' hp⟩
  case eqb n x y =>
    obtain ⟨z, h⟩ := h
    obtain ⟨v, h1, h3⟩ := fin1 (eqbP_det (H := []) _ _ _) h trivial
    refine ⟨v, h1, fun k f' ha Φ' hp => ?_⟩
    show FrzL [ev f' x, ev f' y] ∧ eqbP n (ev f' x) (ev f' y) Φ'
    rw [ev_frz ha (x := x) (by intro x hx; simp [IOp.rds, hx]) z.1, ev_frz ha (x := y) (by intro x hx; simp [IOp.rds, hx]) z.2.1]
    exact ⟨z, h3 k Φ' hp⟩
  case not x =>
    obtain ⟨z, h⟩ := h
    obtain ⟨v, h1, h3⟩ := fin1 (notP_det (H := []) _) h trivial
    refine ⟨v, h1, fun k f' ha Φ' hp => ?_⟩
    show FrzL [ev f' x] ∧ notP (ev f' x) Φ'
    rw [ev_frz ha (x := x) (by intro x hx; simp [IOp.rds, hx]) z.1]
    exact ⟨z, h3 k Φ' hp⟩
  case neg x =>
    obtain ⟨z, h⟩ := h
    obtain ⟨v, h1, h3⟩ := fin1 (negP_det (H := []) _) h trivial
    refine ⟨v, h1, fun k f' ha Φ' hp => ?_⟩
    show FrzL [ev f' x] ∧ negP (ev f' x) Φ'
    rw [ev_frz ha (x := x) (by intro x hx; simp [IOp.rds, hx]) z.1]
    exact ⟨z, h3 k Φ' hp⟩
  case conv k0 x =>
    obtain ⟨z, h⟩ := h
    obtain ⟨v, h1, h3⟩ := fin1 (convP_det (H := []) _ _) h trivial
    refine ⟨v, h1, fun k f' ha Φ' hp => ?_⟩
    show FrzL [ev f' x] ∧ convP k0 (ev f' x) Φ'
    rw [ev_frz ha (x := x) (by intro x hx; simp [IOp.rds, hx]) z.1]
    exact ⟨z, h3 k Φ' hp⟩
  case idxS x i =>
    obtain ⟨z, h⟩ := h
    obtain ⟨v, h1, h3⟩ := fin1 (idxSP_det (H := []) _ _) h trivial
    refine ⟨v, h1, fun k f' ha Φ' hp => ?_⟩
    show FrzL [ev f' x, ev f' i] ∧ idxSP (ev f' x) (ev f' i) Φ'
    rw [ev_frz ha (x := x) (by intro x hx; simp [IOp.rds, hx]) z.1, ev_frz ha (x := i) (by intro x hx; simp [IOp.rds, hx]) z.2.1]
    exact ⟨z, h3 k Φ' hp⟩
  case lenS x =>
    obtain ⟨z, h⟩ := h
    obtain ⟨v, h1, h3⟩ := fin1 (lenSP_det (H := []) _) h trivial
    refine ⟨v, h1, fun k f' ha Φ' hp => ?_⟩
    show FrzL [ev f' x] ∧ lenSP (ev f' x) Φ'
    rw [ev_frz ha (x := x) (by intro x hx; simp [IOp.rds, hx]) z.1]
    exact ⟨z, h3 k Φ' hp⟩
  case max x y =>
    obtain ⟨z, h⟩ := h
    obtain ⟨v, h1, h3⟩ := fin1 (maxP_det (H := []) _ _) h trivial
    refine ⟨v, h1, fun k f' ha Φ' hp => ?_⟩
    show FrzL [ev f' x, ev f' y] ∧ maxP (ev f' x) (ev f' y) Φ'
    rw [ev_frz ha (x := x) (by intro x hx; simp [IOp.rds, hx]) z.1, ev_frz ha (x := y) (by intro x hx; simp [IOp.rds, hx]) z.2.1]
    exact ⟨z, h3 k Φ' hp⟩
  case min x y =>
    obtain ⟨z, h⟩ := h
    obtain ⟨v, h1, h3⟩ := fin1 (minP_det (H := []) _ _) h trivial
    refine ⟨v, h1, fun k f' ha Φ' hp => ?_⟩
    show FrzL [ev f' x, ev f' y] ∧ minP (ev f' x) (ev f' y) Φ'
    rw [ev_frz ha (x := x) (by intro x hx; simp [IOp.rds, hx]) z.1, ev_frz ha (x := y) (by intro x hx; simp [IOp.rds, hx]) z.2.1]
    exact ⟨z, h3 k Φ' hp⟩
  case eqin n x =>
    obtain ⟨z, h⟩ := h
    obtain ⟨v, h1, h3⟩ := fin1 (eqinP_det (H := []) _ _) h trivial
    refine ⟨v, h1, fun k f' ha Φ' hp => ?_⟩
    show FrzL [ev f' x] ∧ eqinP n (ev f' x) Φ'
    rw [ev_frz ha (x := x) (by intro x hx; simp [IOp.rds, hx]) z.1]
    exact ⟨z, h3 k Φ' hp⟩
  case eqpn n x =>
    obtain ⟨z, h⟩ := h
    obtain ⟨v, h1, h3⟩ := fin1 (eqpnP_det (H := []) _ _) h trivial
    refine ⟨v, h1, fun k f' ha Φ' hp => ?_⟩
    show FrzL [ev f' x] ∧ eqpnP [] n (ev f' x) Φ'
    rw [ev_frz ha (x := x) (by intro x hx; simp [IOp.rds, hx]) z.1]
    exact ⟨z, h3 k Φ' hp⟩
  case eqsn n x =>
    obtain ⟨z, h⟩ := h
    obtain ⟨v, h1, h3⟩ := fin1 (eqsnP_det (H := []) _ _) h trivial
    refine ⟨v, h1, fun k f' ha Φ' hp => ?_⟩
    show FrzL [ev f' x] ∧ eqsnP [] n (ev f' x) Φ'
    rw [ev_frz ha (x := x) (by intro x hx; simp [IOp.rds, hx]) z.1]
    exact ⟨z, h3 k Φ' hp⟩
  case nilck x =>
    obtain ⟨z, h⟩ := h
    obtain ⟨v, h1, h3⟩ := fin1 (nilckP_det (H := []) _) h z.1
    refine ⟨v, h1, fun k f' ha Φ' hp => ?_⟩
    show FrzL [ev f' x] ∧ nilckP [] (ev f' x) Φ'
    rw [ev_frz ha (x := x) (by intro x hx; simp [IOp.rds, hx]) z.1]
    exact ⟨z, h3 k Φ' hp⟩
  case fld n x =>
    obtain ⟨z, h⟩ := h
    obtain ⟨v, h1, h3⟩ := fin1 (fldP_det (H := []) _ _) h z.1
    refine ⟨v, h1, fun k f' ha Φ' hp => ?_⟩
    show FrzL [ev f' x] ∧ fldP [] n (ev f' x) Φ'
    rw [ev_frz ha (x := x) (by intro x hx; simp [IOp.rds, hx]) z.1]
    exact ⟨z, h3 k Φ' hp⟩
  case idxA n x i =>
    obtain ⟨z, h⟩ := h
    obtain ⟨v, h1, h3⟩ := fin1 (idxAP_det (H := []) _ _ _) h z.1
    refine ⟨v, h1, fun k f' ha Φ' hp => ?_⟩
    show FrzL [ev f' x, ev f' i] ∧ idxAP [] n (ev f' x) (ev f' i) Φ'
    rw [ev_frz ha (x := x) (by intro x hx; simp [IOp.rds, hx]) z.1, ev_frz ha (x := i) (by intro x hx; simp [IOp.rds, hx]) z.2.1]
    exact ⟨z, h3 k Φ' hp⟩
  case idxP m n x i =>
    obtain ⟨z, h⟩ := h
    obtain ⟨v, h1, h3⟩ := fin1 (idxPP_det (H := []) _ _ _ _) h z.1
    refine ⟨v, h1, fun k f' ha Φ' hp => ?_⟩
    show FrzL [ev f' x, ev f' i] ∧ idxPP [] m n (ev f' x) (ev f' i) Φ'
    rw [ev_frz ha (x := x) (by intro x hx; simp [IOp.rds, hx]) z.1, ev_frz ha (x := i) (by intro x hx; simp [IOp.rds, hx]) z.2.1]
    exact ⟨z, h3 k Φ' hp⟩
  case load n x =>
    obtain ⟨z, h⟩ := h
    obtain ⟨v, h1, h3⟩ := fin1 (loadP_det (H := []) _ _) h z.1
    refine ⟨v, h1, fun k f' ha Φ' hp => ?_⟩
    show FrzL [ev f' x] ∧ loadP [] n (ev f' x) Φ'
    rw [ev_frz ha (x := x) (by intro x hx; simp [IOp.rds, hx]) z.1]
    exact ⟨z, h3 k Φ' hp⟩
  case len x =>
    obtain ⟨z, h⟩ := h
    obtain ⟨v, h1, h3⟩ := fin1 (lenQ_det (H := []) _) h trivial
    refine ⟨v, h1, fun k f' ha Φ' hp => ?_⟩
    show FrzL [ev f' x] ∧ lenQ [] (ev f' x) Φ'
    rw [ev_frz ha (x := x) (by intro x hx; simp [IOp.rds, hx]) z.1]
    exact ⟨z, h3 k Φ' hp⟩
  case b2s x =>
    obtain ⟨z, h⟩ := h
    obtain ⟨v, h1, h3⟩ := fin1 (b2sP_det (H := []) _) h trivial
    refine ⟨v, h1, fun k f' ha Φ' hp => ?_⟩
    show FrzL [ev f' x] ∧ b2sP [] (ev f' x) Φ'
    rw [ev_frz ha (x := x) (by intro x hx; simp [IOp.rds, hx]) z.1]
    exact ⟨z, h3 k Φ' hp⟩

theorem rop_det {o : IOp} {H : List AObj} {Φ : AV → Prop} (h : rop o f H Φ) : ∃ v, Φ v ∧ ∀ H', Ext H H' → ∀ f', Agr none f f' o.rds → ∀ Φ' : AV → Prop, Φ' v → rop o f' H' Φ' := by
  cases o <;> simp only [rop] at h
  case mov x =>
    refine ⟨_, h, fun H' he f' ha Φ' hp => ?_⟩
    show Φ' (ev f' x)
    rw [ev_none ha (by simp [IOp.rds])]
    exact hp
  case pick c a b =>
    obtain ⟨v, h1, _, h3⟩ := pickP_det (H := H) _ _ _ _ h
    refine ⟨v, h1, fun H' he f' ha Φ' hp => ?_⟩
    show pickP (ev f' c) (ev f' a) (ev f' b) Φ'
    rw [ev_none ha (x := c) (by intro x hx; simp [IOp.rds, hx]), ev_none ha (x := a) (by intro x hx; simp [IOp.rds, hx]), ev_none ha (x := b) (by intro x hx; simp [IOp.rds, hx])]
    exact h3 H' he Φ' hp
  case build zero parts =>
    refine ⟨_, h.2, fun H' he f' ha Φ' hp => ?_⟩
    show fillOk H' zero.length (evP f' parts) ∧ Φ' (.agg (fillP zero (evP f' parts)))
    rw [evP_none ha (by simp [IOp.rds])]
    exact ⟨fillOk_ext he h.1, hp⟩
  case mkfn g cap =>
    refine ⟨_, h, fun H' he f' ha Φ' hp => ?_⟩
    show Φ' (.fn g (cap.map (ev f')))
    rw [evL_none ha (by simp [IOp.rds])]
    exact hp
  case ext x i =>
    obtain ⟨v, h1, _, h3⟩ := extP_det (H := H) _ _ _ h
    refine ⟨v, h1, fun H' he f' ha Φ' hp => ?_⟩
    show extP (ev f' x) i Φ'
    rw [ev_none ha (by simp [IOp.rds])]
    exact h3 H' he Φ' hp
  case slc n x lo hi =>
    obtain ⟨v, h1, _, h3⟩ := slcP_det (H := H) _ _ _ _ _ h
    refine ⟨v, h1, fun H' he f' ha Φ' hp => ?_⟩
    show slcP H' n (ev f' x) (lo.map (ev f')) (hi.map (ev f')) Φ'
    rw [ev_none ha (x := x) (by intro x hx; simp [IOp.rds, hx]), evO_none ha (x := lo) (by intro x hx; simp [IOp.rds, hx]), evO_none ha (x := hi) (by intro x hx; simp [IOp.rds, hx])]
    exact h3 H' he Φ' hp
  case slcS x lo hi =>
    obtain ⟨v, h1, _, h3⟩ := slcSP_det (H := H) _ _ _ _ h
    refine ⟨v, h1, fun H' he f' ha Φ' hp => ?_⟩
    show slcSP (ev f' x) (lo.map (ev f')) (hi.map (ev f')) Φ'
    rw [ev_none ha (x := x) (by intro x hx; simp [IOp.rds, hx]), evO_none ha (x := lo) (by intro x hx; simp [IOp.rds, hx]), evO_none ha (x := hi) (by intro x hx; simp [IOp.rds, hx])]
    exact h3 H' he Φ' hp
  case lkup zero x k =>
    generalize hx : ev f x = q at h
    generalize hk : ev f k = r at h
    cases q <;> cases r <;> simp only [lkupP] at h
    rename_i id kk n
    have hd : H.getD id .dead ≠ .dead := fun e => by rw [e] at h; exact h
    generalize ho : H.getD id .dead = b at h hd
    cases b <;> simp only [lkupO] at h
    refine ⟨_, h.2, fun H' he f' ha Φ' hp => ?_⟩
    show lkupP H' zero (ev f' x) (ev f' k) Φ'
    rw [ev_none ha (x := x) (by intro x hx; simp [IOp.rds, hx]), ev_none ha (x := k) (by intro x hx; simp [IOp.rds, hx]), hx, hk]
    simp only [lkupP]
    rw [ext_obj he (by rw [ho]; exact hd), ho]
    exact ⟨h.1, hp⟩
  case bin op x y =>
    obtain ⟨v, h1, _, h3⟩ := binP_det (H := H) _ _ _ _ h
    refine ⟨v, h1, fun H' he f' ha Φ' hp => ?_⟩
    show binP op (ev f' x) (ev f' y) Φ'
    rw [ev_none ha (x := x) (by intro x hx; simp [IOp.rds, hx]), ev_none ha (x := y) (by intro x hx; simp [IOp.rds, hx])]
    exact h3 H' he Φ' hp
  case eqb n x y =>
    obtain ⟨v, h1, _, h3⟩ := eqbP_det (H := H) _ _ _ _ h
    refine ⟨v, h1, fun H' he f' ha Φ' hp => ?_⟩
    show eqbP n (ev f' x) (ev f' y) Φ'
    rw [ev_none ha (x := x) (by intro x hx; simp [IOp.rds, hx]), ev_none ha (x := y) (by intro x hx; simp [IOp.rds, hx])]
    exact h3 H' he Φ' hp
  case not x =>
    obtain ⟨v, h1, _, h3⟩ := notP_det (H := H) _ _ h
    refine ⟨v, h1, fun H' he f' ha Φ' hp => ?_⟩
    show notP (ev f' x) Φ'
    rw [ev_none ha (x := x) (by intro x hx; simp [IOp.rds, hx])]
    exact h3 H' he Φ' hp
  case neg x =>
    obtain ⟨v, h1, _, h3⟩ := negP_det (H := H) _ _ h
    refine ⟨v, h1, fun H' he f' ha Φ' hp => ?_⟩
    show negP (ev f' x) Φ'
    rw [ev_none ha (x := x) (by intro x hx; simp [IOp.rds, hx])]
    exact h3 H' he Φ' hp
  case conv k0 x =>
    obtain ⟨v, h1, _, h3⟩ := convP_det (H := H) _ _ _ h
    refine ⟨v, h1, fun H' he f' ha Φ' hp => ?_⟩
    show convP k0 (ev f' x) Φ'
    rw [ev_none ha (x := x) (by intro x hx; simp [IOp.rds, hx])]
    exact h3 H' he Φ' hp
  case idxS x i =>
    obtain ⟨v, h1, _, h3⟩ := idxSP_det (H := H) _ _ _ h
    refine ⟨v, h1, fun H' he f' ha Φ' hp => ?_⟩
    show idxSP (ev f' x) (ev f' i) Φ'
    rw [ev_none ha (x := x) (by intro x hx; simp [IOp.rds, hx]), ev_none ha (x := i) (by intro x hx; simp [IOp.rds, hx])]
    exact h3 H' he Φ' hp
  case lenS x =>
    obtain ⟨v, h1, _, h3⟩ := lenSP_det (H := H) _ _ h
    refine ⟨v, h1, fun H' he f' ha Φ' hp => ?_⟩
    show lenSP (ev f' x) Φ'
    rw [ev_none ha (x := x) (by intro x hx; simp [IOp.rds, hx])]
    exact h3 H' he Φ' hp
  case max x y =>
    obtain ⟨v, h1, _, h3⟩ := maxP_det (H := H) _ _ _ h
    refine ⟨v, h1, fun H' he f' ha Φ' hp => ?_⟩
    show maxP (ev f' x) (ev f' y) Φ'
    rw [ev_none ha (x := x) (by intro x hx; simp [IOp.rds, hx]), ev_none ha (x := y) (by intro x hx; simp [IOp.rds, hx])]
    exact h3 H' he Φ' hp
  case min x y =>
    obtain ⟨v, h1, _, h3⟩ := minP_det (H := H) _ _ _ h
    refine ⟨v, h1, fun H' he f' ha Φ' hp => ?_⟩
    show minP (ev f' x) (ev f' y) Φ'
    rw [ev_none ha (x := x) (by intro x hx; simp [IOp.rds, hx]), ev_none ha (x := y) (by intro x hx; simp [IOp.rds, hx])]
    exact h3 H' he Φ' hp
  case eqin n x =>
    obtain ⟨v, h1, _, h3⟩ := eqinP_det (H := H) _ _ _ h
    refine ⟨v, h1, fun H' he f' ha Φ' hp => ?_⟩
    show eqinP n (ev f' x) Φ'
    rw [ev_none ha (x := x) (by intro x hx; simp [IOp.rds, hx])]
    exact h3 H' he Φ' hp
  case eqpn n x =>
    obtain ⟨v, h1, _, h3⟩ := eqpnP_det (H := H) _ _ _ h
    refine ⟨v, h1, fun H' he f' ha Φ' hp => ?_⟩
    show eqpnP H' n (ev f' x) Φ'
    rw [ev_none ha (x := x) (by intro x hx; simp [IOp.rds, hx])]
    exact h3 H' he Φ' hp
  case eqsn n x =>
    obtain ⟨v, h1, _, h3⟩ := eqsnP_det (H := H) _ _ _ h
    refine ⟨v, h1, fun H' he f' ha Φ' hp => ?_⟩
    show eqsnP H' n (ev f' x) Φ'
    rw [ev_none ha (x := x) (by intro x hx; simp [IOp.rds, hx])]
    exact h3 H' he Φ' hp
  case nilck x =>
    obtain ⟨v, h1, _, h3⟩ := nilckP_det (H := H) _ _ h
    refine ⟨v, h1, fun H' he f' ha Φ' hp => ?_⟩
    show nilckP H' (ev f' x) Φ'
    rw [ev_none ha (x := x) (by intro x hx; simp [IOp.rds, hx])]
    exact h3 H' he Φ' hp
  case fld n x =>
    obtain ⟨v, h1, _, h3⟩ := fldP_det (H := H) _ _ _ h
    refine ⟨v, h1, fun H' he f' ha Φ' hp => ?_⟩
    show fldP H' n (ev f' x) Φ'
    rw [ev_none ha (x := x) (by intro x hx; simp [IOp.rds, hx])]
    exact h3 H' he Φ' hp
  case idxA n x i =>
    obtain ⟨v, h1, _, h3⟩ := idxAP_det (H := H) _ _ _ _ h
    refine ⟨v, h1, fun H' he f' ha Φ' hp => ?_⟩
    show idxAP H' n (ev f' x) (ev f' i) Φ'
    rw [ev_none ha (x := x) (by intro x hx; simp [IOp.rds, hx]), ev_none ha (x := i) (by intro x hx; simp [IOp.rds, hx])]
    exact h3 H' he Φ' hp
  case idxP m n x i =>
    obtain ⟨v, h1, _, h3⟩ := idxPP_det (H := H) _ _ _ _ _ h
    refine ⟨v, h1, fun H' he f' ha Φ' hp => ?_⟩
    show idxPP H' m n (ev f' x) (ev f' i) Φ'
    rw [ev_none ha (x := x) (by intro x hx; simp [IOp.rds, hx]), ev_none ha (x := i) (by intro x hx; simp [IOp.rds, hx])]
    exact h3 H' he Φ' hp
  case load n x =>
    obtain ⟨v, h1, _, h3⟩ := loadP_det (H := H) _ _ _ h
    refine ⟨v, h1, fun H' he f' ha Φ' hp => ?_⟩
    show loadP H' n (ev f' x) Φ'
    rw [ev_none ha (x := x) (by intro x hx; simp [IOp.rds, hx])]
    exact h3 H' he Φ' hp
  case len x =>
    obtain ⟨v, h1, _, h3⟩ := lenQ_det (H := H) _ _ h
    refine ⟨v, h1, fun H' he f' ha Φ' hp => ?_⟩
    show lenQ H' (ev f' x) Φ'
    rw [ev_none ha (x := x) (by intro x hx; simp [IOp.rds, hx])]
    exact h3 H' he Φ' hp
  case b2s x =>
    obtain ⟨v, h1, _, h3⟩ := b2sP_det (H := H) _ _ h
    refine ⟨v, h1, fun H' he f' ha Φ' hp => ?_⟩
    show b2sP H' (ev f' x) Φ'
    rw [ev_none ha (x := x) (by intro x hx; simp [IOp.rds, hx])]
    exact h3 H' he Φ' hp

theorem wop_agr {o : IOp} {H : List AObj} {K : AV → Option Nat → List AObj → Prop} {f' : List AV} (ha : Agr none f f' o.rds) (h : wop C o f H K) : wop C o f' H K := by
  cases o <;> simp only [wop] at h ⊢
  case store n x v =>
    rw [ev_none ha (x := x) (by intro x hx; simp [IOp.rds, hx]), ev_none ha (x := v) (by intro x hx; simp [IOp.rds, hx])]
    exact h
  case alloc t z => exact h
  case box t sz x =>
    rw [ev_none ha (x := x) (by intro x hx; simp [IOp.rds, hx])]
    exact h
  case mk t sz bytes zero l c =>
    rw [ev_none ha (x := l) (by intro x hx; simp [IOp.rds, hx]), ev_none ha (x := c) (by intro x hx; simp [IOp.rds, hx])]
    exact h
  case app t sz bytes b x =>
    rw [ev_none ha (x := b) (by intro x hx; simp [IOp.rds, hx]), ev_none ha (x := x) (by intro x hx; simp [IOp.rds, hx])]
    exact h
  case call g args =>
    rw [evL_none ha (by simp [IOp.rds])]
    exact h

theorem wop_maker {o : IOp} (hm : isMaker o = true) {H : List AObj} {K : AV → Option Nat → List AObj → Prop} (h : wop C o f H K) : ∃ x b, K x none (H ++ [b]) ∧ ∀ K' : AV → Option Nat → List AObj → Prop, K' x none (H ++ [b]) → wop C o f H K' := by
  cases o <;> simp only [isMaker] at hm <;> (try cases hm) <;> simp only [wop] at h ⊢
  case alloc t z => exact ⟨_, _, h, fun _ k => k⟩
  case box t sz x => exact ⟨_, _, h.2, fun _ k => ⟨h.1, k⟩⟩
  case mk t sz bytes zero l c =>
    generalize ev f l = q at h
    generalize ev f c = r at h
    cases q <;> cases r <;> simp only [wmkP] at h ⊢
    exact ⟨_, _, h.2, fun _ k => ⟨h.1, k⟩⟩
end
end Go.Avm
