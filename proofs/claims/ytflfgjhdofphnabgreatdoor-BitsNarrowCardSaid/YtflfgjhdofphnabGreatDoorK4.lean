/- Own memory that is seen no more falls away; what appending makes of slots. -/
import Derived.Test.YtflfgjhdofphnabGreatDoorK3
set_option linter.unusedSimpArgs false
set_option linter.unusedVariables false
namespace Go.Avm
open Go Va
variable {P : Program} {G : Glob}
mutual
theorem kill_thaw (i es : Nat) (cs : List AV) : ∀ x : AV, kill i (thaw i es cs x) = thaw i es cs x
  | .own j o => by
    simp only [thaw]
    split
    · rfl
    · next h => simp only [kill, if_neg h]
  | .osl j o n => by
    simp only [thaw]
    split
    · split <;> rfl
    · next h => simp only [kill, if_neg h]
  | .agg l => by simp only [thaw, kill, killL_thaw i es cs l]
  | .tup l => by simp only [thaw, kill, killL_thaw i es cs l]
  | .fn f l => by simp only [thaw, kill, killL_thaw i es cs l]
  | .int _ _ => rfl
  | .bool _ => rfl
  | .str _ => rfl
  | .nilp => rfl
  | .ptr _ _ => rfl
  | .nils => rfl
  | .sl _ _ => rfl
  | .raw _ => rfl
  | .mref j => by
    simp only [thaw]
    split
    · rfl
    · next h => simp only [kill, if_neg h]
  | .junk => rfl
theorem killL_thaw (i es : Nat) (cs : List AV) : ∀ l : List AV, killL i (thawL i es cs l) = thawL i es cs l
  | [] => rfl
  | c :: l => by simp only [thawL, killL, kill_thaw i es cs c, killL_thaw i es cs l]
end
theorem killO_thawO (i es : Nat) (cs : List AV) (o : AObj) : killO i (thawO i es cs o) = thawO i es cs o := by
  cases o with
  | arr t e l c => simp only [thawO, killO, killL_thaw]
  | mp k m => rfl
  | dead => rfl
/-- The last object becomes a tree and falls away. -/
theorem Gh.fzc {n0 : Nat} {f : List AV} {H : List AObj} {i : Nat} {t : TypeId} {es : Nat} {l : Bool} {cs : List AV} (hi : i = H.length) (hn : n0 ≤ i) (hz : FrzL cs) :
    Gh G n0 ⟨f, H ++ [.arr t es l cs]⟩ ⟨thawL i es cs f, H.map (thawO i es cs)⟩ := by
  subst hi
  have h1 := Gh.freeze (G := G) (n0 := n0) (s := ⟨f, H ++ [.arr t es l cs]⟩) (i := H.length) (t := t) (lent := l) (es := es) (cs := cs) (by simp) hz
  have h2 : ((H ++ [AObj.arr t es l cs]).map (thawO H.length es cs)).set H.length .dead = H.map (thawO H.length es cs) ++ [.dead] := by
    rw [List.map_append, List.set_append_right _ _ (by simp)]
    simp
  simp only [h2] at h1
  have h3 := Gh.cut (G := G) (n0 := n0) (f := thawL H.length es cs f) (H := H.map (thawO H.length es cs)) (i := H.length) (by simp) hn
  rw [killL_thaw, List.map_map] at h3
  have h4 : H.map (killO H.length ∘ thawO H.length es cs) = H.map (thawO H.length es cs) := List.map_congr_left fun o _ => killO_thawO _ _ _ o
  rw [h4] at h3
  exact Gh.trans h1 h3
mutual
theorem kill_kill (i : Nat) : ∀ x : AV, kill i (kill i x) = kill i x
  | .own j o => by
    simp only [kill]
    split
    · rfl
    · next h => simp only [kill, if_neg h]
  | .osl j o n => by
    simp only [kill]
    split
    · rfl
    · next h => simp only [kill, if_neg h]
  | .agg l => by simp only [kill, killL_killL i l]
  | .tup l => by simp only [kill, killL_killL i l]
  | .fn f l => by simp only [kill, killL_killL i l]
  | .int _ _ => rfl
  | .bool _ => rfl
  | .str _ => rfl
  | .nilp => rfl
  | .ptr _ _ => rfl
  | .nils => rfl
  | .sl _ _ => rfl
  | .raw _ => rfl
  | .mref j => by
    simp only [kill]
    split
    · rfl
    · next h => simp only [kill, if_neg h]
  | .junk => rfl
theorem killL_killL (i : Nat) : ∀ l : List AV, killL i (killL i l) = killL i l
  | [] => rfl
  | c :: l => by simp only [killL, kill_kill i c, killL_killL i l]
end
/-- The last object is seen no more. -/
theorem Gh.drop {n0 : Nat} {f : List AV} {H : List AObj} {i : Nat} {o : AObj} (hi : i = H.length) (hn : n0 ≤ i) :
    Gh G n0 ⟨f, H ++ [o]⟩ ⟨killL i f, H.map (killO i)⟩ := by
  subst hi
  have h1 := Gh.dead (G := G) (n0 := n0) (s := ⟨f, H ++ [o]⟩) (i := H.length) (o := o) (by simp)
  have h2 : ((H ++ [o]).map (killO H.length)).set H.length .dead = H.map (killO H.length) ++ [.dead] := by
    rw [List.map_append, List.set_append_right _ _ (by simp)]
    simp
  simp only [h2] at h1
  have h3 := Gh.cut (G := G) (n0 := n0) (f := killL H.length f) (H := H.map (killO H.length)) (i := H.length) (by simp) hn
  rw [killL_killL, List.map_map] at h3
  have h4 : H.map (killO H.length ∘ killO H.length) = H.map (killO H.length) := List.map_congr_left fun o _ => by
    cases o with
    | arr t e l c => simp only [Function.comp, killO, killL_killL]
    | mp k m => rfl
    | dead => rfl
  rw [h4] at h3
  exact Gh.trans h1 h3
/-- An own slice becomes a tree ahead of a call, and falls away. -/
theorem ACall.fzc {n0 : Nat} {f : FuncId} {args : List AV} {fr : List AV} {H H0 : List AObj} {K : AV → St → Prop} (i : Nat) {t : TypeId} {es : Nat} {l : Bool} {cs : List AV} (hH : H = H0 ++ [.arr t es l cs]) (hi : i = H0.length) (hn : n0 ≤ i) (hz : FrzL cs)
    {tg : Tag K} (h : ACallF (ctx P G n0) f (thawL i es cs args) ⟨thawL i es cs fr, H0.map (thawO i es cs)⟩ K tg) : ACallF (ctx P G n0) f args ⟨fr, H⟩ K tg := by
  subst hH
  refine ACall.gh (s' := ⟨thawL i es cs fr, H0.map (thawO i es cs)⟩) (thawL_length _ _ _ _) ?_ h
  have := Gh.fzc (G := G) (n0 := n0) (f := fr ++ args) (H := H0) (t := t) (es := es) (l := l) hi hn hz
  simpa only [thawL_append] using this
/-- The last object is seen no more at a round's end. -/
theorem LN.drop {n0 : Nat} {α : Type} {st : α → St} {inv : α → Prop} {ms : α → Nat} {n : Nat} {f : List AV} {H0 : List AObj} {o : AObj} (i : Nat) (hi : i = H0.length) (hn : n0 ≤ i)
    (k : LN P G n0 st inv ms n ⟨killL i f, H0.map (killO i)⟩) : LN P G n0 st inv ms n ⟨f, H0 ++ [o]⟩ := LN.via _ (Gh.drop hi hn) k
/-- The last object becomes a tree at a round's end. -/
theorem LN.fzc {n0 : Nat} {α : Type} {st : α → St} {inv : α → Prop} {ms : α → Nat} {n : Nat} {f : List AV} {H0 : List AObj} {t : TypeId} {es : Nat} {l : Bool} {cs : List AV} (i : Nat) (hi : i = H0.length) (hn : n0 ≤ i) (hz : FrzL cs)
    (k : LN P G n0 st inv ms n ⟨thawL i es cs f, H0.map (thawO i es cs)⟩) : LN P G n0 st inv ms n ⟨f, H0 ++ [.arr t es l cs]⟩ := LN.via _ (Gh.fzc hi hn hz) k
/-- A nil slice is told as an empty one. -/
theorem wk_frame_nils {f g : List AV} : WkL (f ++ .nils :: g) (f ++ .sl 0 [] :: g) := by
  induction f with
  | nil => exact .cons Wk.nils (WkL.refl _)
  | cons x f ih => exact .cons (Wk.refl x) ih
/-- What killing makes of slots. -/
theorem avmK : (∀ i, killL i [] = []) ∧ (∀ i c l, killL i (c :: l) = kill i c :: killL i l) ∧ (∀ i k n, kill i (.int k n) = .int k n) ∧ (∀ i b, kill i (.bool b) = .bool b) ∧ (∀ i b, kill i (.str b) = .str b) ∧ (∀ i, kill i .nilp = .nilp) ∧
    (∀ i l o, kill i (.ptr l o) = .ptr l o) ∧ (∀ i, kill i .nils = .nils) ∧ (∀ i n l, kill i (.sl n l) = .sl n l) ∧ (∀ i v, kill i (.raw v) = .raw v) ∧ (∀ i, kill i .junk = .junk) ∧ (∀ i l, kill i (.agg l) = .agg (killL i l)) ∧ (∀ i l, kill i (.tup l) = .tup (killL i l)) ∧
    (∀ i f l, kill i (.fn f l) = .fn f (killL i l)) ∧ (∀ i o, kill i (.own i o) = .junk) ∧ (∀ i o n, kill i (.osl i o n) = .junk) ∧ (∀ i j o, j ≠ i → kill i (.own j o) = .own j o) ∧ (∀ i j o n, j ≠ i → kill i (.osl j o n) = .osl j o n) ∧
    (∀ i k l, kill i (slV k l) = slV k l) ∧ (∀ i n, kill i (natV n) = natV n) ∧ (∀ i n, kill i (refV n) = refV n) ∧ (∀ i t e l c, killO i (.arr t e l c) = .arr t e l (killL i c)) ∧ (∀ i, killO i .dead = .dead) ∧ (∀ i k l, killL i (row k l) = row k l) ∧
    (∀ (g : AObj → AObj), List.map g [] = []) ∧ (∀ (g : AObj → AObj) (a : AObj) (l : List AObj), List.map g (a :: l) = g a :: List.map g l) ∧ (∀ i es cs n, thaw i es cs (natV n) = natV n) ∧ (∀ i es cs n, thaw i es cs (refV n) = refV n) := by
  refine ⟨fun _ => rfl, fun _ _ _ => rfl, fun _ _ _ => rfl, fun _ _ => rfl, fun _ _ => rfl, fun _ => rfl, fun _ _ _ => rfl, fun _ => rfl, fun _ _ _ => rfl, fun _ _ => rfl, fun _ => rfl, fun _ _ => rfl, fun _ _ => rfl, fun _ _ _ => rfl, fun _ _ => by simp [kill], fun _ _ _ => by simp [kill], fun i j _ h => by simp [kill, h], fun i j _ _ h => by simp [kill, h],
    fun _ _ _ => rfl, fun _ _ => rfl, fun _ _ => rfl, fun _ _ _ _ _ => rfl, fun _ => rfl, row_killL, fun _ => rfl, fun _ _ _ => rfl, fun _ _ _ _ => rfl, fun _ _ _ _ => rfl⟩
end Go.Avm
