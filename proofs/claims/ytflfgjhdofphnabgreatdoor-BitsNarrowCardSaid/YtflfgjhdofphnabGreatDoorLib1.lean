/- Contracts of the library, told of trees. -/
import Derived.Test.YtflfgjhdofphnabGreatDoorMemo
import Derived.Below
set_option linter.unusedSimpArgs false
set_option linter.unusedVariables false
namespace Go.Avm
open Go Go.RowKit
variable {P : Program} {G : Glob}

/-- The package-level variables are as they were. -/
def GW (G : Glob) (w : World) : Prop := ∀ b, b < G.n → w.heap[b]? = G.at_ b

/-- A tree that stands for one value alone. -/
def One (x : AV) (v : Value) : Prop := Frz x ∧ (∀ φ bl, Rep φ bl x v) ∧ ∀ φ bl u, Rep φ bl x u → u = v
def OneAll : List AV → List Value → Prop
  | [], vs => vs = []
  | x :: xs, vs => ∃ v us, vs = v :: us ∧ One x v ∧ OneAll xs us
theorem OneAll.rep : ∀ {xs : List AV} {vs : List Value}, OneAll xs vs → ∀ {φ : Phi} {bl : Nat → BL} {us : List Value}, RepL φ bl xs us → us = vs
  | [], _, h, _, _, _, hr => by
    simp only [OneAll] at h
    simp only [RepL] at hr
    rw [h, hr]
  | x :: xs, _, h, _, _, _, hr => by
    simp only [OneAll] at h
    simp only [RepL] at hr
    obtain ⟨v, us, rfl, h1, h2⟩ := h
    obtain ⟨u, us', rfl, hr1, hr2⟩ := hr
    rw [h1.2.2 _ _ _ hr1, h2.rep hr2]
theorem one_int (k : IntKind) (n : Int) : One (.int k n) (.int k n) := ⟨by simp only [Frz], fun _ _ => by simp only [Rep], fun _ _ _ h => by simpa only [Rep] using h⟩
theorem one_bool (b : Bool) : One (.bool b) (.bool b) := ⟨by simp only [Frz], fun _ _ => by simp only [Rep], fun _ _ _ h => by simpa only [Rep] using h⟩
theorem one_str (s : List UInt8) : One (.str s) (.string ⟨s.toArray⟩) := ⟨by simp only [Frz], fun _ _ => by simp only [Rep], fun _ _ _ h => by simpa only [Rep] using h⟩
theorem one_raw (v : Value) : One (.raw v) v := ⟨by simp only [Frz], fun _ _ => by simp only [Rep], fun _ _ _ h => by simpa only [Rep] using h⟩

/-- A FUNCTION's CONTRACT IN THE KIT's WORDS, told of trees. -/
theorem PE_of_calls {f : FuncId} {args : List AV} {vs : List Value} {x : AV} {v : Value} (ha : OneAll args vs) (hz : Frz x) (hx : ∀ φ bl, Rep φ bl x v)
    (h : ∀ w, GW G w → Calls P f vs.toArray w fun e w' => e = .returned v ∧ Below w.heap.size w w') : PE P G f args x := by
  refine ⟨hz, fun φ bl w us hi hr => ?_⟩
  have := ha.rep hr
  subst this
  refine (h w hi.glo).mono ?_
  rintro e w' ⟨rfl, hb⟩
  have hnob : ∀ id b n es, bl id ≠ .blk b n es := fun id b n es hb => by
    rw [hi.out id (by simp)] at hb; cases hb
  refine ⟨v, φ, bl, x, [], rfl, ⟨hz, rfl⟩, ⟨fun b hb' => ?_, Nat.le_trans hi.gsz hb.size, hi.gow, fun b o u hu => ?_, fun id o ho => by simp at ho, hi.inj, hi.out⟩, hx φ bl, ⟨hb.os, hb.tape, hb.output, hb.size, fun b hb' _ => ⟨hb.block b hb', rfl⟩, fun id b n es h => absurd h (hnob id b n es), Phi.le_refl _, BLle.refl _⟩⟩
  · rw [hb.block b (Nat.lt_of_lt_of_le hb' hi.gsz)]; exact hi.glo b hb'
  · rw [← hi.fr b o u hu]
    exact World.cell?_of_block (hb.block b (phi_lt hi hu))
end Go.Avm
