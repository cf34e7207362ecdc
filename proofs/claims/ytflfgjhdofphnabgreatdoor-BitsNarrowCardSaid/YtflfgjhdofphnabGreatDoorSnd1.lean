/- The operations of the abstract machine are those of the model: what only computes. -/
import Derived.Test.YtflfgjhdofphnabGreatDoorRep
import Derived.WalkSpells
set_option linter.unusedSimpArgs false
namespace Go.Avm
open Go
variable {P : Program} {φ : Phi} {bl : Nat → BL}

theorem constAV_rep (φ : Phi) (bl : Nat → BL) (v : Value) : Rep φ bl (constAV v) v := by
  cases v <;> simp only [constAV]
  case slice a n c =>
    cases a
    · simp only
      split
      · rename_i h; simp [Rep, h.1, h.2]
      · simp [Rep]
    · simp [Rep]
  case pointer a => cases a <;> simp [Rep]
  all_goals simp [Rep]

theorem lowA_rep {f : List AV} {a : Act} (hf : RepL φ bl f a.tmps.toList) {x : Operand} {ia : IA} (h : lowA x = some ia) : Rep φ bl (ev f ia) (a.eval x) := by
  unfold lowA at h
  split at h
  · rename_i t
    injection h with h
    subst h
    by_cases ht : t < f.length
    · obtain ⟨v, hv, hr⟩ := hf.get ht
      have : a.tmps.getD t undef = v := by
        have hl := hf.length
        simp at hl
        simp [Array.getD_eq_getD_getElem?] at hv ⊢
        simp [hv]
      simp only [ev, Act.eval, this]
      exact hr
    · simp only [ev]
      rw [show f.getD t .junk = .junk from by simp [List.getD_eq_getElem?_getD, List.getElem?_eq_none (Nat.le_of_not_lt ht)]]
      simp only [Rep]
  · cases h
  · rename_i v hv
    injection h with h
    subst h
    exact constAV_rep φ bl v
  · injection h with h
    subst h
    simp [ev, Act.eval, Rep, RepL]
  · cases h

theorem lowAs_rep {f : List AV} {a : Act} (hf : RepL φ bl f a.tmps.toList) : ∀ {xs : List Operand} {is : List IA}, xs.mapM lowA = some is → RepL φ bl (is.map (ev f)) (xs.map a.eval)
  | [], is, h => by
    simp at h
    subst h
    simp [RepL]
  | x :: xs, is, h => by
    simp only [List.mapM_cons] at h
    cases hx : lowA x with
    | none => simp [hx] at h
    | some i =>
      cases hxs : xs.mapM lowA with
      | none => simp [hx, hxs] at h
      | some js =>
        simp [hx, hxs] at h
        subst h
        simp only [List.map_cons, RepL]
        exact ⟨_, _, rfl, lowA_rep hf hx, lowAs_rep hf hxs⟩

theorem rep_int {k : IntKind} {n : Int} : Rep φ bl (.int k n) (.int k n) := by simp only [Rep]
theorem rep_bool {b : Bool} : Rep φ bl (.bool b) (.bool b) := by simp only [Rep]
theorem rep_str {s : List UInt8} : Rep φ bl (.str s) (.string ⟨s.toArray⟩) := by simp only [Rep]
theorem beq_dec (a b : Int) : (a == b) = decide (a = b) := by rw [Bool.eq_iff_iff]; simp
theorem bne_dec (a b : Int) : (a != b) = !decide (a = b) := by rw [Bool.eq_iff_iff]; simp
theorem binP_sound {op : BinOp} {x y : AV} {u v : Value} {K : AV → Prop} (hx : Rep φ bl x u) (hy : Rep φ bl y v) (h : binP op x y K) (t : TypeId) (X Y : Operand) (w : World) :
    ∃ r z, (do eqGuard op t X Y u v; binOp op t u v : Sem Value).run P w = .ok z w ∧ Rep φ bl r z ∧ K r := by
  cases x <;> cases y <;> simp only [binP] at h
  case int.int k a k' b =>
    simp only [Rep] at hx hy
    subst hx hy
    cases op <;> simp only at h
    case shl =>
      obtain ⟨h0, hK⟩ := h
      refine ⟨.int _ _, .int _ _, ?_, rep_int, hK⟩
      · simp [eqGuard, binOp, Op.shift, Int.not_lt.2 h0]
    case shr =>
      obtain ⟨h0, hK⟩ := h
      refine ⟨.int _ _, .int _ _, ?_, rep_int, hK⟩
      · simp [eqGuard, binOp, Op.shift, Int.not_lt.2 h0]
    case quo =>
      obtain ⟨⟨rfl, h0⟩, hK⟩ := h
      refine ⟨.int _ _, .int _ _, ?_, rep_int, hK⟩
      · simp [eqGuard, binOp, Op.intDiv, h0]
    case rem =>
      obtain ⟨⟨rfl, h0⟩, hK⟩ := h
      refine ⟨.int _ _, .int _ _, ?_, rep_int, hK⟩
      · simp [eqGuard, binOp, Op.intDiv, h0]
    all_goals
      obtain ⟨rfl, hK⟩ := h
      first
        | exact ⟨.int _ _, .int _ _, by simp [eqGuard, binOp, Op.intArith, Op.intBits], rep_int, hK⟩
        | exact ⟨.bool _, .bool _, by simp [eqGuard, binOp, Op.intCmp, beq_dec, bne_dec], rep_bool, hK⟩
  case str.str a b =>
    simp only [Rep] at hx hy
    subst hx hy
    cases op <;> simp only at h
    case add =>
      obtain ⟨h0, hK⟩ := h
      refine ⟨.str _, .string _, ?_, rep_str, hK⟩
      simp [eqGuard, binOp, Op.stringOp, ByteArray.size]
      rw [if_neg (by omega)]
      simp [ByteArray.ext_iff]
    case eql => exact ⟨.bool _, .bool _, by simp [eqGuard, binOp, Op.stringOp], rep_bool, h⟩
    case neq => exact ⟨.bool _, .bool _, by simp [eqGuard, binOp, Op.stringOp], rep_bool, h⟩
end Go.Avm
