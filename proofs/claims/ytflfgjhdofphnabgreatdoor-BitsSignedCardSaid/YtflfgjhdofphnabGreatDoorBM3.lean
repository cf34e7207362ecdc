/- Words bit by bit. Plain. -/
import Derived.Test.YtflfgjhdofphnabGreatDoorFM
set_option linter.unusedVariables false
set_option linter.unusedSimpArgs false
namespace Va
/-- The number of bits, the lowest first. -/
def wordv (bs : List Bool) : Nat := val 2 (bs.map Bool.toNat)
theorem wordv_nil : wordv [] = 0 := rfl
theorem wordv_cons (b : Bool) (l : List Bool) : wordv (b :: l) = b.toNat + 2 * wordv l := rfl
theorem wordv_testBit : ∀ (l : List Bool) (j : Nat), (wordv l).testBit j = l.getD j false
  | [], j => by simp [wordv_nil]
  | b :: l, 0 => by
    rw [wordv_cons, Nat.testBit_zero]
    cases b <;> simp <;> omega
  | b :: l, j + 1 => by
    rw [wordv_cons, Nat.testBit_succ, show (b.toNat + 2 * wordv l) / 2 = wordv l by cases b <;> simp <;> omega, wordv_testBit l j]
    simp
theorem wordv_lt : ∀ l : List Bool, wordv l < 2 ^ l.length
  | [] => by simp [wordv_nil]
  | b :: l => by
    have := wordv_lt l
    rw [wordv_cons, List.length_cons, Nat.pow_succ]
    cases b <;> simp <;> omega
/-- Bits of a function. -/
def bitsF (f : Nat → Bool) : List Bool := (List.range 64).map f
theorem bitsF_length (f : Nat → Bool) : (bitsF f).length = 64 := by simp [bitsF]
theorem bitsF_getD (f : Nat → Bool) (j : Nat) : (bitsF f).getD j false = if j < 64 then f j else false := by
  unfold bitsF
  rw [List.getD_eq_getElem?_getD, List.getElem?_map]
  by_cases h : j < 64
  · rw [List.getElem?_range h]; simp [h]
  · rw [List.getElem?_eq_none (by simp; omega)]; simp [h]
theorem bitsF_of {l : List Bool} {f : Nat → Bool} (hl : l.length = 64) (h : ∀ j, j < 64 → l.getD j false = f j) : l = bitsF f := by
  apply List.ext_getElem?
  intro j
  by_cases hj : j < 64
  · have := h j hj
    rw [List.getD_eq_getElem?_getD] at this
    unfold bitsF
    rw [List.getElem?_map, List.getElem?_range hj, Option.map_some]
    rw [List.getElem?_eq_getElem (by omega)] at this ⊢
    simpa using this
  · rw [List.getElem?_eq_none (by omega), List.getElem?_eq_none (by rw [bitsF_length]; omega)]
theorem wordv_bits {x : Nat} (hx : x < 18446744073709551616) : wordv (bitsF x.testBit) = x := by
  apply Nat.eq_of_testBit_eq
  intro j
  rw [wordv_testBit, bitsF_getD]
  split
  · rfl
  · next h =>
    refine (Nat.testBit_lt_two_pow ?_).symm
    exact Nat.lt_of_lt_of_le hx (by rw [show 18446744073709551616 = 2 ^ 64 by rfl]; exact Nat.pow_le_pow_right (by decide) (by omega))
theorem wordv_bitsF_lt (f : Nat → Bool) : wordv (bitsF f) < 18446744073709551616 := by
  have := wordv_lt (bitsF f)
  rwa [bitsF_length] at this
theorem bgetD_set_eq {l : List Bool} {i : Nat} (h : i < l.length) (x d : Bool) : (l.set i x).getD i d = x := by
  simp [List.getD_eq_getElem?_getD, List.getElem?_set, h]
theorem bgetD_set_ne {l : List Bool} {i j : Nat} (h : i ≠ j) (x d : Bool) : (l.set i x).getD j d = l.getD j d := by
  simp [List.getD_eq_getElem?_getD, List.getElem?_set, h]
end Va
