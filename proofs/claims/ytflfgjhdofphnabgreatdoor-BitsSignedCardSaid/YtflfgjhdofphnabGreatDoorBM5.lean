/- The lowest bits with a sign, bit by bit. Plain. -/
import Derived.Test.YtflfgjhdofphnabGreatDoorBT4
import Derived.Test.YtflfgjhdofphnabGreatDoorBM3
set_option linter.unusedVariables false
set_option linter.unusedSimpArgs false
open Go
namespace Va
theorem word_is {y : Nat} {f : Nat → Bool} (hy : y < 18446744073709551616) (h : ∀ j, j < 64 → f j = y.testBit j) : wordv (bitsF f) = y := by
  have e : bitsF f = bitsF y.testBit := bitsF_of (bitsF_length f) fun j hj => by rw [bitsF_getD, if_pos hj, h j hj]
  rw [e, wordv_bits hy]
/-- A word as its lowest bits, the last of them above. -/
def nrw (X w j : Nat) : Bool := if j < w then X.testBit j else X.testBit (w - 1)
theorem u64_cast (z : Int) : ∃ (m : Nat) (t : Int), IntKind.u64.wrap z = (m : Int) ∧ m < 18446744073709551616 ∧ z = (m : Int) + 18446744073709551616 * t := by
  refine ⟨(z % 18446744073709551616).toNat, z / 18446744073709551616, ?_, by omega, by omega⟩
  simp only [IntKind.wrap, IntKind.signed, IntKind.bits, Bool.false_and]
  simp
  omega
theorem tb_mod {a b w j : Nat} (h : a % 2 ^ w = b % 2 ^ w) (hj : j < w) : a.testBit j = b.testBit j := by
  have h1 := Nat.testBit_mod_two_pow a w j
  have h2 := Nat.testBit_mod_two_pow b w j
  rw [h, h2] at h1
  simpa [hj] using h1.symm
theorem narrow_bits (x : Int) (X w : Nat) (t : Int) (h1 : 1 ≤ w) (h2 : w ≤ 64) (hX : x = (X : Int) + 18446744073709551616 * t) : IntKind.u64.wrap (narrow x (64 - w)) = ((wordv (bitsF (nrw X w)) : Nat) : Int) := by
  obtain ⟨k, hk⟩ : ∃ k, 64 - w = k := ⟨_, rfl⟩
  rw [hk]
  obtain ⟨m, s, e1, e2, e3⟩ := u64_cast (narrow x k)
  rw [e1]
  have hs := narrow_spec x (k := k) (by omega)
  obtain ⟨v, hv⟩ := wi64_eq (x * 2 ^ k)
  have hl := wi64_lo (x * 2 ^ k)
  have hp : (18446744073709551616 : Int) = 2 ^ k * 2 ^ w := by rw [← Int.pow_add, show k + w = 64 by omega]; rfl
  have hp0 : (0 : Int) < 2 ^ k := Int.pow_pos (by decide)
  have hw1 : (2 : Int) ^ w = 2 * 2 ^ (w - 1) := by rw [← Int.pow_succ']; congr 1; omega
  -- the lower bits agree
  have hmod : ∃ d : Int, (m : Int) = X + 2 ^ w * d := by
    rw [hv, e3, hX] at hs
    have e : ((m : Int) + 18446744073709551616 * s) = (X + 18446744073709551616 * t) + 2 ^ w * v := by
      have hc : 2 ^ k * ((m : Int) + 18446744073709551616 * s) = 2 ^ k * ((X + 18446744073709551616 * t) + 2 ^ w * v) := by
        rw [Int.mul_comm, hs, Int.mul_add (2 ^ k) _ (2 ^ w * v), ← Int.mul_assoc (2 ^ k) (2 ^ w) v, ← hp, Int.mul_comm (2 ^ k)]
      exact Int.eq_of_mul_eq_mul_left (by omega) hc
    refine ⟨2 ^ k * t + v - 2 ^ k * s, ?_⟩
    rw [Int.mul_sub, Int.mul_add, ← Int.mul_assoc, ← Int.mul_assoc, Int.mul_comm (2 ^ w) (2 ^ k), ← hp]
    omega
  have hmodN : m % 2 ^ w = X % 2 ^ w := by
    obtain ⟨d, hd⟩ := hmod
    have : ((m % 2 ^ w : Nat) : Int) = ((X % 2 ^ w : Nat) : Int) := by
      rw [Int.natCast_emod, Int.natCast_emod, show ((2 ^ w : Nat) : Int) = 2 ^ w by simp, hd, Int.add_mul_emod_self_left]
    exact Int.ofNat.inj this
  -- the number is small
  have hb : -(2 : Int) ^ (w - 1) ≤ narrow x k ∧ narrow x k < 2 ^ (w - 1) := by
    have h63 : (9223372036854775808 : Int) = 2 ^ k * 2 ^ (w - 1) := by rw [← Int.pow_add, show k + (w - 1) = 63 by omega]; rfl
    rw [← hs] at hl
    rw [Int.mul_comm] at hl
    constructor
    · refine Int.le_of_mul_le_mul_left (a := 2 ^ k) ?_ hp0
      rw [Int.mul_neg, ← h63]; omega
    · refine Int.lt_of_mul_lt_mul_left (a := 2 ^ k) ?_ (by omega)
      rw [← h63]; omega
  rw [show wordv (bitsF (nrw X w)) = m from ?_]
  refine word_is e2 fun j hj => ?_
  have hup : ∀ i, w - 1 ≤ i → i < 64 → m.testBit i = decide (narrow x k < 0) := by
    intro i hi h64
    by_cases hn : narrow x k < 0
    · rw [decide_eq_true hn]
      have hs1 : s = -1 := by
        have h3 : (2 : Int) ^ (w - 1) ≤ 2 ^ 63 := by
          have := Nat.pow_le_pow_right (n := 2) (by decide) (show w - 1 ≤ 63 by omega)
          have h4 : ((2 ^ (w - 1) : Nat) : Int) ≤ ((2 ^ 63 : Nat) : Int) := Int.ofNat_le.2 this
          simpa using h4
        rw [show (2 : Int) ^ 63 = 9223372036854775808 by rfl] at h3
        omega
      obtain ⟨c, hc⟩ : ∃ c : Nat, m + c = 18446744073709551615 := ⟨18446744073709551615 - m, by omega⟩
      have hc2 : c < 2 ^ (w - 1) := by
        have : ((c : Nat) : Int) < ((2 ^ (w - 1) : Nat) : Int) := by
          rw [show ((2 ^ (w - 1) : Nat) : Int) = 2 ^ (w - 1) by simp]
          generalize (2 : Int) ^ (w - 1) = p at *
          omega
        exact Int.ofNat_lt.1 this
      have hcomp := Nat.testBit_two_pow_sub_succ (n := 64) (x := c) (by rw [show (2 : Nat) ^ 64 = 18446744073709551616 by rfl]; omega) i
      rw [show (2 : Nat) ^ 64 = 18446744073709551616 by rfl, show 18446744073709551616 - (c + 1) = m by omega] at hcomp
      rw [hcomp, Nat.testBit_lt_two_pow (Nat.lt_of_lt_of_le hc2 (Nat.pow_le_pow_right (by decide) hi))]
      simp [h64]
    · rw [decide_eq_false hn]
      have hs0 : s = 0 := by
        have h3 : (2 : Int) ^ (w - 1) ≤ 2 ^ 63 := by
          have := Nat.pow_le_pow_right (n := 2) (by decide) (show w - 1 ≤ 63 by omega)
          have h4 : ((2 ^ (w - 1) : Nat) : Int) ≤ ((2 ^ 63 : Nat) : Int) := Int.ofNat_le.2 this
          simpa using h4
        rw [show (2 : Int) ^ 63 = 9223372036854775808 by rfl] at h3
        omega
      refine Nat.testBit_lt_two_pow (Nat.lt_of_lt_of_le (m := 2 ^ (w - 1)) ?_ (Nat.pow_le_pow_right (by decide) hi))
      have : ((m : Nat) : Int) < ((2 ^ (w - 1) : Nat) : Int) := by
        rw [show ((2 ^ (w - 1) : Nat) : Int) = 2 ^ (w - 1) by simp]
        generalize (2 : Int) ^ (w - 1) = p at *
        omega
      exact Int.ofNat_lt.1 this
  unfold nrw
  split
  · next h => exact (tb_mod hmodN h).symm
  · next h => rw [← tb_mod hmodN (show w - 1 < w by omega), hup _ (Nat.le_refl _) (by omega), hup j (by omega) hj]
end Va
