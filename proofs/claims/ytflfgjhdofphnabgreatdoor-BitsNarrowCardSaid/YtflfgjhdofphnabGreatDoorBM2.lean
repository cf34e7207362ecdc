/- The lowest bit of a word that is set. Plain. -/
import Derived.Test.YtflfgjhdofphnabGreatDoorM1
namespace Va
/-- How many noughts there are at the low end, of so many bits. -/
def ctz : Nat → Nat → Nat
  | 0, _ => 0
  | f + 1, x => if x % 2 = 0 then ctz f (x / 2) + 1 else 0
theorem ctz_le : ∀ (f x : Nat), ctz f x ≤ f
  | 0, _ => Nat.le_refl _
  | f + 1, x => by
    rw [ctz]
    split
    · have := ctz_le f (x / 2); omega
    · omega
theorem ctz_zero : ∀ f, ctz f 0 = f
  | 0 => rfl
  | f + 1 => by simp [ctz, ctz_zero f]
theorem ctz_spec : ∀ (f x : Nat), 0 < x → x < 2 ^ f → ∃ m, x = 2 ^ ctz f x * (2 * m + 1) ∧ ctz f x < f
  | 0, x, h, k => by simp at k; omega
  | f + 1, x, h, k => by
    rw [ctz]
    split
    · next he =>
      obtain ⟨m, h1, h2⟩ := ctz_spec f (x / 2) (by omega) (by rw [Nat.pow_succ] at k; omega)
      refine ⟨m, ?_, by omega⟩
      rw [Nat.pow_succ, Nat.mul_right_comm, ← h1]
      omega
    · exact ⟨x / 2, by simp; omega, by omega⟩
theorem lowbit {x k m : Nat} (hx : x = 2 ^ k * (2 * m + 1)) (hlt : x < 18446744073709551616) : x &&& (18446744073709551616 - x) = 2 ^ k := by
  have hp : 0 < 2 ^ k := Nat.pow_pos (by decide)
  have hpos : 0 < x := by rw [hx]; exact Nat.mul_pos hp (by omega)
  have e1 : 18446744073709551616 - x = 2 ^ 64 - ((x - 1) + 1) := by rw [show (2 : Nat) ^ 64 = 18446744073709551616 by rfl]; omega
  have e2 : x - 1 = 2 ^ k * (2 * m) + (2 ^ k - 1) := by
    rw [hx, Nat.mul_add, Nat.mul_one]; omega
  apply Nat.eq_of_testBit_eq
  intro i
  rw [Nat.testBit_and, e1, Nat.testBit_two_pow_sub_succ (by rw [show (2 : Nat) ^ 64 = 18446744073709551616 by rfl]; omega), Nat.testBit_two_pow, e2, Nat.testBit_two_pow_mul_add _ (by omega)]
  have e3 : x.testBit i = (decide (i ≥ k) && (2 * m + 1).testBit (i - k)) := by rw [hx, Nat.testBit_two_pow_mul]
  rw [e3]
  rcases Nat.lt_trichotomy i k with h | h | h
  · simp [show ¬ k ≤ i by omega, show ¬ k = i by omega]
  · subst h
    have hk : i < 64 := by
      rcases Nat.lt_or_ge i 64 with h | h
      · exact h
      · have h1 : 2 ^ 64 ≤ 2 ^ i := Nat.pow_le_pow_right (by decide) h
        have h2 : 2 ^ i * 1 ≤ 2 ^ i * (2 * m + 1) := Nat.mul_le_mul_left _ (by omega)
        rw [← hx] at h2
        rw [show (2 : Nat) ^ 64 = 18446744073709551616 by rfl] at h1
        omega
    simp [hk, Nat.testBit_zero]
  · obtain ⟨j, rfl⟩ : ∃ j, i = k + 1 + j := ⟨i - k - 1, by omega⟩
    have e4 : k + 1 + j - k = j + 1 := by omega
    have e5 : (2 * m + 1).testBit (j + 1) = m.testBit j := by rw [Nat.testBit_succ, show (2 * m + 1) / 2 = m by omega]
    have e6 : (2 * m).testBit (j + 1) = m.testBit j := by rw [Nat.testBit_succ, show (2 * m) / 2 = m by omega]
    simp only [e4, e5, e6, show ¬ k + 1 + j < k by omega, if_false, show ¬ k = k + 1 + j by omega, decide_false]
    cases m.testBit j <;> simp
theorem dl_two_pow (k : Nat) : dl 2 (2 ^ k) = k + 1 := by
  have h1 : dl 2 (2 ^ k) ≤ k + 1 := (dl_le_iff (by decide)).2 (Nat.pow_lt_pow_right (by decide) (by omega))
  have h2 : ¬ dl 2 (2 ^ k) ≤ k := fun h => by
    have := (dl_le_iff (by decide)).1 h
    omega
  omega
theorem updown {x k : Nat} (hk : k ≤ 64) : x * 2 ^ k % 18446744073709551616 / 2 ^ k = x % 2 ^ (64 - k) := by
  have e : 18446744073709551616 = 2 ^ (64 - k) * 2 ^ k := by rw [← Nat.pow_add, show 64 - k + k = 64 by omega]
  rw [e, Nat.mul_mod_mul_right, Nat.mul_div_cancel _ (Nat.pow_pos (by decide))]
theorem lowmask (x k : Nat) (hk : k ≤ 64) : ((x % 18446744073709551616) &&& ((2 ^ k - 1) % 18446744073709551616)) % 18446744073709551616 = x % 2 ^ k := by
  have h1 : 2 ^ k ≤ 2 ^ 64 := Nat.pow_le_pow_right (by decide) hk
  have h0 : 0 < 2 ^ k := Nat.pow_pos (by decide)
  rw [show (2 : Nat) ^ 64 = 18446744073709551616 by rfl] at h1
  have hdv : 2 ^ k ∣ 18446744073709551616 := by
    rw [show 18446744073709551616 = 2 ^ 64 by rfl]; exact Nat.pow_dvd_pow 2 hk
  rw [Nat.mod_eq_of_lt (a := 2 ^ k - 1) (by omega), Nat.and_two_pow_sub_one_eq_mod, Nat.mod_mod_of_dvd _ hdv]
  have := Nat.mod_lt x h0
  exact Nat.mod_eq_of_lt (by omega)
theorem two_facts {x : Nat} (h0 : 0 < x) (hx : x < 18446744073709551616) : x / 2 ^ ctz 64 x * 2 ^ ctz 64 x % 18446744073709551616 = x ∧ ((x / 2 ^ ctz 64 x % 18446744073709551616) &&& 1) % 18446744073709551616 = 1 ∧ x / 2 ^ dl 2 x = 0 ∧ x / 2 ^ (dl 2 x - 1) = 1 := by
  obtain ⟨m, h1, h2⟩ := ctz_spec 64 x h0 (by simpa using hx)
  have hp : 0 < 2 ^ ctz 64 x := Nat.pow_pos (by decide)
  have e : x / 2 ^ ctz 64 x = 2 * m + 1 := Nat.div_eq_of_eq_mul_right hp h1
  have hd := lt_pow_dl (B := 2) (by decide) x
  have hd2 := dl_pow_le (B := 2) (by decide) h0
  have hd0 : 0 < dl 2 x := by rw [dl_pos (by decide) h0]; omega
  refine ⟨?_, ?_, Nat.div_eq_of_lt hd, ?_⟩
  · rw [e, Nat.mul_comm, ← h1]; exact Nat.mod_eq_of_lt hx
  · rw [e]
    have := Nat.and_two_pow_sub_one_eq_mod ((2 * m + 1) % 18446744073709551616) 1
    simp only [Nat.reducePow, Nat.reduceSub] at this
    rw [this]; omega
  · refine Nat.div_eq_of_lt_le (by omega) ?_
    have : 2 ^ (dl 2 x - 1) * 2 = 2 ^ dl 2 x := by rw [← Nat.pow_succ]; congr 1; omega
    omega
end Va
