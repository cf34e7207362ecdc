/- Shifts with a sign; the lowest bits as a number. -/
import Derived.Test.YtflfgjhdofphnabGreatDoorBA
import Derived.Test.YtflfgjhdofphnabGreatDoorFE
set_option linter.unusedSimpArgs false
set_option linter.unusedVariables false
set_option maxRecDepth 100000
set_option maxHeartbeats 4000000
open Go Go.Avm
namespace Va
variable {G : Glob}
theorem wi64_lo (n : Int) : -9223372036854775808 ≤ IntKind.i64.wrap n ∧ IntKind.i64.wrap n ≤ 9223372036854775807 := by
  simp only [IntKind.wrap, IntKind.signed, IntKind.bits, Bool.true_and]
  simp
  split <;> omega
theorem wi64_eq (n : Int) : ∃ t : Int, IntKind.i64.wrap n = n + 18446744073709551616 * t := by
  simp only [IntKind.wrap, IntKind.signed, IntKind.bits, Bool.true_and]
  simp
  split
  · exact ⟨-(n / 18446744073709551616) - 1, by omega⟩
  · exact ⟨-(n / 18446744073709551616), by omega⟩
theorem wi64_mod {n m t : Int} (h : n = m + 18446744073709551616 * t) : IntKind.i64.wrap n = IntKind.i64.wrap m := by
  obtain ⟨a, ha⟩ := wi64_eq n
  obtain ⟨b, hb⟩ := wi64_eq m
  have h1 := wi64_lo n
  have h2 := wi64_lo m
  omega
theorem bits_Sar_n (x : Int) (k : Nat) (hk : k ≤ 63) : PX P G n_bits_Sar [.int .i64 x, .int .i64 (k : Int)] (.int .i64 (x / 2 ^ k)) := by
  refine PX_of_awp low_bits_Sar fol (by simp only [avmF, and_true]) (by simp only [avmF]) ?_
  have h1 : ¬ (k : Int) ≤ -64 := by omega
  have h3 : min k 63 = k := by omega
  have h4 : min k 64 = k := by omega
  have h5 : ¬ k < 0 := by omega
  have h6 : ¬ 63 < k := by omega
  simp only [ir_bits_Sar, initF, List.replicate, Nat.reduceAdd, Nat.reduceSub, iv, avmL]
  simp (maxSteps := 2000000) only [↓avm8, ↓avmW, avmD, avmL, avmO, avmR, avmN, avmM, wi64, csub, row_getD, row_reps, ↓reduceIte, decide_true, decide_false, true_imp_iff, Nat.reduceAdd, Nat.reduceMul, Nat.reduceSub, Nat.reduceLT, Nat.reduceLeDiff, Nat.reduceEqDiff, Nat.reducePow, Nat.min_eq_left, Nat.reduceMod, List.drop_zero, h1, h5, h3, h4]
  refine ret_now ?_
  simp (maxSteps := 2000000) only [↓avm8, ↓avmW, avmD, avmL, avmO, avmR, avmN, avmM, wi64, csub, row_getD, row_reps, ↓reduceIte, decide_true, decide_false, true_imp_iff, Nat.reduceAdd, Nat.reduceMul, Nat.reduceSub, Nat.reduceLT, Nat.reduceLeDiff, Nat.reduceEqDiff, Nat.reducePow, Nat.min_eq_left, Nat.reduceMod, List.drop_zero, fdiv_pow]
/-- The lowest bits as a number with a sign. -/
def narrow (x : Int) (k : Nat) : Int := IntKind.i64.wrap (x * 2 ^ k) / 2 ^ k
theorem narrow_spec (x : Int) {k : Nat} (hk : k ≤ 64) : narrow x k * 2 ^ k = IntKind.i64.wrap (x * 2 ^ k) := by
  obtain ⟨t, ht⟩ := wi64_eq (x * 2 ^ k)
  have h0 : (2 : Int) ^ k ≠ 0 := by
    have : (0 : Int) < 2 ^ k := Int.pow_pos (by decide)
    omega
  have e : (18446744073709551616 : Int) = 2 ^ (64 - k) * 2 ^ k := by rw [← Int.pow_add, show 64 - k + k = 64 by omega]; rfl
  have h1 : IntKind.i64.wrap (x * 2 ^ k) = (x + 2 ^ (64 - k) * t) * 2 ^ k := by
    rw [ht, e, Int.add_mul, Int.mul_right_comm]
  unfold narrow
  rw [h1, Int.mul_ediv_cancel _ h0]
theorem narrow_idem (x : Int) {k : Nat} (hk : k ≤ 64) : narrow (narrow x k) k = narrow x k := by
  have h := narrow_spec x hk
  have hl := wi64_lo (x * 2 ^ k)
  have h0 : (2 : Int) ^ k ≠ 0 := by
    have : (0 : Int) < 2 ^ k := Int.pow_pos (by decide)
    omega
  rw [narrow, h, wi64_in hl.1 hl.2, ← h, Int.mul_ediv_cancel _ h0]
theorem narrow_zero {x : Int} (h : -9223372036854775808 ≤ x ∧ x ≤ 9223372036854775807) : narrow x 0 = x := by
  unfold narrow
  simp
  exact wi64_in h.1 h.2
theorem narrow_bd (x : Int) (k : Nat) : -9223372036854775808 ≤ narrow x k ∧ narrow x k ≤ 9223372036854775807 := by
  have hl := wi64_lo (x * 2 ^ k)
  have hp : (0 : Int) < 2 ^ k := Int.pow_pos (by decide)
  have h1 := Int.mul_ediv_add_emod (IntKind.i64.wrap (x * 2 ^ k)) (2 ^ k)
  have h2 := Int.emod_nonneg (IntKind.i64.wrap (x * 2 ^ k)) (show (2 : Int) ^ k ≠ 0 by omega)
  have h3 := Int.emod_lt_of_pos (IntKind.i64.wrap (x * 2 ^ k)) hp
  unfold narrow
  generalize IntKind.i64.wrap (x * 2 ^ k) / 2 ^ k = q at *
  generalize IntKind.i64.wrap (x * 2 ^ k) % 2 ^ k = r at *
  generalize (2 : Int) ^ k = p at *
  have h4 : 1 ≤ p := by omega
  refine ⟨?_, ?_⟩
  · rcases Int.lt_or_le q (-9223372036854775808) with h | h
    · have : p * q ≤ p * (-9223372036854775809) := Int.mul_le_mul_of_nonneg_left (by omega) (by omega)
      omega
    · exact h
  · rcases Int.lt_or_le 9223372036854775807 q with h | h
    · have : p * 9223372036854775808 ≤ p * q := Int.mul_le_mul_of_nonneg_left (by omega) (by omega)
      omega
    · exact h
theorem bits_Narrow_px (x : Int) (w : Nat) (h1 : 1 ≤ w) (h2 : w ≤ 64) : PX P G n_bits_Narrow [.int .i64 x, .int .i64 (w : Int)] (.tup [.int .i64 (narrow x (64 - w)), .bool (decide (narrow x (64 - w) = x))]) := by
  refine PX_of_awp low_bits_Narrow fol (by simp only [avmF, and_true]) (by simp only [avmF, and_true]) ?_
  have a1 : ¬ w < 1 := by omega
  have a2 : ¬ 64 < w := by omega
  have a3 : IntKind.i64.wrap (((64 : Nat) : Int) - (w : Int)) = ((64 - w : Nat) : Int) := by rw [wi64_in (by omega) (by omega)]; omega
  have a4 : min (64 - w) 64 = 64 - w := by omega
  have a5 : IntKind.i64.wrap (x * 2 ^ (64 - w)) / 2 ^ (64 - w) = narrow x (64 - w) := rfl
  simp only [ir_bits_Narrow, initF, List.replicate, Nat.reduceAdd, Nat.reduceSub, iv, avmL]
  simp (maxSteps := 2000000) only [↓avm8, ↓avmW, avmD, avmL, avmO, avmR, avmN, avmM, wi64, csub, row_getD, row_reps, ↓reduceIte, decide_true, decide_false, true_imp_iff, Nat.reduceAdd, Nat.reduceMul, Nat.reduceSub, Nat.reduceLT, Nat.reduceLeDiff, Nat.reduceEqDiff, Nat.reducePow, Nat.min_eq_left, Nat.reduceMod, List.drop_zero, a1, a2, a3, a4]
  refine ret_now ?_
  simp (maxSteps := 2000000) only [↓avm8, ↓avmW, avmD, avmL, avmO, avmR, avmN, avmM, wi64, csub, row_getD, row_reps, ↓reduceIte, decide_true, decide_false, true_imp_iff, Nat.reduceAdd, Nat.reduceMul, Nat.reduceSub, Nat.reduceLT, Nat.reduceLeDiff, Nat.reduceEqDiff, Nat.reducePow, Nat.min_eq_left, Nat.reduceMod, List.drop_zero, fdiv_pow, a5]
end Va
