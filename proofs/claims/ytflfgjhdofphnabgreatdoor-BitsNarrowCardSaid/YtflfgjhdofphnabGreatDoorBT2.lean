/- The lowest bit that is set. -/
import Derived.Test.YtflfgjhdofphnabGreatDoorBT1
import Derived.Test.YtflfgjhdofphnabGreatDoorBM2
set_option linter.unusedSimpArgs false
set_option linter.unusedVariables false
set_option maxRecDepth 100000
set_option maxHeartbeats 4000000
open Go Go.Avm
namespace Va
variable {G : Glob}
theorem bits_Zeros_px (x : Nat) (hx : x < 18446744073709551616) : PX P G n_bits_Zeros [.int .u64 x] (.int .i64 ((ctz 64 x : Nat) : Int)) := by
  refine PX_of_awp low_bits_Zeros fol (by simp only [avmF, and_true]) (by simp only [avmF, and_true]) ?_
  simp only [ir_bits_Zeros, initF, List.replicate, Nat.reduceAdd, Nat.reduceSub, iv, avmL]
  by_cases h0 : x = 0
  · subst h0
    simp (maxSteps := 2000000) (disch := omega) only [↓avm8, ↓avmW, avmD, avmL, avmO, avmR, avmN, avmM, wi64, csub, row_getD, row_reps, ↓reduceIte, decide_true, decide_false, true_imp_iff, Nat.reduceAdd, Nat.reduceMul, Nat.reduceSub, Nat.reduceLT, Nat.reduceLeDiff, Nat.reduceEqDiff, Nat.reducePow, Nat.min_eq_left, Nat.reduceMod, List.drop_zero]
    refine ret_now ?_
    simp (maxSteps := 2000000) (disch := omega) only [↓avm8, ↓avmW, avmD, avmL, avmO, avmR, avmN, avmM, wi64, csub, row_getD, row_reps, ↓reduceIte, decide_true, decide_false, true_imp_iff, Nat.reduceAdd, Nat.reduceMul, Nat.reduceSub, Nat.reduceLT, Nat.reduceLeDiff, Nat.reduceEqDiff, Nat.reducePow, Nat.min_eq_left, Nat.reduceMod, List.drop_zero, ctz_zero]
  · obtain ⟨m, h1, h2⟩ := ctz_spec 64 x (by omega) (by simpa using hx)
    have e1 : IntKind.u64.wrap (-(x : Int)) = ((18446744073709551616 - x : Nat) : Int) := by rw [wu64_mod]; omega
    have e2 : ((x % 18446744073709551616) &&& ((18446744073709551616 - x) % 18446744073709551616)) % 18446744073709551616 = 2 ^ ctz 64 x := by
      rw [m64 hx, m64 (n := 18446744073709551616 - x) (by omega), lowbit h1 hx, m64]
      exact Nat.lt_of_lt_of_le (Nat.pow_lt_pow_right (by decide) h2) (by decide)
    have h3 : 2 ^ ctz 64 x < 18446744073709551616 := Nat.lt_of_lt_of_le (Nat.pow_lt_pow_right (by decide) h2) (by decide)
    clear h1
    simp (maxSteps := 2000000) (disch := omega) only [↓avm8, ↓avmW, avmD, avmL, avmO, avmR, avmN, avmM, wi64, csub, row_getD, row_reps, ↓reduceIte, decide_true, decide_false, true_imp_iff, Nat.reduceAdd, Nat.reduceMul, Nat.reduceSub, Nat.reduceLT, Nat.reduceLeDiff, Nat.reduceEqDiff, Nat.reducePow, Nat.min_eq_left, Nat.reduceMod, List.drop_zero, decide_eq_false h0, e1, e2]
    refine (bits_Len_px _ h3).call ?_
    rw [dl_two_pow]
    simp (maxSteps := 2000000) (disch := omega) only [↓avm8, ↓avmW, avmD, avmL, avmO, avmR, avmN, avmM, wi64, csub, row_getD, row_reps, ↓reduceIte, decide_true, decide_false, true_imp_iff, Nat.reduceAdd, Nat.reduceMul, Nat.reduceSub, Nat.reduceLT, Nat.reduceLeDiff, Nat.reduceEqDiff, Nat.reducePow, Nat.min_eq_left, Nat.reduceMod, List.drop_zero]
    refine ret_now ?_
    simp (maxSteps := 2000000) (disch := omega) only [↓avm8, ↓avmW, avmD, avmL, avmO, avmR, avmN, avmM, wi64, csub, row_getD, row_reps, ↓reduceIte, decide_true, decide_false, true_imp_iff, Nat.reduceAdd, Nat.reduceMul, Nat.reduceSub, Nat.reduceLT, Nat.reduceLeDiff, Nat.reduceEqDiff, Nat.reducePow, Nat.min_eq_left, Nat.reduceMod, List.drop_zero]
    rfl
theorem shlW_up (x k : Nat) : shlW x (k : Int) = x * 2 ^ k % 18446744073709551616 := by
  unfold shlW
  rw [if_neg (by omega), Int.toNat_natCast]
theorem shlW_down {x : Nat} (hx : x < 18446744073709551616) (k : Nat) : shlW x (-(k : Int)) = x / 2 ^ k := by
  unfold shlW
  rcases Nat.eq_zero_or_pos k with rfl | hk
  · simp; omega
  · rw [if_pos (by omega), Int.neg_neg, Int.toNat_natCast]
theorem bits_Shl_n (x k : Nat) (hx : x < 18446744073709551616) (hk : k ≤ 9223372036854775807) : PX P G n_bits_Shl [.int .u64 x, .int .i64 (k : Int)] (.int .u64 ((x * 2 ^ k % 18446744073709551616 : Nat) : Int)) := by
  rw [← shlW_up]; exact bits_Shl_px x k hx (by omega)
theorem bits_Shr_n (x k : Nat) (hx : x < 18446744073709551616) (hk : k ≤ 9223372036854775807) : PX P G n_bits_Shr [.int .u64 x, .int .i64 (k : Int)] (.int .u64 ((x / 2 ^ k : Nat) : Int)) := by
  rw [← shlW_down hx]; exact bits_Shr_px x k hx (by omega)
end Va
