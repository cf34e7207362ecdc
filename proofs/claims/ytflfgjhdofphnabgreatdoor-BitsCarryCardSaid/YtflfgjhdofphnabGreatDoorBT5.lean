/- Differences with a borrow; numbers without and with a sign. -/
import Derived.Test.YtflfgjhdofphnabGreatDoorBT4
set_option linter.unusedSimpArgs false
set_option linter.unusedVariables false
set_option maxRecDepth 100000
set_option maxHeartbeats 4000000
open Go Go.Avm
namespace Va
variable {G : Glob}
theorem bits_Sub_px (x y : Nat) (c : Bool) (hx : x < 18446744073709551616) (hy : y < 18446744073709551616) : PX P G n_bits_Sub [.int .u64 x, .int .u64 y, .bool c]
    (.tup [.int .u64 (((x + 18446744073709551616 + 18446744073709551616 - y - c.toNat) % 18446744073709551616 : Nat) : Int), .bool (decide (x < y + c.toNat))]) := by
  refine PX_of_awp low_bits_Sub fol (by simp only [avmF, and_true]) (by simp only [avmF, and_true]) ?_
  have w1 : IntKind.u64.wrap ((x : Int) - (y : Int)) = (((x + 18446744073709551616 - y) % 18446744073709551616 : Nat) : Int) := by rw [wu64_mod]; omega
  simp only [ir_bits_Sub, initF, List.replicate, Nat.reduceAdd, Nat.reduceSub, iv, avmL]
  cases c with
  | false =>
    have e : (x + 18446744073709551616 + 18446744073709551616 - y) % 18446744073709551616 = (x + 18446744073709551616 - y) % 18446744073709551616 := by omega
    simp (maxSteps := 2000000) only [↓avm8, ↓avmW, avmD, avmL, avmO, avmR, avmN, avmM, wi64, csub, row_getD, row_reps, ↓reduceIte, decide_true, decide_false, true_imp_iff, Nat.reduceAdd, Nat.reduceMul, Nat.reduceSub, Nat.reduceLT, Nat.reduceLeDiff, Nat.reduceEqDiff, Nat.reducePow, Nat.min_eq_left, Nat.reduceMod, List.drop_zero, w1]
    refine ret_now ?_
    simp (maxSteps := 2000000) only [↓avm8, ↓avmW, avmD, avmL, avmO, avmR, avmN, avmM, wi64, csub, row_getD, row_reps, ↓reduceIte, decide_true, decide_false, true_imp_iff, Nat.reduceAdd, Nat.reduceMul, Nat.reduceSub, Nat.reduceLT, Nat.reduceLeDiff, Nat.reduceEqDiff, Nat.reducePow, Nat.min_eq_left, Nat.reduceMod, List.drop_zero, Bool.toNat_false, e]
  | true =>
    have w2 : IntKind.u64.wrap ((((x + 18446744073709551616 - y) % 18446744073709551616 : Nat) : Int) - ((1 : Nat) : Int)) = (((x + 18446744073709551616 + 18446744073709551616 - y - 1) % 18446744073709551616 : Nat) : Int) := by rw [wu64_mod]; omega
    by_cases h : x < y
    · have e2 : x < y + 1 := by omega
      simp (maxSteps := 2000000) only [↓avm8, ↓avmW, avmD, avmL, avmO, avmR, avmN, avmM, wi64, csub, row_getD, row_reps, ↓reduceIte, decide_true, decide_false, true_imp_iff, Nat.reduceAdd, Nat.reduceMul, Nat.reduceSub, Nat.reduceLT, Nat.reduceLeDiff, Nat.reduceEqDiff, Nat.reducePow, Nat.min_eq_left, Nat.reduceMod, List.drop_zero, h, w1, w2]
      refine ret_now ?_
      simp (maxSteps := 2000000) only [↓avm8, ↓avmW, avmD, avmL, avmO, avmR, avmN, avmM, wi64, csub, row_getD, row_reps, ↓reduceIte, decide_true, decide_false, true_imp_iff, Nat.reduceAdd, Nat.reduceMul, Nat.reduceSub, Nat.reduceLT, Nat.reduceLeDiff, Nat.reduceEqDiff, Nat.reducePow, Nat.min_eq_left, Nat.reduceMod, List.drop_zero, Bool.toNat_true, e2]
    · by_cases h2 : (x + 18446744073709551616 - y) % 18446744073709551616 = 0
      · have e2 : x < y + 1 := by omega
        simp (maxSteps := 2000000) only [↓avm8, ↓avmW, avmD, avmL, avmO, avmR, avmN, avmM, wi64, csub, row_getD, row_reps, ↓reduceIte, decide_true, decide_false, true_imp_iff, Nat.reduceAdd, Nat.reduceMul, Nat.reduceSub, Nat.reduceLT, Nat.reduceLeDiff, Nat.reduceEqDiff, Nat.reducePow, Nat.min_eq_left, Nat.reduceMod, List.drop_zero, h, w1, w2, h2]
        refine ret_now ?_
        simp (maxSteps := 2000000) only [↓avm8, ↓avmW, avmD, avmL, avmO, avmR, avmN, avmM, wi64, csub, row_getD, row_reps, ↓reduceIte, decide_true, decide_false, true_imp_iff, Nat.reduceAdd, Nat.reduceMul, Nat.reduceSub, Nat.reduceLT, Nat.reduceLeDiff, Nat.reduceEqDiff, Nat.reducePow, Nat.min_eq_left, Nat.reduceMod, List.drop_zero, Bool.toNat_true, e2]
        rw [show IntKind.u64.wrap (((0 : Nat) : Int) - ((1 : Nat) : Int)) = (((x + 18446744073709551616 + 18446744073709551616 - y - 1) % 18446744073709551616 : Nat) : Int) by rw [← h2]; exact w2]
      · have e2 : ¬ x < y + 1 := by omega
        simp (maxSteps := 2000000) only [↓avm8, ↓avmW, avmD, avmL, avmO, avmR, avmN, avmM, wi64, csub, row_getD, row_reps, ↓reduceIte, decide_true, decide_false, true_imp_iff, Nat.reduceAdd, Nat.reduceMul, Nat.reduceSub, Nat.reduceLT, Nat.reduceLeDiff, Nat.reduceEqDiff, Nat.reducePow, Nat.min_eq_left, Nat.reduceMod, List.drop_zero, h, w1, w2, h2]
        refine ret_now ?_
        simp (maxSteps := 2000000) only [↓avm8, ↓avmW, avmD, avmL, avmO, avmR, avmN, avmM, wi64, csub, row_getD, row_reps, ↓reduceIte, decide_true, decide_false, true_imp_iff, Nat.reduceAdd, Nat.reduceMul, Nat.reduceSub, Nat.reduceLT, Nat.reduceLeDiff, Nat.reduceEqDiff, Nat.reducePow, Nat.min_eq_left, Nat.reduceMod, List.drop_zero, Bool.toNat_true, e2]
end Va
