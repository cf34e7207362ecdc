/- Sums and differences with a carry. -/
import Derived.Test.YtflfgjhdofphnabGreatDoorBT2
set_option linter.unusedSimpArgs false
set_option linter.unusedVariables false
set_option maxRecDepth 100000
set_option maxHeartbeats 4000000
open Go Go.Avm
namespace Va
variable {G : Glob}
theorem bits_Add_px (x y : Nat) (c : Bool) (hx : x < 18446744073709551616) (hy : y < 18446744073709551616) : PX P G n_bits_Add [.int .u64 x, .int .u64 y, .bool c]
    (.tup [.int .u64 (((x + y + c.toNat) % 18446744073709551616 : Nat) : Int), .bool (decide (18446744073709551616 ≤ x + y + c.toNat))]) := by
  refine PX_of_awp low_bits_Add fol (by simp only [avmF, and_true]) (by simp only [avmF, and_true]) ?_
  simp only [ir_bits_Add, initF, List.replicate, Nat.reduceAdd, Nat.reduceSub, iv, avmL]
  cases c with
  | false =>
    have e : decide ((x + y) % 18446744073709551616 < x) = decide (18446744073709551616 ≤ x + y) := decide_eq_decide.2 (by omega)
    simp (maxSteps := 2000000) (disch := omega) only [↓avm8, ↓avmW, avmD, avmL, avmO, avmR, avmN, avmM, wi64, csub, row_getD, row_reps, ↓reduceIte, decide_true, decide_false, true_imp_iff, Nat.reduceAdd, Nat.reduceMul, Nat.reduceSub, Nat.reduceLT, Nat.reduceLeDiff, Nat.reduceEqDiff, Nat.reducePow, Nat.min_eq_left, Nat.reduceMod, List.drop_zero]
    refine ret_now ?_
    simp (maxSteps := 2000000) (disch := omega) only [↓avm8, ↓avmW, avmD, avmL, avmO, avmR, avmN, avmM, wi64, csub, row_getD, row_reps, ↓reduceIte, decide_true, decide_false, true_imp_iff, Nat.reduceAdd, Nat.reduceMul, Nat.reduceSub, Nat.reduceLT, Nat.reduceLeDiff, Nat.reduceEqDiff, Nat.reducePow, Nat.min_eq_left, Nat.reduceMod, List.drop_zero, Bool.toNat_false, e]
  | true =>
    have e1 : ((x + y) % 18446744073709551616 + 1) % 18446744073709551616 = (x + y + 1) % 18446744073709551616 := by omega
    by_cases h : (x + y) % 18446744073709551616 < x
    · have e2 : 18446744073709551615 ≤ x + y := by omega
      simp (maxSteps := 2000000) (disch := omega) only [↓avm8, ↓avmW, avmD, avmL, avmO, avmR, avmN, avmM, wi64, csub, row_getD, row_reps, ↓reduceIte, decide_true, decide_false, true_imp_iff, Nat.reduceAdd, Nat.reduceMul, Nat.reduceSub, Nat.reduceLT, Nat.reduceLeDiff, Nat.reduceEqDiff, Nat.reducePow, Nat.min_eq_left, Nat.reduceMod, List.drop_zero, decide_eq_true h, e1]
      refine ret_now ?_
      simp (maxSteps := 2000000) (disch := omega) only [↓avm8, ↓avmW, avmD, avmL, avmO, avmR, avmN, avmM, wi64, csub, row_getD, row_reps, ↓reduceIte, decide_true, decide_false, true_imp_iff, Nat.reduceAdd, Nat.reduceMul, Nat.reduceSub, Nat.reduceLT, Nat.reduceLeDiff, Nat.reduceEqDiff, Nat.reducePow, Nat.min_eq_left, Nat.reduceMod, List.drop_zero, Bool.toNat_true, decide_eq_true e2]
    · have e2 : decide ((x + y + 1) % 18446744073709551616 = 0) = decide (18446744073709551615 ≤ x + y) := decide_eq_decide.2 (by omega)
      simp (maxSteps := 2000000) (disch := omega) only [↓avm8, ↓avmW, avmD, avmL, avmO, avmR, avmN, avmM, wi64, csub, row_getD, row_reps, ↓reduceIte, decide_true, decide_false, true_imp_iff, Nat.reduceAdd, Nat.reduceMul, Nat.reduceSub, Nat.reduceLT, Nat.reduceLeDiff, Nat.reduceEqDiff, Nat.reducePow, Nat.min_eq_left, Nat.reduceMod, List.drop_zero, decide_eq_false h, e1]
      refine ret_now ?_
      simp (maxSteps := 2000000) (disch := omega) only [↓avm8, ↓avmW, avmD, avmL, avmO, avmR, avmN, avmM, wi64, csub, row_getD, row_reps, ↓reduceIte, decide_true, decide_false, true_imp_iff, Nat.reduceAdd, Nat.reduceMul, Nat.reduceSub, Nat.reduceLT, Nat.reduceLeDiff, Nat.reduceEqDiff, Nat.reducePow, Nat.min_eq_left, Nat.reduceMod, List.drop_zero, Bool.toNat_true, e2]
end Va
