/- Numbers with a sign, as words. -/
import Derived.Test.YtflfgjhdofphnabGreatDoorBT4
import Derived.Test.YtflfgjhdofphnabGreatDoorRB
set_option linter.unusedSimpArgs false
set_option linter.unusedVariables false
set_option maxRecDepth 100000
set_option maxHeartbeats 4000000
open Go Go.Avm
namespace Va
variable {G : Glob}
theorem wu64_neg {u : Nat} (h0 : 0 < u) (h : u ≤ 18446744073709551616) : IntKind.u64.wrap (-(u : Int)) = ((18446744073709551616 - u : Nat) : Int) := by
  simp only [IntKind.wrap, IntKind.signed, IntKind.bits, Bool.false_and]
  simp
  omega
theorem wu64_pos {u : Nat} (h : u < 18446744073709551616) : IntKind.u64.wrap (u : Int) = (u : Int) := by
  simp only [IntKind.wrap, IntKind.signed, IntKind.bits, Bool.false_and]
  simp
  omega
theorem bits_Abs_px (x : Int) (hx : -9223372036854775808 ≤ x ∧ x ≤ 9223372036854775807) : PX P G n_bits_Abs [.int .i64 x] (.int .u64 ((x.natAbs : Nat) : Int)) := by
  refine PX_of_awp low_bits_Abs fol (by simp only [avmF, and_true]) (by simp only [avmF]) ?_
  by_cases h : x < 0
  · obtain ⟨u, rfl⟩ : ∃ u : Nat, x = -(u : Int) := ⟨x.natAbs, by omega⟩
    have w1 := wu64_neg (u := u) (by omega) (by omega)
    have w2 : IntKind.u64.wrap (-((18446744073709551616 - u : Nat) : Int)) = (u : Int) := by
      rw [wu64_neg (by omega) (by omega)]; omega
    have h' : -(u : Int) < ((0 : Nat) : Int) := h
    simp only [ir_bits_Abs, initF, List.replicate, Nat.reduceAdd, Nat.reduceSub, iv, avmL]
    simp (maxSteps := 2000000) only [↓avm8, ↓avmW, avmD, avmL, avmO, avmR, avmN, avmM, wi64, csub, row_getD, row_reps, ↓reduceIte, decide_true, decide_false, true_imp_iff, Nat.reduceAdd, Nat.reduceMul, Nat.reduceSub, Nat.reduceLT, Nat.reduceLeDiff, Nat.reduceEqDiff, Nat.reducePow, Nat.min_eq_left, Nat.reduceMod, List.drop_zero, h, h', w1, w2]
    refine ret_now ?_
    simp (maxSteps := 2000000) only [↓avm8, ↓avmW, avmD, avmL, avmO, avmR, avmN, avmM, wi64, csub, row_getD, row_reps, ↓reduceIte, decide_true, decide_false, true_imp_iff, Nat.reduceAdd, Nat.reduceMul, Nat.reduceSub, Nat.reduceLT, Nat.reduceLeDiff, Nat.reduceEqDiff, Nat.reducePow, Nat.min_eq_left, Nat.reduceMod, List.drop_zero, Int.natAbs_neg, Int.natAbs_natCast]
  · obtain ⟨u, rfl⟩ : ∃ u : Nat, x = (u : Int) := ⟨x.natAbs, by omega⟩
    have w1 := wu64_pos (u := u) (by omega)
    have w2 : u % 18446744073709551616 = u := Nat.mod_eq_of_lt (by omega)
    have n0 : ¬ u < 0 := by omega
    simp only [ir_bits_Abs, initF, List.replicate, Nat.reduceAdd, Nat.reduceSub, iv, avmL]
    simp (maxSteps := 2000000) only [↓avm8, ↓avmW, avmD, avmL, avmO, avmR, avmN, avmM, wi64, csub, row_getD, row_reps, ↓reduceIte, decide_true, decide_false, true_imp_iff, Nat.reduceAdd, Nat.reduceMul, Nat.reduceSub, Nat.reduceLT, Nat.reduceLeDiff, Nat.reduceEqDiff, Nat.reducePow, Nat.min_eq_left, Nat.reduceMod, List.drop_zero, w1, w2, n0]
    refine ret_now ?_
    simp (maxSteps := 2000000) only [↓avm8, ↓avmW, avmD, avmL, avmO, avmR, avmN, avmM, wi64, csub, row_getD, row_reps, ↓reduceIte, decide_true, decide_false, true_imp_iff, Nat.reduceAdd, Nat.reduceMul, Nat.reduceSub, Nat.reduceLT, Nat.reduceLeDiff, Nat.reduceEqDiff, Nat.reducePow, Nat.min_eq_left, Nat.reduceMod, List.drop_zero, w1, w2, Int.natAbs_natCast]
theorem bits_Signed_neg (u : Nat) (hu : u ≤ 9223372036854775808) : PX P G n_bits_Signed [.bool true, .int .u64 u] (.tup [.int .i64 (-(u : Int)), .bool true]) := by
  refine PX_of_awp low_bits_Signed fol (by simp only [avmF, and_true]) (by simp only [avmF, and_true]) ?_
  have w : IntKind.i64.wrap (IntKind.u64.wrap (-(u : Int))) = -(u : Int) := by
    simp only [IntKind.wrap, IntKind.signed, IntKind.bits, Bool.false_and, Bool.true_and]
    simp
    split <;> omega
  simp only [ir_bits_Signed, initF, List.replicate, Nat.reduceAdd, Nat.reduceSub, iv, avmL]
  simp (maxSteps := 2000000) only [↓avm8, ↓avmW, avmD, avmL, avmO, avmR, avmN, avmM, wi64, csub, row_getD, row_reps, ↓reduceIte, decide_true, decide_false, true_imp_iff, Nat.reduceAdd, Nat.reduceMul, Nat.reduceSub, Nat.reduceLT, Nat.reduceLeDiff, Nat.reduceEqDiff, Nat.reducePow, Nat.min_eq_left, Nat.reduceMod, List.drop_zero, hu, w]
  refine ret_now ?_
  simp (maxSteps := 2000000) only [↓avm8, ↓avmW, avmD, avmL, avmO, avmR, avmN, avmM, wi64, csub, row_getD, row_reps, ↓reduceIte, decide_true, decide_false, true_imp_iff, Nat.reduceAdd, Nat.reduceMul, Nat.reduceSub, Nat.reduceLT, Nat.reduceLeDiff, Nat.reduceEqDiff, Nat.reducePow, Nat.min_eq_left, Nat.reduceMod, List.drop_zero, hu, w]
theorem bits_Signed_pos (u : Nat) (hu : u < 9223372036854775808) : PX P G n_bits_Signed [.bool false, .int .u64 u] (.tup [.int .i64 (u : Int), .bool true]) := by
  refine PX_of_awp low_bits_Signed fol (by simp only [avmF, and_true]) (by simp only [avmF, and_true]) ?_
  have w : IntKind.i64.wrap (u : Int) = (u : Int) := wi64 (by omega)
  simp only [ir_bits_Signed, initF, List.replicate, Nat.reduceAdd, Nat.reduceSub, iv, avmL]
  simp (maxSteps := 2000000) only [↓avm8, ↓avmW, avmD, avmL, avmO, avmR, avmN, avmM, wi64, csub, row_getD, row_reps, ↓reduceIte, decide_true, decide_false, true_imp_iff, Nat.reduceAdd, Nat.reduceMul, Nat.reduceSub, Nat.reduceLT, Nat.reduceLeDiff, Nat.reduceEqDiff, Nat.reducePow, Nat.min_eq_left, Nat.reduceMod, List.drop_zero, hu, w]
  refine ret_now ?_
  simp (maxSteps := 2000000) only [↓avm8, ↓avmW, avmD, avmL, avmO, avmR, avmN, avmM, wi64, csub, row_getD, row_reps, ↓reduceIte, decide_true, decide_false, true_imp_iff, Nat.reduceAdd, Nat.reduceMul, Nat.reduceSub, Nat.reduceLT, Nat.reduceLeDiff, Nat.reduceEqDiff, Nat.reducePow, Nat.min_eq_left, Nat.reduceMod, List.drop_zero, hu, w]
theorem bits_Signed_no (neg : Bool) (u : Nat) (hu : if neg then 9223372036854775808 < u else 9223372036854775808 ≤ u) : PX P G n_bits_Signed [.bool neg, .int .u64 u] (.tup [.int .i64 ((0 : Nat) : Int), .bool false]) := by
  refine PX_of_awp low_bits_Signed fol (by simp only [avmF, and_true]) (by simp only [avmF, and_true]) ?_
  cases neg with
  | true =>
    have h : ¬ u ≤ 9223372036854775808 := by simp at hu; omega
    simp only [ir_bits_Signed, initF, List.replicate, Nat.reduceAdd, Nat.reduceSub, iv, avmL]
    simp (maxSteps := 2000000) only [↓avm8, ↓avmW, avmD, avmL, avmO, avmR, avmN, avmM, wi64, csub, row_getD, row_reps, ↓reduceIte, decide_true, decide_false, true_imp_iff, Nat.reduceAdd, Nat.reduceMul, Nat.reduceSub, Nat.reduceLT, Nat.reduceLeDiff, Nat.reduceEqDiff, Nat.reducePow, Nat.min_eq_left, Nat.reduceMod, List.drop_zero, h]
    refine ret_now ?_
    simp (maxSteps := 2000000) only [↓avm8, ↓avmW, avmD, avmL, avmO, avmR, avmN, avmM, wi64, csub, row_getD, row_reps, ↓reduceIte, decide_true, decide_false, true_imp_iff, Nat.reduceAdd, Nat.reduceMul, Nat.reduceSub, Nat.reduceLT, Nat.reduceLeDiff, Nat.reduceEqDiff, Nat.reducePow, Nat.min_eq_left, Nat.reduceMod, List.drop_zero]
  | false =>
    have h : ¬ u < 9223372036854775808 := by simp at hu; omega
    simp only [ir_bits_Signed, initF, List.replicate, Nat.reduceAdd, Nat.reduceSub, iv, avmL]
    simp (maxSteps := 2000000) only [↓avm8, ↓avmW, avmD, avmL, avmO, avmR, avmN, avmM, wi64, csub, row_getD, row_reps, ↓reduceIte, decide_true, decide_false, true_imp_iff, Nat.reduceAdd, Nat.reduceMul, Nat.reduceSub, Nat.reduceLT, Nat.reduceLeDiff, Nat.reduceEqDiff, Nat.reducePow, Nat.min_eq_left, Nat.reduceMod, List.drop_zero, h]
    refine ret_now ?_
    simp (maxSteps := 2000000) only [↓avm8, ↓avmW, avmD, avmL, avmO, avmR, avmN, avmM, wi64, csub, row_getD, row_reps, ↓reduceIte, decide_true, decide_false, true_imp_iff, Nat.reduceAdd, Nat.reduceMul, Nat.reduceSub, Nat.reduceLT, Nat.reduceLeDiff, Nat.reduceEqDiff, Nat.reducePow, Nat.min_eq_left, Nat.reduceMod, List.drop_zero]
theorem bits_Signed_self (x : Int) (hx : -9223372036854775808 ≤ x ∧ x ≤ 9223372036854775807) : PX P G n_bits_Signed [.bool (decide (x < ((0 : Nat) : Int))), .int .u64 ((x.natAbs : Nat) : Int)] (.tup [.int .i64 x, .bool true]) := by
  by_cases h : x < ((0 : Nat) : Int)
  · have := bits_Signed_neg (G := G) x.natAbs (by omega)
    rw [decide_eq_true h]
    rwa [show -((x.natAbs : Nat) : Int) = x by omega] at this
  · have := bits_Signed_pos (G := G) x.natAbs (by omega)
    rw [decide_eq_false h]
    rwa [show ((x.natAbs : Nat) : Int) = x by omega] at this ⊢
theorem bits_Narrow_no (x w : Int) (hw : w < 1 ∨ 64 < w) : PX P G n_bits_Narrow [.int .i64 x, .int .i64 w] (.tup [.int .i64 ((0 : Nat) : Int), .bool false]) := by
  refine PX_of_awp low_bits_Narrow fol (by simp only [avmF, and_true]) (by simp only [avmF, and_true]) ?_
  rcases hw with h | h
  · have h' : w < ((1 : Nat) : Int) := h
    simp only [ir_bits_Narrow, initF, List.replicate, Nat.reduceAdd, Nat.reduceSub, iv, avmL]
    simp (maxSteps := 2000000) only [↓avm8, ↓avmW, avmD, avmL, avmO, avmR, avmN, avmM, wi64, csub, row_getD, row_reps, ↓reduceIte, decide_true, decide_false, true_imp_iff, Nat.reduceAdd, Nat.reduceMul, Nat.reduceSub, Nat.reduceLT, Nat.reduceLeDiff, Nat.reduceEqDiff, Nat.reducePow, Nat.min_eq_left, Nat.reduceMod, List.drop_zero, h, h']
    refine ret_now ?_
    simp (maxSteps := 2000000) only [↓avm8, ↓avmW, avmD, avmL, avmO, avmR, avmN, avmM, wi64, csub, row_getD, row_reps, ↓reduceIte, decide_true, decide_false, true_imp_iff, Nat.reduceAdd, Nat.reduceMul, Nat.reduceSub, Nat.reduceLT, Nat.reduceLeDiff, Nat.reduceEqDiff, Nat.reducePow, Nat.min_eq_left, Nat.reduceMod, List.drop_zero]
  · have h' : ((64 : Nat) : Int) < w := h
    have h1 : ¬ w < ((1 : Nat) : Int) := by omega
    have h1' : ¬ w < (1 : Int) := by omega
    simp only [ir_bits_Narrow, initF, List.replicate, Nat.reduceAdd, Nat.reduceSub, iv, avmL]
    simp (maxSteps := 2000000) only [↓avm8, ↓avmW, avmD, avmL, avmO, avmR, avmN, avmM, wi64, csub, row_getD, row_reps, ↓reduceIte, decide_true, decide_false, true_imp_iff, Nat.reduceAdd, Nat.reduceMul, Nat.reduceSub, Nat.reduceLT, Nat.reduceLeDiff, Nat.reduceEqDiff, Nat.reducePow, Nat.min_eq_left, Nat.reduceMod, List.drop_zero, h, h', h1, h1']
    refine ret_now ?_
    simp (maxSteps := 2000000) only [↓avm8, ↓avmW, avmD, avmL, avmO, avmR, avmN, avmM, wi64, csub, row_getD, row_reps, ↓reduceIte, decide_true, decide_false, true_imp_iff, Nat.reduceAdd, Nat.reduceMul, Nat.reduceSub, Nat.reduceLT, Nat.reduceLeDiff, Nat.reduceEqDiff, Nat.reducePow, Nat.min_eq_left, Nat.reduceMod, List.drop_zero]
end Va
