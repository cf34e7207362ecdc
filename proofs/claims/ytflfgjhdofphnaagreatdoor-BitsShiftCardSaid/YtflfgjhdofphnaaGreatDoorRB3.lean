/- The reference's lengths; shifts with a sign of any width. -/
import Derived.Test.YtflfgjhdofphnaaGreatDoorBM4
import Derived.Test.YtflfgjhdofphnaaGreatDoorBA
set_option linter.unusedSimpArgs false
set_option linter.unusedVariables false
set_option maxRecDepth 100000
set_option maxHeartbeats 4000000
open Go Go.Avm
namespace Va
variable {G : Glob}
theorem ref_Len_px (x : Nat) (hx : x < 18446744073709551616) : PX P G n_ref1_Len [.int .u64 x] (.int .i64 ((dl 2 x : Nat) : Int)) := by
  refine PX_of_awp low_ref1_Len fol (by simp only [avmF, and_true]) (by simp only [avmF]) ?_
  have hd : dl 2 x ≤ 64 := (dl_le_iff (by decide)).2 (by simpa using hx)
  simp only [ir_ref1_Len, initF, List.replicate, Nat.reduceAdd, Nat.reduceSub, iv, avmL]
  simp (maxSteps := 2000000) only [↓avm8, ↓avmW, avmD, avmL, avmO, avmR, avmN, avmM, wi64, csub, row_getD, row_reps, ↓reduceIte, decide_true, decide_false, true_imp_iff, Nat.reduceAdd, Nat.reduceMul, Nat.reduceSub, Nat.reduceLT, Nat.reduceLeDiff, Nat.reduceEqDiff, Nat.reducePow, Nat.min_eq_left, Nat.reduceMod, List.drop_zero]
  refine loop_of (fun q : Nat × Nat => ⟨(.int .u64 q.1 :: .junk :: .junk :: .int .i64 q.2 :: .junk :: .junk :: .junk :: .junk :: .junk :: .junk :: .junk :: []), []⟩)
    (fun q => q.1 < 18446744073709551616 ∧ q.2 + dl 2 q.1 = dl 2 x) (fun q => q.1) (x, 0) [0, 3] rfl ⟨hx, by simp⟩ ?_
  rintro ⟨y, n⟩ ⟨hy, hn⟩
  simp only at hy hn
  by_cases h0 : 0 < y
  · have e := dl_pos (B := 2) (n := y) (by decide) h0
    have w1 : IntKind.i64.wrap ((n : Int) + ((1 : Nat) : Int)) = ((n + 1 : Nat) : Int) := wi64 (n := n + 1) (by omega)
    have w1' : IntKind.i64.wrap ((n + 1 : Nat) : Int) = ((n + 1 : Nat) : Int) := wi64 (by omega)
    have w2 : y / 2 % 18446744073709551616 = y / 2 := m64 (by omega)
    simp (maxSteps := 2000000) only [↓avm8, ↓avmW, avmD, avmL, avmO, avmR, avmN, avmM, wi64, csub, row_getD, row_reps, ↓reduceIte, decide_true, decide_false, true_imp_iff, Nat.reduceAdd, Nat.reduceMul, Nat.reduceSub, Nat.reduceLT, Nat.reduceLeDiff, Nat.reduceEqDiff, Nat.reducePow, Nat.min_eq_left, Nat.reduceMod, List.drop_zero, h0, w1, w1', w2]
    exact LN.next (y / 2, n + 1) [0, 3] ⟨by simp only; omega, by simp only; omega⟩ (by simp only; omega) rfl
  · have e : y = 0 := by omega
    subst e
    rw [dl_zero] at hn
    simp (maxSteps := 2000000) only [↓avm8, ↓avmW, avmD, avmL, avmO, avmR, avmN, avmM, wi64, csub, row_getD, row_reps, ↓reduceIte, decide_true, decide_false, true_imp_iff, Nat.reduceAdd, Nat.reduceMul, Nat.reduceSub, Nat.reduceLT, Nat.reduceLeDiff, Nat.reduceEqDiff, Nat.reducePow, Nat.min_eq_left, Nat.reduceMod, List.drop_zero, h0]
    refine ret_now ?_
    simp (maxSteps := 2000000) only [↓avm8, ↓avmW, avmD, avmL, avmO, avmR, avmN, avmM, wi64, csub, row_getD, row_reps, ↓reduceIte, decide_true, decide_false, true_imp_iff, Nat.reduceAdd, Nat.reduceMul, Nat.reduceSub, Nat.reduceLT, Nat.reduceLeDiff, Nat.reduceEqDiff, Nat.reducePow, Nat.min_eq_left, Nat.reduceMod, List.drop_zero]
    rw [← hn]; rfl
theorem ref_Zeros_px (x : Nat) (hx : x < 18446744073709551616) : PX P G n_ref1_Zeros [.int .u64 x] (.int .i64 ((ctz 64 x : Nat) : Int)) := by
  refine PX_of_awp low_ref1_Zeros fol (by simp only [avmF, and_true]) (by simp only [avmF]) ?_
  simp only [ir_ref1_Zeros, initF, List.replicate, Nat.reduceAdd, Nat.reduceSub, iv, avmL]
  simp (maxSteps := 2000000) only [↓avm8, ↓avmW, avmD, avmL, avmO, avmR, avmN, avmM, wi64, csub, row_getD, row_reps, ↓reduceIte, decide_true, decide_false, true_imp_iff, Nat.reduceAdd, Nat.reduceMul, Nat.reduceSub, Nat.reduceLT, Nat.reduceLeDiff, Nat.reduceEqDiff, Nat.reducePow, Nat.min_eq_left, Nat.reduceMod, List.drop_zero]
  refine loop_of (fun q : Nat × Nat => ⟨(.int .u64 q.1 :: .junk :: .junk :: .int .i64 q.2 :: .junk :: .junk :: .junk :: .junk :: .junk :: .junk :: .junk :: .junk :: .junk :: .junk :: .junk :: .junk :: []), []⟩)
    (fun q => q.1 < 18446744073709551616 ∧ q.2 ≤ 64 ∧ q.2 + ctz (64 - q.2) q.1 = ctz 64 x) (fun q => 64 - q.2) (x, 0) [0, 3] rfl ⟨hx, by simp, by simp⟩ ?_
  rintro ⟨y, n⟩ ⟨hy, hn, he⟩
  simp only at hy hn he
  by_cases h0 : n < 64
  · obtain ⟨f, hf⟩ : ∃ f, 64 - n = f + 1 := ⟨63 - n, by omega⟩
    rw [hf, ctz] at he
    by_cases h1 : y % 2 = 0
    · have w1 : IntKind.i64.wrap ((n : Int) + ((1 : Nat) : Int)) = ((n + 1 : Nat) : Int) := wi64 (n := n + 1) (by omega)
      have w1' : IntKind.i64.wrap ((n + 1 : Nat) : Int) = ((n + 1 : Nat) : Int) := wi64 (by omega)
      have w2 : y / 2 % 18446744073709551616 = y / 2 := m64 (by omega)
      rw [if_pos h1] at he
      simp (maxSteps := 2000000) only [↓avm8, ↓avmW, avmD, avmL, avmO, avmR, avmN, avmM, wi64, csub, row_getD, row_reps, ↓reduceIte, decide_true, decide_false, true_imp_iff, Nat.reduceAdd, Nat.reduceMul, Nat.reduceSub, Nat.reduceLT, Nat.reduceLeDiff, Nat.reduceEqDiff, Nat.reducePow, Nat.min_eq_left, Nat.reduceMod, List.drop_zero, h0, h1, w1, w1', w2]
      exact LN.next (y / 2, n + 1) [0, 3] ⟨by simp only; omega, by simp only; omega, by simp only; rw [show 64 - (n + 1) = f by omega]; omega⟩ (by simp only; omega) rfl
    · rw [if_neg h1] at he
      simp (maxSteps := 2000000) only [↓avm8, ↓avmW, avmD, avmL, avmO, avmR, avmN, avmM, wi64, csub, row_getD, row_reps, ↓reduceIte, decide_true, decide_false, true_imp_iff, Nat.reduceAdd, Nat.reduceMul, Nat.reduceSub, Nat.reduceLT, Nat.reduceLeDiff, Nat.reduceEqDiff, Nat.reducePow, Nat.min_eq_left, Nat.reduceMod, List.drop_zero, h0, h1]
      refine ret_now ?_
      simp (maxSteps := 2000000) only [↓avm8, ↓avmW, avmD, avmL, avmO, avmR, avmN, avmM, wi64, csub, row_getD, row_reps, ↓reduceIte, decide_true, decide_false, true_imp_iff, Nat.reduceAdd, Nat.reduceMul, Nat.reduceSub, Nat.reduceLT, Nat.reduceLeDiff, Nat.reduceEqDiff, Nat.reducePow, Nat.min_eq_left, Nat.reduceMod, List.drop_zero]
      rw [← he]; rfl
  · have e : n = 64 := by omega
    subst e
    simp (maxSteps := 2000000) only [↓avm8, ↓avmW, avmD, avmL, avmO, avmR, avmN, avmM, wi64, csub, row_getD, row_reps, ↓reduceIte, decide_true, decide_false, true_imp_iff, Nat.reduceAdd, Nat.reduceMul, Nat.reduceSub, Nat.reduceLT, Nat.reduceLeDiff, Nat.reduceEqDiff, Nat.reducePow, Nat.min_eq_left, Nat.reduceMod, List.drop_zero, h0]
    refine ret_now ?_
    simp (maxSteps := 2000000) only [↓avm8, ↓avmW, avmD, avmL, avmO, avmR, avmN, avmM, wi64, csub, row_getD, row_reps, ↓reduceIte, decide_true, decide_false, true_imp_iff, Nat.reduceAdd, Nat.reduceMul, Nat.reduceSub, Nat.reduceLT, Nat.reduceLeDiff, Nat.reduceEqDiff, Nat.reducePow, Nat.min_eq_left, Nat.reduceMod, List.drop_zero]
    rw [← he]; rfl
theorem bits_Shr_low (x : Nat) (n : Int) (hn : n ≤ -64) : PX P G n_bits_Shr [.int .u64 x, .int .i64 n] (.int .u64 ((0 : Nat) : Int)) := by
  refine PX_of_awp low_bits_Shr fol (by simp only [avmF, and_true]) (by simp only [avmF, and_true]) ?_
  have h1 : ¬ ((64 : Nat) : Int) ≤ n := by omega
  simp only [ir_bits_Shr, initF, List.replicate, Nat.reduceAdd, Nat.reduceSub, iv, avmL]
  simp (maxSteps := 2000000) only [↓avm8, ↓avmW, avmD, avmL, avmO, avmR, avmN, avmM, wi64, csub, row_getD, row_reps, ↓reduceIte, decide_true, decide_false, true_imp_iff, Nat.reduceAdd, Nat.reduceMul, Nat.reduceSub, Nat.reduceLT, Nat.reduceLeDiff, Nat.reduceEqDiff, Nat.reducePow, Nat.min_eq_left, Nat.reduceMod, List.drop_zero, h1, hn]
  refine ret_now ?_
  simp (maxSteps := 2000000) only [↓avm8, ↓avmW, avmD, avmL, avmO, avmR, avmN, avmM, wi64, csub, row_getD, row_reps, ↓reduceIte, decide_true, decide_false, true_imp_iff, Nat.reduceAdd, Nat.reduceMul, Nat.reduceSub, Nat.reduceLT, Nat.reduceLeDiff, Nat.reduceEqDiff, Nat.reducePow, Nat.min_eq_left, Nat.reduceMod, List.drop_zero]
theorem bits_Sar_low (s : Int) (n : Int) (hn : n ≤ -64) : PX P G n_bits_Sar [.int .i64 s, .int .i64 n] (.int .i64 ((0 : Nat) : Int)) := by
  refine PX_of_awp low_bits_Sar fol (by simp only [avmF, and_true]) (by simp only [avmF, and_true]) ?_
  simp only [ir_bits_Sar, initF, List.replicate, Nat.reduceAdd, Nat.reduceSub, iv, avmL]
  simp (maxSteps := 2000000) only [↓avm8, ↓avmW, avmD, avmL, avmO, avmR, avmN, avmM, wi64, csub, row_getD, row_reps, ↓reduceIte, decide_true, decide_false, true_imp_iff, Nat.reduceAdd, Nat.reduceMul, Nat.reduceSub, Nat.reduceLT, Nat.reduceLeDiff, Nat.reduceEqDiff, Nat.reducePow, Nat.min_eq_left, Nat.reduceMod, List.drop_zero, hn]
  refine ret_now ?_
  simp (maxSteps := 2000000) only [↓avm8, ↓avmW, avmD, avmL, avmO, avmR, avmN, avmM, wi64, csub, row_getD, row_reps, ↓reduceIte, decide_true, decide_false, true_imp_iff, Nat.reduceAdd, Nat.reduceMul, Nat.reduceSub, Nat.reduceLT, Nat.reduceLeDiff, Nat.reduceEqDiff, Nat.reducePow, Nat.min_eq_left, Nat.reduceMod, List.drop_zero]
theorem bits_Sar_neg (s : Int) (k : Nat) (h0 : 0 < k) (h1 : k < 64) : PX P G n_bits_Sar [.int .i64 s, .int .i64 (-(k : Int))] (.int .i64 (IntKind.i64.wrap (s * 2 ^ k))) := by
  refine PX_of_awp low_bits_Sar fol (by simp only [avmF, and_true]) (by simp only [avmF, and_true]) ?_
  have a1 : ¬ -(k : Int) ≤ -64 := by omega
  have a2 : -(k : Int) < 0 := by omega
  have a3 : -(k : Int) < ((0 : Nat) : Int) := by omega
  have a4 : IntKind.i64.wrap (- -(k : Int)) = (k : Int) := by rw [Int.neg_neg]; exact wi64_in (by omega) (by omega)
  have a4' : IntKind.i64.wrap (k : Int) = (k : Int) := wi64_in (by omega) (by omega)
  have a5 : min k 64 = k := by omega
  simp only [ir_bits_Sar, initF, List.replicate, Nat.reduceAdd, Nat.reduceSub, iv, avmL]
  simp (maxSteps := 2000000) only [↓avm8, ↓avmW, avmD, avmL, avmO, avmR, avmN, avmM, wi64, csub, row_getD, row_reps, ↓reduceIte, decide_true, decide_false, true_imp_iff, Nat.reduceAdd, Nat.reduceMul, Nat.reduceSub, Nat.reduceLT, Nat.reduceLeDiff, Nat.reduceEqDiff, Nat.reducePow, Nat.min_eq_left, Nat.reduceMod, List.drop_zero, a1, a2, a3, a4, a4', a5]
  refine ret_now ?_
  simp (maxSteps := 2000000) only [↓avm8, ↓avmW, avmD, avmL, avmO, avmR, avmN, avmM, wi64, csub, row_getD, row_reps, ↓reduceIte, decide_true, decide_false, true_imp_iff, Nat.reduceAdd, Nat.reduceMul, Nat.reduceSub, Nat.reduceLT, Nat.reduceLeDiff, Nat.reduceEqDiff, Nat.reducePow, Nat.min_eq_left, Nat.reduceMod, List.drop_zero]
theorem bits_Sar_pos (s : Int) (k : Nat) (hk : k ≤ 9223372036854775807) : PX P G n_bits_Sar [.int .i64 s, .int .i64 (k : Int)] (.int .i64 (s / 2 ^ (min k 63))) := by
  refine PX_of_awp low_bits_Sar fol (by simp only [avmF, and_true]) (by simp only [avmF, and_true]) ?_
  have a1 : ¬ (k : Int) ≤ -64 := by omega
  have a2 : ¬ k < 0 := by omega
  by_cases h : 63 < k
  · have a6 : ((63 : Nat) : Int) < (k : Int) := by omega
    have e : min k 63 = 63 := by omega
    rw [e]
    simp only [ir_bits_Sar, initF, List.replicate, Nat.reduceAdd, Nat.reduceSub, iv, avmL]
    simp (maxSteps := 2000000) only [↓avm8, ↓avmW, avmD, avmL, avmO, avmR, avmN, avmM, wi64, csub, row_getD, row_reps, ↓reduceIte, decide_true, decide_false, true_imp_iff, Nat.reduceAdd, Nat.reduceMul, Nat.reduceSub, Nat.reduceLT, Nat.reduceLeDiff, Nat.reduceEqDiff, Nat.reducePow, Nat.min_eq_left, Nat.reduceMod, List.drop_zero, a1, a2, h, a6]
    refine ret_now ?_
    simp (maxSteps := 2000000) only [↓avm8, ↓avmW, avmD, avmL, avmO, avmR, avmN, avmM, wi64, csub, row_getD, row_reps, ↓reduceIte, decide_true, decide_false, true_imp_iff, Nat.reduceAdd, Nat.reduceMul, Nat.reduceSub, Nat.reduceLT, Nat.reduceLeDiff, Nat.reduceEqDiff, Nat.reducePow, Nat.min_eq_left, Nat.reduceMod, List.drop_zero, fdiv_pow]
  · have a6 : ¬ ((63 : Nat) : Int) < (k : Int) := by omega
    have e : min k 63 = k := by omega
    have e' : min k 64 = k := by omega
    rw [e]
    simp only [ir_bits_Sar, initF, List.replicate, Nat.reduceAdd, Nat.reduceSub, iv, avmL]
    simp (maxSteps := 2000000) only [↓avm8, ↓avmW, avmD, avmL, avmO, avmR, avmN, avmM, wi64, csub, row_getD, row_reps, ↓reduceIte, decide_true, decide_false, true_imp_iff, Nat.reduceAdd, Nat.reduceMul, Nat.reduceSub, Nat.reduceLT, Nat.reduceLeDiff, Nat.reduceEqDiff, Nat.reducePow, Nat.min_eq_left, Nat.reduceMod, List.drop_zero, a1, a2, h, a6, e, e']
    refine ret_now ?_
    simp (maxSteps := 2000000) only [↓avm8, ↓avmW, avmD, avmL, avmO, avmR, avmN, avmM, wi64, csub, row_getD, row_reps, ↓reduceIte, decide_true, decide_false, true_imp_iff, Nat.reduceAdd, Nat.reduceMul, Nat.reduceSub, Nat.reduceLT, Nat.reduceLeDiff, Nat.reduceEqDiff, Nat.reducePow, Nat.min_eq_left, Nat.reduceMod, List.drop_zero, fdiv_pow]
end Va
