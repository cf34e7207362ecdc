/- The law BitsShift on trees: shifts of any width, either way, with and without a sign. -/
import Derived.Test.YtflfgjhdofphnaaGreatDoorRB3
import Derived.Test.YtflfgjhdofphnaaGreatDoorBG
set_option linter.unusedSimpArgs false
set_option linter.unusedVariables false
set_option maxRecDepth 100000
set_option maxHeartbeats 4000000
open Go Go.Avm
namespace Va
def ir_law1_BitsShift : IF := (.mk (.seq (.reg [⟨(some 4), (.mov (.v (.bool false))), none⟩]) (.seq (.reg [⟨(some 10), (.call n_law1_begun []), none⟩, ⟨(some 5), (.mov (.t 10)), none⟩]) (.seq (.seq (.reg [⟨(some 11), (.mov (.t 5)), none⟩, ⟨(some 12), (.not (.t 11)), none⟩]) (.cond (.t 12) (.seq (.reg [⟨(some 4), (.mov (.v (.bool false))), none⟩]) .ret) .skip)) (.seq (.reg [⟨(some 13), (.mov (.t 0)), none⟩, ⟨(some 14), (.conv .i64 (.t 13)), none⟩, ⟨(some 6), (.mov (.t 14)), none⟩]) (.seq (.reg [⟨(some 15), (.mov (.t 6)), none⟩, ⟨(some 16), (.bin .lss (.t 15) (.v (iv .i64 0))), none⟩, ⟨(some 7), (.mov (.t 16)), none⟩]) (.seq (.reg [⟨(some 17), (.mov (.t 0)), none⟩, ⟨(some 18), (.mov (.t 1)), none⟩, ⟨(some 19), (.call n_ref1_Move [(.t 17), (.t 18), (.v (.bool false))]), none⟩, ⟨(some 8), (.mov (.t 19)), none⟩]) (.seq (.reg [⟨(some 20), (.mov (.t 0)), none⟩, ⟨(some 21), (.mov (.t 1)), none⟩, ⟨(some 22), (.max (.t 21) (.v (.int .i64 (-100)))), none⟩, ⟨(some 23), (.neg (.t 22)), none⟩, ⟨(some 24), (.mov (.t 7)), none⟩, ⟨(some 25), (.call n_ref1_Move [(.t 20), (.t 23), (.t 24)]), none⟩, ⟨(some 9), (.mov (.t 25)), none⟩]) (.seq (.seq (.reg [⟨(some 26), (.mov (.t 1)), none⟩, ⟨(some 27), (.bin .lss (.t 26) (.v (iv .i64 0))), none⟩]) (.cond (.t 27) (.reg [⟨(some 28), (.mov (.t 0)), none⟩, ⟨(some 29), (.mov (.t 1)), none⟩, ⟨(some 30), (.max (.t 29) (.v (.int .i64 (-100)))), none⟩, ⟨(some 31), (.neg (.t 30)), none⟩, ⟨(some 32), (.call n_ref1_Move [(.t 28), (.t 31), (.v (.bool false))]), none⟩, ⟨(some 9), (.mov (.t 32)), none⟩]) .skip)) (.seq (.reg [⟨(some 33), (.mov (.t 0)), none⟩, ⟨(some 34), (.mov (.t 1)), none⟩, ⟨(some 35), (.call n_bits_Shl [(.t 33), (.t 34)]), none⟩, ⟨(some 36), (.mov (.t 8)), none⟩, ⟨(some 37), (.bin .eql (.t 35) (.t 36)), none⟩, ⟨(some 38), (.mov (.t 37)), none⟩, ⟨(some 39), (.mov (.t 0)), (some (38, true))⟩, ⟨(some 40), (.mov (.t 1)), (some (38, true))⟩, ⟨(some 41), (.call n_bits_Shr [(.t 39), (.t 40)]), (some (38, true))⟩, ⟨(some 42), (.mov (.t 0)), (some (38, true))⟩, ⟨(some 43), (.mov (.t 1)), (some (38, true))⟩, ⟨(some 44), (.max (.t 43) (.v (.int .i64 (-100)))), (some (38, true))⟩, ⟨(some 45), (.neg (.t 44)), (some (38, true))⟩, ⟨(some 46), (.call n_ref1_Move [(.t 42), (.t 45), (.v (.bool false))]), (some (38, true))⟩, ⟨(some 47), (.bin .eql (.t 41) (.t 46)), (some (38, true))⟩, ⟨(some 48), (.pick (.t 38) (.t 47) (.v (.bool false))), none⟩, ⟨(some 49), (.mov (.t 48)), none⟩, ⟨(some 50), (.mov (.t 6)), (some (49, true))⟩, ⟨(some 51), (.mov (.t 1)), (some (49, true))⟩, ⟨(some 52), (.call n_bits_Sar [(.t 50), (.t 51)]), (some (49, true))⟩, ⟨(some 53), (.conv .u64 (.t 52)), (some (49, true))⟩, ⟨(some 54), (.mov (.t 9)), (some (49, true))⟩, ⟨(some 55), (.bin .eql (.t 53) (.t 54)), (some (49, true))⟩, ⟨(some 56), (.pick (.t 49) (.t 55) (.v (.bool false))), none⟩, ⟨(some 57), (.mov (.t 56)), none⟩, ⟨(some 58), (.mov (.t 0)), (some (57, true))⟩, ⟨(some 59), (.call n_bits_Len [(.t 58)]), (some (57, true))⟩, ⟨(some 60), (.mov (.t 0)), (some (57, true))⟩, ⟨(some 61), (.call n_ref1_Len [(.t 60)]), (some (57, true))⟩, ⟨(some 62), (.bin .eql (.t 59) (.t 61)), (some (57, true))⟩, ⟨(some 63), (.pick (.t 57) (.t 62) (.v (.bool false))), none⟩, ⟨(some 64), (.mov (.t 63)), none⟩, ⟨(some 65), (.mov (.t 0)), (some (64, true))⟩, ⟨(some 66), (.call n_bits_Zeros [(.t 65)]), (some (64, true))⟩, ⟨(some 67), (.mov (.t 0)), (some (64, true))⟩, ⟨(some 68), (.call n_ref1_Zeros [(.t 67)]), (some (64, true))⟩, ⟨(some 69), (.bin .eql (.t 66) (.t 68)), (some (64, true))⟩, ⟨(some 70), (.pick (.t 64) (.t 69) (.v (.bool false))), none⟩, ⟨(some 4), (.mov (.t 70)), none⟩]) .ret))))))))) [(.t 4)] 71)
theorem low_law1_BitsShift : lowF P n_law1_BitsShift = some ir_law1_BitsShift := by kernel_rfl
variable {G : Glob}
/-- How far down, for the reference. -/
def lowN (n : Int) : Int := -(if n < -100 then -100 else n)
theorem mv_low {x : Nat} {n : Int} (hx : x < 18446744073709551616) : wordv (bitsF (mvb x (lowN n) false)) = shlW x (-n) := by
  rw [mv_false _ hx]
  unfold lowN
  split
  · next h =>
    have e : ∀ m : Int, 64 ≤ m → shlW x m = 0 := fun m hm => by rw [shlW, if_neg (by omega), shl_w (by omega)]
    rw [e _ (by omega), e _ (by omega)]
  · rfl
theorem sgn_cases (x : Nat) (hx : x < 18446744073709551616) : (x < 9223372036854775808 ∧ IntKind.i64.wrap (x : Int) = (x : Int)) ∨ (9223372036854775808 ≤ x ∧ IntKind.i64.wrap (x : Int) = (x : Int) - 18446744073709551616) := by
  simp only [IntKind.wrap, IntKind.signed, IntKind.bits, Bool.true_and]
  simp
  split <;> omega
theorem wi64_eq' (n : Int) : ∃ t : Int, IntKind.i64.wrap n = n + 18446744073709551616 * t := by
  simp only [IntKind.wrap, IntKind.signed, IntKind.bits, Bool.true_and]
  simp
  split
  · exact ⟨-(n / 18446744073709551616) - 1, by omega⟩
  · exact ⟨-(n / 18446744073709551616), by omega⟩
theorem u64_of (m : Nat) (z t : Int) (h : z = (m : Int) + 18446744073709551616 * t) (hm : m < 18446744073709551616) : IntKind.u64.wrap z = (m : Int) := by
  simp only [IntKind.wrap, IntKind.signed, IntKind.bits, Bool.false_and]
  simp
  omega
theorem shift_core (hG : GOK G) (x : Nat) (n s r : Int) (fill : Bool) (sar : Nat) (hx : x < 18446744073709551616) (hn : -9223372036854775808 ≤ n ∧ n ≤ 9223372036854775807)
    (hsw : IntKind.i64.wrap (x : Int) = s) (hf : decide (s < ((0 : Nat) : Int)) = fill) (hS : PX P G n_bits_Sar [.int .i64 s, .int .i64 n] (.int .i64 r)) (hr : IntKind.u64.wrap r = (sar : Int))
    (h1 : n < 0 → sar = shlW x (-n)) (h2 : ¬ n < 0 → sar = wordv (bitsF (mvb x (lowN n) fill))) : PX P G n_law1_BitsShift [.int .u64 x, .int .i64 n] (.bool true) := by
  refine PX_of_awp low_law1_BitsShift fol (by simp only [avmF, and_true]) (by simp only [avmF, and_true]) ?_
  have hM := fun m f => ref_Move_px (G := G) x m f hx
  have hmx : (if (-100 : Int) > n then (-100 : Int) else n) = -lowN n := by unfold lowN; rw [Int.neg_neg]
  have hlow : IntKind.i64.wrap (- -lowN n) = lowN n := by rw [Int.neg_neg]; unfold lowN; split <;> exact wi64_in (by omega) (by omega)
  have hL := mv_low (n := n) hx
  have hU := mv_false n hx
  have hsl := bits_Shl_px (G := G) x n hx hn
  have hsr : PX P G n_bits_Shr [.int .u64 x, .int .i64 n] (.int .u64 ((shlW x (-n) : Nat) : Int)) := by
    by_cases h : n ≤ -64
    · have e : shlW x (-n) = 0 := by rw [shlW, if_neg (by omega), shl_w (by omega)]
      rw [e]; exact bits_Shr_low x n h
    · exact bits_Shr_px x n hx (by omega)
  have hlen := bits_Len_px (G := G) x hx
  have hrlen := ref_Len_px (G := G) x hx
  have hz := bits_Zeros_px (G := G) x hx
  have hrz := ref_Zeros_px (G := G) x hx
  simp only [ir_law1_BitsShift, initF, List.replicate, Nat.reduceAdd, Nat.reduceSub, iv, avmL]
  simp (maxSteps := 2000000) only [↓avm8, ↓avmW, avmD, avmL, avmO, avmR, avmN, avmM, wi64, csub, row_getD, row_reps, ↓reduceIte, decide_true, decide_false, true_imp_iff, Nat.reduceAdd, Nat.reduceMul, Nat.reduceSub, Nat.reduceLT, Nat.reduceLeDiff, Nat.reduceEqDiff, Nat.reducePow, Nat.min_eq_left, Nat.reduceMod, List.drop_zero, hsw, hf]
  refine (begun_px hG).call ?_
  simp (maxSteps := 2000000) only [↓avm8, ↓avmW, avmD, avmL, avmO, avmR, avmN, avmM, wi64, csub, row_getD, row_reps, ↓reduceIte, decide_true, decide_false, true_imp_iff, Nat.reduceAdd, Nat.reduceMul, Nat.reduceSub, Nat.reduceLT, Nat.reduceLeDiff, Nat.reduceEqDiff, Nat.reducePow, Nat.min_eq_left, Nat.reduceMod, List.drop_zero, hsw, hf]
  refine (hM _ _).call ?_
  simp (maxSteps := 2000000) only [↓avm8, ↓avmW, avmD, avmL, avmO, avmR, avmN, avmM, wi64, csub, row_getD, row_reps, ↓reduceIte, decide_true, decide_false, true_imp_iff, Nat.reduceAdd, Nat.reduceMul, Nat.reduceSub, Nat.reduceLT, Nat.reduceLeDiff, Nat.reduceEqDiff, Nat.reducePow, Nat.min_eq_left, Nat.reduceMod, List.drop_zero, hmx, hlow]
  refine (hM _ _).call ?_
  simp (maxSteps := 2000000) only [↓avm8, ↓avmW, avmD, avmL, avmO, avmR, avmN, avmM, wi64, csub, row_getD, row_reps, ↓reduceIte, decide_true, decide_false, true_imp_iff, Nat.reduceAdd, Nat.reduceMul, Nat.reduceSub, Nat.reduceLT, Nat.reduceLeDiff, Nat.reduceEqDiff, Nat.reducePow, Nat.min_eq_left, Nat.reduceMod, List.drop_zero, hU]
  by_cases h0 : n < 0
  · have e := h1 h0
    have h0' : n < ((0 : Nat) : Int) := h0
    simp (maxSteps := 2000000) only [↓avm8, ↓avmW, avmD, avmL, avmO, avmR, avmN, avmM, wi64, csub, row_getD, row_reps, ↓reduceIte, decide_true, decide_false, true_imp_iff, Nat.reduceAdd, Nat.reduceMul, Nat.reduceSub, Nat.reduceLT, Nat.reduceLeDiff, Nat.reduceEqDiff, Nat.reducePow, Nat.min_eq_left, Nat.reduceMod, List.drop_zero, h0, h0', hmx, hlow]
    refine (hM _ _).call ?_
    simp (maxSteps := 2000000) only [↓avm8, ↓avmW, avmD, avmL, avmO, avmR, avmN, avmM, wi64, csub, row_getD, row_reps, ↓reduceIte, decide_true, decide_false, true_imp_iff, Nat.reduceAdd, Nat.reduceMul, Nat.reduceSub, Nat.reduceLT, Nat.reduceLeDiff, Nat.reduceEqDiff, Nat.reducePow, Nat.min_eq_left, Nat.reduceMod, List.drop_zero, hL]
    refine hsl.call ?_
    simp (maxSteps := 2000000) only [↓avm8, ↓avmW, avmD, avmL, avmO, avmR, avmN, avmM, wi64, csub, row_getD, row_reps, ↓reduceIte, decide_true, decide_false, true_imp_iff, Nat.reduceAdd, Nat.reduceMul, Nat.reduceSub, Nat.reduceLT, Nat.reduceLeDiff, Nat.reduceEqDiff, Nat.reducePow, Nat.min_eq_left, Nat.reduceMod, List.drop_zero]
    refine hsr.call ?_
    simp (maxSteps := 2000000) only [↓avm8, ↓avmW, avmD, avmL, avmO, avmR, avmN, avmM, wi64, csub, row_getD, row_reps, ↓reduceIte, decide_true, decide_false, true_imp_iff, Nat.reduceAdd, Nat.reduceMul, Nat.reduceSub, Nat.reduceLT, Nat.reduceLeDiff, Nat.reduceEqDiff, Nat.reducePow, Nat.min_eq_left, Nat.reduceMod, List.drop_zero, hmx, hlow]
    refine (hM _ _).call ?_
    simp (maxSteps := 2000000) only [↓avm8, ↓avmW, avmD, avmL, avmO, avmR, avmN, avmM, wi64, csub, row_getD, row_reps, ↓reduceIte, decide_true, decide_false, true_imp_iff, Nat.reduceAdd, Nat.reduceMul, Nat.reduceSub, Nat.reduceLT, Nat.reduceLeDiff, Nat.reduceEqDiff, Nat.reducePow, Nat.min_eq_left, Nat.reduceMod, List.drop_zero, hL]
    refine hS.call ?_
    simp (maxSteps := 2000000) only [↓avm8, ↓avmW, avmD, avmL, avmO, avmR, avmN, avmM, wi64, csub, row_getD, row_reps, ↓reduceIte, decide_true, decide_false, true_imp_iff, Nat.reduceAdd, Nat.reduceMul, Nat.reduceSub, Nat.reduceLT, Nat.reduceLeDiff, Nat.reduceEqDiff, Nat.reducePow, Nat.min_eq_left, Nat.reduceMod, List.drop_zero, hr, e]
    refine hlen.call ?_
    simp (maxSteps := 2000000) only [↓avm8, ↓avmW, avmD, avmL, avmO, avmR, avmN, avmM, wi64, csub, row_getD, row_reps, ↓reduceIte, decide_true, decide_false, true_imp_iff, Nat.reduceAdd, Nat.reduceMul, Nat.reduceSub, Nat.reduceLT, Nat.reduceLeDiff, Nat.reduceEqDiff, Nat.reducePow, Nat.min_eq_left, Nat.reduceMod, List.drop_zero]
    refine hrlen.call ?_
    simp (maxSteps := 2000000) only [↓avm8, ↓avmW, avmD, avmL, avmO, avmR, avmN, avmM, wi64, csub, row_getD, row_reps, ↓reduceIte, decide_true, decide_false, true_imp_iff, Nat.reduceAdd, Nat.reduceMul, Nat.reduceSub, Nat.reduceLT, Nat.reduceLeDiff, Nat.reduceEqDiff, Nat.reducePow, Nat.min_eq_left, Nat.reduceMod, List.drop_zero]
    refine hz.call ?_
    simp (maxSteps := 2000000) only [↓avm8, ↓avmW, avmD, avmL, avmO, avmR, avmN, avmM, wi64, csub, row_getD, row_reps, ↓reduceIte, decide_true, decide_false, true_imp_iff, Nat.reduceAdd, Nat.reduceMul, Nat.reduceSub, Nat.reduceLT, Nat.reduceLeDiff, Nat.reduceEqDiff, Nat.reducePow, Nat.min_eq_left, Nat.reduceMod, List.drop_zero]
    refine hrz.call ?_
    simp (maxSteps := 2000000) only [↓avm8, ↓avmW, avmD, avmL, avmO, avmR, avmN, avmM, wi64, csub, row_getD, row_reps, ↓reduceIte, decide_true, decide_false, true_imp_iff, Nat.reduceAdd, Nat.reduceMul, Nat.reduceSub, Nat.reduceLT, Nat.reduceLeDiff, Nat.reduceEqDiff, Nat.reducePow, Nat.min_eq_left, Nat.reduceMod, List.drop_zero]
    refine ret_now ?_
    simp (maxSteps := 2000000) only [↓avm8, ↓avmW, avmD, avmL, avmO, avmR, avmN, avmM, wi64, csub, row_getD, row_reps, ↓reduceIte, decide_true, decide_false, true_imp_iff, Nat.reduceAdd, Nat.reduceMul, Nat.reduceSub, Nat.reduceLT, Nat.reduceLeDiff, Nat.reduceEqDiff, Nat.reducePow, Nat.min_eq_left, Nat.reduceMod, List.drop_zero]
  · have e := h2 h0
    have h0' : ¬ n < ((0 : Nat) : Int) := h0
    simp (maxSteps := 2000000) only [↓avm8, ↓avmW, avmD, avmL, avmO, avmR, avmN, avmM, wi64, csub, row_getD, row_reps, ↓reduceIte, decide_true, decide_false, true_imp_iff, Nat.reduceAdd, Nat.reduceMul, Nat.reduceSub, Nat.reduceLT, Nat.reduceLeDiff, Nat.reduceEqDiff, Nat.reducePow, Nat.min_eq_left, Nat.reduceMod, List.drop_zero, h0, h0', hmx, hlow]
    refine hsl.call ?_
    simp (maxSteps := 2000000) only [↓avm8, ↓avmW, avmD, avmL, avmO, avmR, avmN, avmM, wi64, csub, row_getD, row_reps, ↓reduceIte, decide_true, decide_false, true_imp_iff, Nat.reduceAdd, Nat.reduceMul, Nat.reduceSub, Nat.reduceLT, Nat.reduceLeDiff, Nat.reduceEqDiff, Nat.reducePow, Nat.min_eq_left, Nat.reduceMod, List.drop_zero]
    refine hsr.call ?_
    simp (maxSteps := 2000000) only [↓avm8, ↓avmW, avmD, avmL, avmO, avmR, avmN, avmM, wi64, csub, row_getD, row_reps, ↓reduceIte, decide_true, decide_false, true_imp_iff, Nat.reduceAdd, Nat.reduceMul, Nat.reduceSub, Nat.reduceLT, Nat.reduceLeDiff, Nat.reduceEqDiff, Nat.reducePow, Nat.min_eq_left, Nat.reduceMod, List.drop_zero, hmx, hlow]
    refine (hM _ _).call ?_
    simp (maxSteps := 2000000) only [↓avm8, ↓avmW, avmD, avmL, avmO, avmR, avmN, avmM, wi64, csub, row_getD, row_reps, ↓reduceIte, decide_true, decide_false, true_imp_iff, Nat.reduceAdd, Nat.reduceMul, Nat.reduceSub, Nat.reduceLT, Nat.reduceLeDiff, Nat.reduceEqDiff, Nat.reducePow, Nat.min_eq_left, Nat.reduceMod, List.drop_zero, hL]
    refine hS.call ?_
    simp (maxSteps := 2000000) only [↓avm8, ↓avmW, avmD, avmL, avmO, avmR, avmN, avmM, wi64, csub, row_getD, row_reps, ↓reduceIte, decide_true, decide_false, true_imp_iff, Nat.reduceAdd, Nat.reduceMul, Nat.reduceSub, Nat.reduceLT, Nat.reduceLeDiff, Nat.reduceEqDiff, Nat.reducePow, Nat.min_eq_left, Nat.reduceMod, List.drop_zero, hr, e]
    refine hlen.call ?_
    simp (maxSteps := 2000000) only [↓avm8, ↓avmW, avmD, avmL, avmO, avmR, avmN, avmM, wi64, csub, row_getD, row_reps, ↓reduceIte, decide_true, decide_false, true_imp_iff, Nat.reduceAdd, Nat.reduceMul, Nat.reduceSub, Nat.reduceLT, Nat.reduceLeDiff, Nat.reduceEqDiff, Nat.reducePow, Nat.min_eq_left, Nat.reduceMod, List.drop_zero]
    refine hrlen.call ?_
    simp (maxSteps := 2000000) only [↓avm8, ↓avmW, avmD, avmL, avmO, avmR, avmN, avmM, wi64, csub, row_getD, row_reps, ↓reduceIte, decide_true, decide_false, true_imp_iff, Nat.reduceAdd, Nat.reduceMul, Nat.reduceSub, Nat.reduceLT, Nat.reduceLeDiff, Nat.reduceEqDiff, Nat.reducePow, Nat.min_eq_left, Nat.reduceMod, List.drop_zero]
    refine hz.call ?_
    simp (maxSteps := 2000000) only [↓avm8, ↓avmW, avmD, avmL, avmO, avmR, avmN, avmM, wi64, csub, row_getD, row_reps, ↓reduceIte, decide_true, decide_false, true_imp_iff, Nat.reduceAdd, Nat.reduceMul, Nat.reduceSub, Nat.reduceLT, Nat.reduceLeDiff, Nat.reduceEqDiff, Nat.reducePow, Nat.min_eq_left, Nat.reduceMod, List.drop_zero]
    refine hrz.call ?_
    simp (maxSteps := 2000000) only [↓avm8, ↓avmW, avmD, avmL, avmO, avmR, avmN, avmM, wi64, csub, row_getD, row_reps, ↓reduceIte, decide_true, decide_false, true_imp_iff, Nat.reduceAdd, Nat.reduceMul, Nat.reduceSub, Nat.reduceLT, Nat.reduceLeDiff, Nat.reduceEqDiff, Nat.reducePow, Nat.min_eq_left, Nat.reduceMod, List.drop_zero]
    refine ret_now ?_
    simp (maxSteps := 2000000) only [↓avm8, ↓avmW, avmD, avmL, avmO, avmR, avmN, avmM, wi64, csub, row_getD, row_reps, ↓reduceIte, decide_true, decide_false, true_imp_iff, Nat.reduceAdd, Nat.reduceMul, Nat.reduceSub, Nat.reduceLT, Nat.reduceLeDiff, Nat.reduceEqDiff, Nat.reducePow, Nat.min_eq_left, Nat.reduceMod, List.drop_zero]
theorem BitsShift_px (hG : GOK G) (x : Nat) (n : Int) (hx : x < 18446744073709551616) (hn : -9223372036854775808 ≤ n ∧ n ≤ 9223372036854775807) : PX P G n_law1_BitsShift [.int .u64 x, .int .i64 n] (.bool true) := by
  have hs := sgn_cases x hx
  obtain ⟨s, hsw⟩ : ∃ s, IntKind.i64.wrap (x : Int) = s := ⟨_, rfl⟩
  rw [hsw] at hs
  obtain ⟨d, hd⟩ : ∃ d : Int, s = (x : Int) + 18446744073709551616 * d := by
    rcases hs with h | h
    · exact ⟨0, by omega⟩
    · exact ⟨-1, by omega⟩
  by_cases h0 : n < 0
  · by_cases h1 : n ≤ -64
    · refine shift_core hG x n s _ _ 0 hx hn hsw rfl (bits_Sar_low s n h1) rfl (fun _ => ?_) (fun h => absurd h0 h)
      rw [shlW, if_neg (by omega), shl_w (by omega)]
    · obtain ⟨k, rfl⟩ : ∃ k : Nat, n = -(k : Int) := ⟨(-n).toNat, by omega⟩
      obtain ⟨t, ht⟩ := wi64_eq' (s * 2 ^ k)
      refine shift_core hG x _ s _ _ (x * 2 ^ k % 18446744073709551616) hx hn hsw rfl (bits_Sar_neg s k (by omega) (by omega)) ?_ (fun _ => ?_) (fun h => absurd h0 h)
      · refine u64_of _ _ (t + d * 2 ^ k + ((x * 2 ^ k / 18446744073709551616 : Nat) : Int)) ?_ (Nat.mod_lt _ (by decide))
        rw [ht, hd]
        have hm := Nat.mod_add_div (x * 2 ^ k) 18446744073709551616
        have hm' : ((x * 2 ^ k % 18446744073709551616 : Nat) : Int) + 18446744073709551616 * ((x * 2 ^ k / 18446744073709551616 : Nat) : Int) = (x : Int) * 2 ^ k := by
          have := congrArg (fun n : Nat => (n : Int)) hm
          simpa using this
        rw [Int.add_mul, ← hm', Int.mul_add, Int.mul_add, Int.mul_assoc]
        omega
      · rw [Int.neg_neg, shlW, if_neg (by omega)]; rfl
  · obtain ⟨k, rfl⟩ : ∃ k : Nat, n = (k : Int) := ⟨n.toNat, by omega⟩
    have hlow : lowN (k : Int) = -(k : Int) := by unfold lowN; rw [if_neg (by omega)]
    rcases hs with ⟨h1, h2⟩ | ⟨h1, h2⟩
    · have hf : decide (s < ((0 : Nat) : Int)) = false := decide_eq_false (by omega)
      refine shift_core hG x _ s _ _ (x / 2 ^ (min k 63)) hx hn hsw hf (bits_Sar_pos s k (by omega)) ?_ (fun h => absurd h h0) (fun _ => ?_)
      · have e : s / 2 ^ (min k 63) = ((x / 2 ^ (min k 63) : Nat) : Int) := by rw [h2]; simp
        have hle : x / 2 ^ (min k 63) ≤ x := Nat.div_le_self _ _
        rw [e]
        exact u64_of _ _ 0 (by simp) (Nat.lt_of_le_of_lt hle hx)
      · rw [hlow, mv_sar_pos k h1]
    · obtain ⟨c, hc⟩ : ∃ c : Nat, x + c = 18446744073709551615 := ⟨18446744073709551615 - x, by omega⟩
      have hc2 : c < 9223372036854775808 := by omega
      have hf : decide (s < ((0 : Nat) : Int)) = true := decide_eq_true (by omega)
      refine shift_core hG x _ s _ _ (18446744073709551615 - c / 2 ^ (min k 63)) hx hn hsw hf (bits_Sar_pos s k (by omega)) ?_ (fun h => absurd h h0) (fun _ => ?_)
      · have hle : c / 2 ^ (min k 63) ≤ c := Nat.div_le_self _ _
        have e : s / 2 ^ (min k 63) = -((c / 2 ^ (min k 63) : Nat) : Int) - 1 := by
          have hp : 0 < 2 ^ (min k 63) := Nat.pow_pos (by decide)
          have es : s = Int.negSucc c := by omega
          rw [es, show ((2 : Int) ^ (min k 63)) = ((2 ^ (min k 63) : Nat) : Int) by simp]
          generalize 2 ^ (min k 63) = p at *
          obtain ⟨q, rfl⟩ : ∃ q, p = q + 1 := ⟨p - 1, by omega⟩
          show Int.negSucc (c / (q + 1)) = _
          omega
        rw [e]
        generalize c / 2 ^ (min k 63) = z at *
        exact u64_of _ _ (-1) (by omega) (by omega)
      · rw [hlow, mv_sar_neg k hc hc2]
end Va
