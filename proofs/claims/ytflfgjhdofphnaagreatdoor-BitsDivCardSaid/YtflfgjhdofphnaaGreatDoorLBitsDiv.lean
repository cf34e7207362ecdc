/- The law BitsDiv on trees: a quotient by its divisor and the rest is the number, in two words. -/
import Derived.Test.YtflfgjhdofphnaaGreatDoorBT3
import Derived.Test.YtflfgjhdofphnaaGreatDoorBg2
set_option linter.unusedSimpArgs false
set_option linter.unusedVariables false
set_option maxRecDepth 100000
set_option maxHeartbeats 4000000
open Go Go.Avm
namespace Va
def ir_law1_BitsDiv : IF := (.mk (.seq (.reg [⟨(some 6), (.mov (.v (.bool false))), none⟩]) (.seq (.reg [⟨(some 20), (.call n_law1_begun []), none⟩, ⟨(some 7), (.mov (.t 20)), none⟩]) (.seq (.seq (.reg [⟨(some 21), (.mov (.t 7)), none⟩, ⟨(some 22), (.not (.t 21)), none⟩]) (.cond (.t 22) (.seq (.reg [⟨(some 6), (.mov (.v (.bool false))), none⟩]) .ret) .skip)) (.seq (.seq (.reg [⟨(some 23), (.mov (.t 2)), none⟩, ⟨(some 24), (.bin .eql (.t 23) (.v (iv .u64 0))), none⟩]) (.cond (.t 24) (.seq (.reg [⟨(some 26), (.mov (.t 0)), none⟩, ⟨(some 27), (.mov (.t 1)), none⟩, ⟨(some 28), (.mov (.t 2)), none⟩, ⟨(some 29), (.call n_bits_Div [(.t 26), (.t 27), (.t 28)]), none⟩, ⟨(some 25), (.mov (.t 29)), none⟩, ⟨(some 30), (.ext (.t 25) 0), none⟩, ⟨(some 31), (.ext (.t 25) 1), none⟩, ⟨(some 32), (.ext (.t 25) 2), none⟩, ⟨(some 8), (.mov (.t 30)), none⟩, ⟨(some 9), (.mov (.t 31)), none⟩, ⟨(some 10), (.mov (.t 32)), none⟩]) (.seq (.reg [⟨(some 33), (.mov (.t 10)), none⟩, ⟨(some 34), (.not (.t 33)), none⟩, ⟨(some 6), (.mov (.t 34)), none⟩]) .ret)) .skip)) (.seq (.reg [⟨(some 35), (.mov (.t 0)), none⟩, ⟨(some 36), (.mov (.t 2)), none⟩, ⟨(some 37), (.bin .rem (.t 35) (.t 36)), none⟩, ⟨(some 0), (.mov (.t 37)), none⟩]) (.seq (.reg [⟨(some 39), (.mov (.t 0)), none⟩, ⟨(some 40), (.mov (.t 1)), none⟩, ⟨(some 41), (.mov (.t 2)), none⟩, ⟨(some 42), (.call n_bits_Div [(.t 39), (.t 40), (.t 41)]), none⟩, ⟨(some 38), (.mov (.t 42)), none⟩, ⟨(some 43), (.ext (.t 38) 0), none⟩, ⟨(some 44), (.ext (.t 38) 1), none⟩, ⟨(some 45), (.ext (.t 38) 2), none⟩, ⟨(some 11), (.mov (.t 43)), none⟩, ⟨(some 12), (.mov (.t 44)), none⟩, ⟨(some 13), (.mov (.t 45)), none⟩]) (.seq (.reg [⟨(some 47), (.mov (.t 11)), none⟩, ⟨(some 48), (.mov (.t 2)), none⟩, ⟨(some 49), (.call n_bits_Mul [(.t 47), (.t 48)]), none⟩, ⟨(some 46), (.mov (.t 49)), none⟩, ⟨(some 50), (.ext (.t 46) 0), none⟩, ⟨(some 51), (.ext (.t 46) 1), none⟩, ⟨(some 14), (.mov (.t 50)), none⟩, ⟨(some 15), (.mov (.t 51)), none⟩]) (.seq (.reg [⟨(some 53), (.mov (.t 15)), none⟩, ⟨(some 54), (.mov (.t 12)), none⟩, ⟨(some 55), (.call n_bits_Add [(.t 53), (.t 54), (.v (.bool false))]), none⟩, ⟨(some 52), (.mov (.t 55)), none⟩, ⟨(some 56), (.ext (.t 52) 0), none⟩, ⟨(some 57), (.ext (.t 52) 1), none⟩, ⟨(some 16), (.mov (.t 56)), none⟩, ⟨(some 17), (.mov (.t 57)), none⟩]) (.seq (.reg [⟨(some 59), (.mov (.t 14)), none⟩, ⟨(some 60), (.mov (.t 17)), none⟩, ⟨(some 61), (.call n_bits_Add [(.t 59), (.v (iv .u64 0)), (.t 60)]), none⟩, ⟨(some 58), (.mov (.t 61)), none⟩, ⟨(some 62), (.ext (.t 58) 0), none⟩, ⟨(some 63), (.ext (.t 58) 1), none⟩, ⟨(some 18), (.mov (.t 62)), none⟩, ⟨(some 19), (.mov (.t 63)), none⟩]) (.seq (.reg [⟨(some 64), (.mov (.t 13)), none⟩, ⟨(some 65), (.mov (.t 64)), none⟩, ⟨(some 66), (.mov (.t 12)), (some (65, true))⟩, ⟨(some 67), (.mov (.t 2)), (some (65, true))⟩, ⟨(some 68), (.bin .lss (.t 66) (.t 67)), (some (65, true))⟩, ⟨(some 69), (.pick (.t 65) (.t 68) (.v (.bool false))), none⟩, ⟨(some 70), (.mov (.t 69)), none⟩, ⟨(some 71), (.mov (.t 18)), (some (70, true))⟩, ⟨(some 72), (.mov (.t 0)), (some (70, true))⟩, ⟨(some 73), (.bin .eql (.t 71) (.t 72)), (some (70, true))⟩, ⟨(some 74), (.pick (.t 70) (.t 73) (.v (.bool false))), none⟩, ⟨(some 75), (.mov (.t 74)), none⟩, ⟨(some 76), (.mov (.t 16)), (some (75, true))⟩, ⟨(some 77), (.mov (.t 1)), (some (75, true))⟩, ⟨(some 78), (.bin .eql (.t 76) (.t 77)), (some (75, true))⟩, ⟨(some 79), (.pick (.t 75) (.t 78) (.v (.bool false))), none⟩, ⟨(some 6), (.mov (.t 79)), none⟩]) .ret)))))))))) [(.t 6)] 80)
theorem low_law1_BitsDiv : lowF P n_law1_BitsDiv = some ir_law1_BitsDiv := by kernel_rfl
variable {G : Glob}
theorem BitsDiv_px (hG : GOK G) (h l y : Nat) (hh : h < 18446744073709551616) (hl : l < 18446744073709551616) (hy : y < 18446744073709551616) : PX P G n_law1_BitsDiv [.int .u64 h, .int .u64 l, .int .u64 y] (.bool true) := by
  refine PX_of_awp low_law1_BitsDiv fol (by simp only [avmF, and_true]) (by simp only [avmF, and_true]) ?_
  simp only [ir_law1_BitsDiv, initF, List.replicate, Nat.reduceAdd, Nat.reduceSub, iv, avmL]
  simp (maxSteps := 2000000) (disch := omega) only [↓avm8, ↓avmW, avmD, avmL, avmO, avmR, avmN, avmM, wi64, csub, row_getD, row_reps, ↓reduceIte, decide_true, decide_false, true_imp_iff, Nat.reduceAdd, Nat.reduceMul, Nat.reduceSub, Nat.reduceLT, Nat.reduceLeDiff, Nat.reduceEqDiff, Nat.reducePow, Nat.min_eq_left, Nat.reduceMod, List.drop_zero]
  refine (begun_px hG).call ?_
  by_cases h0 : y = 0
  · subst h0
    simp (maxSteps := 2000000) (disch := omega) only [↓avm8, ↓avmW, avmD, avmL, avmO, avmR, avmN, avmM, wi64, csub, row_getD, row_reps, ↓reduceIte, decide_true, decide_false, true_imp_iff, Nat.reduceAdd, Nat.reduceMul, Nat.reduceSub, Nat.reduceLT, Nat.reduceLeDiff, Nat.reduceEqDiff, Nat.reducePow, Nat.min_eq_left, Nat.reduceMod, List.drop_zero]
    refine (bits_Div_no h l 0 (by omega)).call ?_
    simp (maxSteps := 2000000) (disch := omega) only [↓avm8, ↓avmW, avmD, avmL, avmO, avmR, avmN, avmM, wi64, csub, row_getD, row_reps, ↓reduceIte, decide_true, decide_false, true_imp_iff, Nat.reduceAdd, Nat.reduceMul, Nat.reduceSub, Nat.reduceLT, Nat.reduceLeDiff, Nat.reduceEqDiff, Nat.reducePow, Nat.min_eq_left, Nat.reduceMod, List.drop_zero]
    refine ret_now ?_
    simp (maxSteps := 2000000) (disch := omega) only [↓avm8, ↓avmW, avmD, avmL, avmO, avmR, avmN, avmM, wi64, csub, row_getD, row_reps, ↓reduceIte, decide_true, decide_false, true_imp_iff, Nat.reduceAdd, Nat.reduceMul, Nat.reduceSub, Nat.reduceLT, Nat.reduceLeDiff, Nat.reduceEqDiff, Nat.reducePow, Nat.min_eq_left, Nat.reduceMod, List.drop_zero]
  have hm : h % y < y := Nat.mod_lt _ (by omega)
  have hD := bits_Div_px (G := G) (h % y) l y hm hl hy
  have hM := bits_Mul_px (G := G) ((h % y * 18446744073709551616 + l) / y) y (by
    refine Nat.div_lt_of_lt_mul ?_
    omega) hy
  have hr := Nat.mod_lt (h % y * 18446744073709551616 + l) (y := y) (by omega)
  have hq := Nat.div_add_mod' (h % y * 18446744073709551616 + l) y
  obtain ⟨q, hq1⟩ : ∃ q, q = (h % y * 18446744073709551616 + l) / y := ⟨_, rfl⟩
  obtain ⟨r, hr1⟩ : ∃ r, r = (h % y * 18446744073709551616 + l) % y := ⟨_, rfl⟩
  rw [← hq1, ← hr1] at hD hq
  rw [← hq1] at hM
  rw [← hr1] at hr
  clear hq1 hr1
  obtain ⟨m, hm1⟩ : ∃ m, m = h % y := ⟨_, rfl⟩
  rw [← hm1] at hD hq hm
  have hA1 := bits_Add_px (G := G) (q * y % 18446744073709551616) r false (Nat.mod_lt _ (by decide)) (by omega)
  have hA2 := bits_Add_px (G := G) (q * y / 18446744073709551616) 0 (decide (18446744073709551616 ≤ q * y % 18446744073709551616 + r + false.toNat)) (by
    refine Nat.div_lt_of_lt_mul ?_
    omega) (by decide)
  have e1 : (q * y % 18446744073709551616 + r + false.toNat) % 18446744073709551616 = l := by
    simp only [Bool.toNat_false]; generalize q * y = z at *; omega
  have e2 : (q * y / 18446744073709551616 + 0 + (decide (18446744073709551616 ≤ q * y % 18446744073709551616 + r + false.toNat)).toNat) % 18446744073709551616 = m := by
    simp only [Bool.toNat_false]
    generalize q * y = z at *
    by_cases c : 18446744073709551616 ≤ z % 18446744073709551616 + r + 0
    · simp only [decide_eq_true c, Bool.toNat_true]; omega
    · simp only [decide_eq_false c, Bool.toNat_false]; omega
  rw [e1] at hA1
  rw [e2] at hA2
  clear e1 e2 hq
  simp (maxSteps := 2000000) (disch := omega) only [↓avm8, ↓avmW, avmD, avmL, avmO, avmR, avmN, avmM, wi64, csub, row_getD, row_reps, ↓reduceIte, decide_true, decide_false, true_imp_iff, Nat.reduceAdd, Nat.reduceMul, Nat.reduceSub, Nat.reduceLT, Nat.reduceLeDiff, Nat.reduceEqDiff, Nat.reducePow, Nat.min_eq_left, Nat.reduceMod, List.drop_zero, decide_eq_false h0, h0, ← hm1]
  refine ⟨h0, hD.call ?_⟩
  simp (maxSteps := 2000000) (disch := omega) only [↓avm8, ↓avmW, avmD, avmL, avmO, avmR, avmN, avmM, wi64, csub, row_getD, row_reps, ↓reduceIte, decide_true, decide_false, true_imp_iff, Nat.reduceAdd, Nat.reduceMul, Nat.reduceSub, Nat.reduceLT, Nat.reduceLeDiff, Nat.reduceEqDiff, Nat.reducePow, Nat.min_eq_left, Nat.reduceMod, List.drop_zero, ← hm1]
  refine hM.call ?_
  simp (maxSteps := 2000000) (disch := omega) only [↓avm8, ↓avmW, avmD, avmL, avmO, avmR, avmN, avmM, wi64, csub, row_getD, row_reps, ↓reduceIte, decide_true, decide_false, true_imp_iff, Nat.reduceAdd, Nat.reduceMul, Nat.reduceSub, Nat.reduceLT, Nat.reduceLeDiff, Nat.reduceEqDiff, Nat.reducePow, Nat.min_eq_left, Nat.reduceMod, List.drop_zero, ← hm1]
  refine hA1.call ?_
  simp (maxSteps := 2000000) (disch := omega) only [↓avm8, ↓avmW, avmD, avmL, avmO, avmR, avmN, avmM, wi64, csub, row_getD, row_reps, ↓reduceIte, decide_true, decide_false, true_imp_iff, Nat.reduceAdd, Nat.reduceMul, Nat.reduceSub, Nat.reduceLT, Nat.reduceLeDiff, Nat.reduceEqDiff, Nat.reducePow, Nat.min_eq_left, Nat.reduceMod, List.drop_zero, ← hm1]
  refine hA2.call ?_
  simp (maxSteps := 2000000) (disch := omega) only [↓avm8, ↓avmW, avmD, avmL, avmO, avmR, avmN, avmM, wi64, csub, row_getD, row_reps, ↓reduceIte, decide_true, decide_false, true_imp_iff, Nat.reduceAdd, Nat.reduceMul, Nat.reduceSub, Nat.reduceLT, Nat.reduceLeDiff, Nat.reduceEqDiff, Nat.reducePow, Nat.min_eq_left, Nat.reduceMod, List.drop_zero, ← hm1, decide_eq_true hr]
  refine ret_now ?_
  simp (maxSteps := 2000000) (disch := omega) only [↓avm8, ↓avmW, avmD, avmL, avmO, avmR, avmN, avmM, wi64, csub, row_getD, row_reps, ↓reduceIte, decide_true, decide_false, true_imp_iff, Nat.reduceAdd, Nat.reduceMul, Nat.reduceSub, Nat.reduceLT, Nat.reduceLeDiff, Nat.reduceEqDiff, Nat.reducePow, Nat.min_eq_left, Nat.reduceMod, List.drop_zero, ← hm1]
end Va
