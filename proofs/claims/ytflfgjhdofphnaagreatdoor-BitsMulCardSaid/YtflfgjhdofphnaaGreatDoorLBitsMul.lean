/- The law BitsMul on trees: products of two words, and quotients of two by one. -/
import Derived.Test.YtflfgjhdofphnaaGreatDoorBA
import Derived.Test.YtflfgjhdofphnaaGreatDoorRA
import Derived.Test.YtflfgjhdofphnaaGreatDoorBG
set_option linter.unusedSimpArgs false
set_option linter.unusedVariables false
set_option maxRecDepth 100000
set_option maxHeartbeats 4000000
open Go Go.Avm
namespace Va
def ir_law1_BitsMul : IF := (.mk (.seq (.reg [⟨(some 6), (.mov (.v (.bool false))), none⟩]) (.seq (.reg [⟨(some 17), (.call n_law1_begun []), none⟩, ⟨(some 7), (.mov (.t 17)), none⟩]) (.seq (.seq (.reg [⟨(some 18), (.mov (.t 7)), none⟩, ⟨(some 19), (.not (.t 18)), none⟩]) (.cond (.t 19) (.seq (.reg [⟨(some 6), (.mov (.v (.bool false))), none⟩]) .ret) .skip)) (.seq (.reg [⟨(some 21), (.mov (.t 0)), none⟩, ⟨(some 22), (.mov (.t 1)), none⟩, ⟨(some 23), (.call n_bits_Mul [(.t 21), (.t 22)]), none⟩, ⟨(some 20), (.mov (.t 23)), none⟩, ⟨(some 24), (.ext (.t 20) 0), none⟩, ⟨(some 25), (.ext (.t 20) 1), none⟩, ⟨(some 8), (.mov (.t 24)), none⟩, ⟨(some 9), (.mov (.t 25)), none⟩]) (.seq (.reg [⟨(some 26), (.mov (.t 0)), none⟩, ⟨(some 27), (.call n_ref1_OfU [(.t 26)]), none⟩, ⟨(some 28), (.mov (.t 1)), none⟩, ⟨(some 29), (.call n_ref1_OfU [(.t 28)]), none⟩, ⟨(some 30), (.call n_ref1_Mul [(.t 27), (.t 29)]), none⟩, ⟨(some 10), (.mov (.t 30)), none⟩]) (.seq (.reg [⟨(some 31), (.mov (.t 8)), none⟩, ⟨(some 32), (.call n_ref1_OfU [(.t 31)]), none⟩, ⟨(some 33), (.call n_ref1_Two [(.v (iv .i64 64))]), none⟩, ⟨(some 34), (.call n_ref1_Mul [(.t 32), (.t 33)]), none⟩, ⟨(some 35), (.mov (.t 9)), none⟩, ⟨(some 36), (.call n_ref1_OfU [(.t 35)]), none⟩, ⟨(some 37), (.call n_ref1_Add [(.t 34), (.t 36)]), none⟩, ⟨(some 11), (.mov (.t 37)), none⟩]) (.seq (.seq (.reg [⟨(some 38), (.mov (.t 10)), none⟩, ⟨(some 39), (.mov (.t 11)), none⟩, ⟨(some 40), (.call n_ref1_Cmp [(.t 38), (.t 39)]), none⟩, ⟨(some 41), (.bin .neq (.t 40) (.v (iv .i64 0))), none⟩]) (.cond (.t 41) (.seq (.reg [⟨(some 6), (.mov (.v (.bool false))), none⟩]) .ret) .skip)) (.seq (.reg [⟨(some 43), (.mov (.t 0)), none⟩, ⟨(some 44), (.mov (.t 1)), none⟩, ⟨(some 45), (.mov (.t 2)), none⟩, ⟨(some 46), (.call n_bits_Div [(.t 43), (.t 44), (.t 45)]), none⟩, ⟨(some 42), (.mov (.t 46)), none⟩, ⟨(some 47), (.ext (.t 42) 0), none⟩, ⟨(some 48), (.ext (.t 42) 1), none⟩, ⟨(some 49), (.ext (.t 42) 2), none⟩, ⟨(some 12), (.mov (.t 47)), none⟩, ⟨(some 13), (.mov (.t 48)), none⟩, ⟨(some 14), (.mov (.t 49)), none⟩]) (.seq (.seq (.reg [⟨(some 50), (.mov (.t 0)), none⟩, ⟨(some 51), (.mov (.t 2)), none⟩, ⟨(some 52), (.bin .geq (.t 50) (.t 51)), none⟩]) (.cond (.t 52) (.seq (.reg [⟨(some 53), (.mov (.t 14)), none⟩, ⟨(some 54), (.not (.t 53)), none⟩, ⟨(some 55), (.mov (.t 54)), none⟩, ⟨(some 56), (.mov (.t 12)), (some (55, true))⟩, ⟨(some 57), (.bin .eql (.t 56) (.v (iv .u64 0))), (some (55, true))⟩, ⟨(some 58), (.pick (.t 55) (.t 57) (.v (.bool false))), none⟩, ⟨(some 59), (.mov (.t 58)), none⟩, ⟨(some 60), (.mov (.t 13)), (some (59, true))⟩, ⟨(some 61), (.bin .eql (.t 60) (.v (iv .u64 0))), (some (59, true))⟩, ⟨(some 62), (.pick (.t 59) (.t 61) (.v (.bool false))), none⟩, ⟨(some 6), (.mov (.t 62)), none⟩]) .ret) .skip)) (.seq (.reg [⟨(some 64), (.mov (.t 0)), none⟩, ⟨(some 65), (.call n_ref1_OfU [(.t 64)]), none⟩, ⟨(some 66), (.call n_ref1_Two [(.v (iv .i64 64))]), none⟩, ⟨(some 67), (.call n_ref1_Mul [(.t 65), (.t 66)]), none⟩, ⟨(some 68), (.mov (.t 1)), none⟩, ⟨(some 69), (.call n_ref1_OfU [(.t 68)]), none⟩, ⟨(some 70), (.call n_ref1_Add [(.t 67), (.t 69)]), none⟩, ⟨(some 71), (.mov (.t 2)), none⟩, ⟨(some 72), (.call n_ref1_OfU [(.t 71)]), none⟩, ⟨(some 73), (.call n_ref1_Div [(.t 70), (.t 72)]), none⟩, ⟨(some 63), (.mov (.t 73)), none⟩, ⟨(some 74), (.ext (.t 63) 0), none⟩, ⟨(some 75), (.ext (.t 63) 1), none⟩, ⟨(some 15), (.mov (.t 74)), none⟩, ⟨(some 16), (.mov (.t 75)), none⟩]) (.seq (.reg [⟨(some 76), (.mov (.t 14)), none⟩, ⟨(some 77), (.mov (.t 76)), none⟩, ⟨(some 78), (.mov (.t 15)), (some (77, true))⟩, ⟨(some 79), (.mov (.t 12)), (some (77, true))⟩, ⟨(some 80), (.call n_ref1_OfU [(.t 79)]), (some (77, true))⟩, ⟨(some 81), (.call n_ref1_Cmp [(.t 78), (.t 80)]), (some (77, true))⟩, ⟨(some 82), (.bin .eql (.t 81) (.v (iv .i64 0))), (some (77, true))⟩, ⟨(some 83), (.pick (.t 77) (.t 82) (.v (.bool false))), none⟩, ⟨(some 84), (.mov (.t 83)), none⟩, ⟨(some 85), (.mov (.t 16)), (some (84, true))⟩, ⟨(some 86), (.mov (.t 13)), (some (84, true))⟩, ⟨(some 87), (.call n_ref1_OfU [(.t 86)]), (some (84, true))⟩, ⟨(some 88), (.call n_ref1_Cmp [(.t 85), (.t 87)]), (some (84, true))⟩, ⟨(some 89), (.bin .eql (.t 88) (.v (iv .i64 0))), (some (84, true))⟩, ⟨(some 90), (.pick (.t 84) (.t 89) (.v (.bool false))), none⟩, ⟨(some 6), (.mov (.t 90)), none⟩]) .ret))))))))))) [(.t 6)] 91)
theorem low_law1_BitsMul : lowF P n_law1_BitsMul = some ir_law1_BitsMul := by kernel_rfl
variable {G : Glob}
theorem dl_40 {x : Nat} (h : x < 10000000000000000000000000000000000000000) : dl 10000 x ≤ 100000000 := Nat.le_trans ((dl_le_iff (k := 10) (by decide)).2 h) (by decide)
theorem cmpI_same (a : Nat) : cmpI a a = ((0 : Nat) : Int) := by simp [cmpI]
theorem BitsMul_px (hG : GOK G) (x y z : Nat) (hx : x < 18446744073709551616) (hy : y < 18446744073709551616) (hz : z < 18446744073709551616) : PX P G n_law1_BitsMul [.int .u64 x, .int .u64 y, .int .u64 z] (.bool true) := by
  refine PX_of_awp low_law1_BitsMul fol (by simp only [avmF, and_true]) (by simp only [avmF, and_true]) ?_
  have b40 : ∀ {v : Nat}, v < 10000000000000000000000000000000000000000 → dl 10000 v ≤ 1000000000 := fun h => Nat.le_trans (dl_40 h) (by decide)
  have hxy : x * y < 340282366920938463463374607431768211456 := by
    have := Nat.mul_lt_mul'' hx hy
    exact Nat.lt_of_lt_of_le this (by decide)
  have M := bits_Mul_px (G := G) x y hx hy
  obtain ⟨h, hh⟩ : ∃ h, h = x * y / 18446744073709551616 := ⟨_, rfl⟩
  obtain ⟨l, hl⟩ : ∃ l, l = x * y % 18446744073709551616 := ⟨_, rfl⟩
  rw [← hh, ← hl] at M
  have h2 : h < 18446744073709551616 := by omega
  have l2 : l < 18446744073709551616 := by omega
  have e64 : (2 : Nat) ^ 64 = 18446744073709551616 := rfl
  have U := fun v hv => ref_OfU_px (G := G) v hv
  have M1 := ref_Mul_px (G := G) x y (b40 (by omega)) (b40 (by omega))
  have T := ref_Two_px (G := G) 64 (by decide)
  rw [e64] at T
  have M2 := ref_Mul_px (G := G) h 18446744073709551616 (b40 (by omega)) (b40 (by omega))
  have A1 := ref_Add_px (G := G) (h * 18446744073709551616) l (b40 (by omega)) (b40 (by omega))
  have esum : h * 18446744073709551616 + l = x * y := by omega
  rw [esum] at A1
  have C1 := ref_Cmp_px (G := G) (x * y) (x * y) (b40 (by omega)) (b40 (by omega))
  rw [cmpI_same] at C1
  simp only [ir_law1_BitsMul, initF, List.replicate, Nat.reduceAdd, Nat.reduceSub, iv, avmL]
  simp (maxSteps := 2000000) only [↓avm8, ↓avmW, avmD, avmL, avmO, avmR, avmN, avmM, wi64, csub, row_getD, row_reps, ↓reduceIte, decide_true, decide_false, true_imp_iff, Nat.reduceAdd, Nat.reduceMul, Nat.reduceSub, Nat.reduceLT, Nat.reduceLeDiff, Nat.reduceEqDiff, Nat.reducePow, Nat.min_eq_left, Nat.reduceMod, List.drop_zero]
  refine (begun_px hG).call ?_
  simp (maxSteps := 2000000) only [↓avm8, ↓avmW, avmD, avmL, avmO, avmR, avmN, avmM, wi64, csub, row_getD, row_reps, ↓reduceIte, decide_true, decide_false, true_imp_iff, Nat.reduceAdd, Nat.reduceMul, Nat.reduceSub, Nat.reduceLT, Nat.reduceLeDiff, Nat.reduceEqDiff, Nat.reducePow, Nat.min_eq_left, Nat.reduceMod, List.drop_zero]
  refine M.call ?_
  simp (maxSteps := 2000000) only [↓avm8, ↓avmW, avmD, avmL, avmO, avmR, avmN, avmM, wi64, csub, row_getD, row_reps, ↓reduceIte, decide_true, decide_false, true_imp_iff, Nat.reduceAdd, Nat.reduceMul, Nat.reduceSub, Nat.reduceLT, Nat.reduceLeDiff, Nat.reduceEqDiff, Nat.reducePow, Nat.min_eq_left, Nat.reduceMod, List.drop_zero]
  refine (U x hx).call ?_
  simp (maxSteps := 2000000) only [↓avm8, ↓avmW, avmD, avmL, avmO, avmR, avmN, avmM, wi64, csub, row_getD, row_reps, ↓reduceIte, decide_true, decide_false, true_imp_iff, Nat.reduceAdd, Nat.reduceMul, Nat.reduceSub, Nat.reduceLT, Nat.reduceLeDiff, Nat.reduceEqDiff, Nat.reducePow, Nat.min_eq_left, Nat.reduceMod, List.drop_zero]
  refine (U y hy).call ?_
  simp (maxSteps := 2000000) only [↓avm8, ↓avmW, avmD, avmL, avmO, avmR, avmN, avmM, wi64, csub, row_getD, row_reps, ↓reduceIte, decide_true, decide_false, true_imp_iff, Nat.reduceAdd, Nat.reduceMul, Nat.reduceSub, Nat.reduceLT, Nat.reduceLeDiff, Nat.reduceEqDiff, Nat.reducePow, Nat.min_eq_left, Nat.reduceMod, List.drop_zero]
  refine M1.call ?_
  simp (maxSteps := 2000000) only [↓avm8, ↓avmW, avmD, avmL, avmO, avmR, avmN, avmM, wi64, csub, row_getD, row_reps, ↓reduceIte, decide_true, decide_false, true_imp_iff, Nat.reduceAdd, Nat.reduceMul, Nat.reduceSub, Nat.reduceLT, Nat.reduceLeDiff, Nat.reduceEqDiff, Nat.reducePow, Nat.min_eq_left, Nat.reduceMod, List.drop_zero]
  refine (U h h2).call ?_
  simp (maxSteps := 2000000) only [↓avm8, ↓avmW, avmD, avmL, avmO, avmR, avmN, avmM, wi64, csub, row_getD, row_reps, ↓reduceIte, decide_true, decide_false, true_imp_iff, Nat.reduceAdd, Nat.reduceMul, Nat.reduceSub, Nat.reduceLT, Nat.reduceLeDiff, Nat.reduceEqDiff, Nat.reducePow, Nat.min_eq_left, Nat.reduceMod, List.drop_zero]
  refine T.call ?_
  simp (maxSteps := 2000000) only [↓avm8, ↓avmW, avmD, avmL, avmO, avmR, avmN, avmM, wi64, csub, row_getD, row_reps, ↓reduceIte, decide_true, decide_false, true_imp_iff, Nat.reduceAdd, Nat.reduceMul, Nat.reduceSub, Nat.reduceLT, Nat.reduceLeDiff, Nat.reduceEqDiff, Nat.reducePow, Nat.min_eq_left, Nat.reduceMod, List.drop_zero]
  refine M2.call ?_
  simp (maxSteps := 2000000) only [↓avm8, ↓avmW, avmD, avmL, avmO, avmR, avmN, avmM, wi64, csub, row_getD, row_reps, ↓reduceIte, decide_true, decide_false, true_imp_iff, Nat.reduceAdd, Nat.reduceMul, Nat.reduceSub, Nat.reduceLT, Nat.reduceLeDiff, Nat.reduceEqDiff, Nat.reducePow, Nat.min_eq_left, Nat.reduceMod, List.drop_zero]
  refine (U l l2).call ?_
  simp (maxSteps := 2000000) only [↓avm8, ↓avmW, avmD, avmL, avmO, avmR, avmN, avmM, wi64, csub, row_getD, row_reps, ↓reduceIte, decide_true, decide_false, true_imp_iff, Nat.reduceAdd, Nat.reduceMul, Nat.reduceSub, Nat.reduceLT, Nat.reduceLeDiff, Nat.reduceEqDiff, Nat.reducePow, Nat.min_eq_left, Nat.reduceMod, List.drop_zero]
  refine A1.call ?_
  simp (maxSteps := 2000000) only [↓avm8, ↓avmW, avmD, avmL, avmO, avmR, avmN, avmM, wi64, csub, row_getD, row_reps, ↓reduceIte, decide_true, decide_false, true_imp_iff, Nat.reduceAdd, Nat.reduceMul, Nat.reduceSub, Nat.reduceLT, Nat.reduceLeDiff, Nat.reduceEqDiff, Nat.reducePow, Nat.min_eq_left, Nat.reduceMod, List.drop_zero]
  refine C1.call ?_
  by_cases c : z ≤ x
  · simp (maxSteps := 2000000) only [↓avm8, ↓avmW, avmD, avmL, avmO, avmR, avmN, avmM, wi64, csub, row_getD, row_reps, ↓reduceIte, decide_true, decide_false, true_imp_iff, Nat.reduceAdd, Nat.reduceMul, Nat.reduceSub, Nat.reduceLT, Nat.reduceLeDiff, Nat.reduceEqDiff, Nat.reducePow, Nat.min_eq_left, Nat.reduceMod, List.drop_zero, c]
    refine (bits_Div_no x y z c).call ?_
    simp (maxSteps := 2000000) only [↓avm8, ↓avmW, avmD, avmL, avmO, avmR, avmN, avmM, wi64, csub, row_getD, row_reps, ↓reduceIte, decide_true, decide_false, true_imp_iff, Nat.reduceAdd, Nat.reduceMul, Nat.reduceSub, Nat.reduceLT, Nat.reduceLeDiff, Nat.reduceEqDiff, Nat.reducePow, Nat.min_eq_left, Nat.reduceMod, List.drop_zero, c]
    refine ret_now ?_
    simp (maxSteps := 2000000) only [↓avm8, ↓avmW, avmD, avmL, avmO, avmR, avmN, avmM, wi64, csub, row_getD, row_reps, ↓reduceIte, decide_true, decide_false, true_imp_iff, Nat.reduceAdd, Nat.reduceMul, Nat.reduceSub, Nat.reduceLT, Nat.reduceLeDiff, Nat.reduceEqDiff, Nat.reducePow, Nat.min_eq_left, Nat.reduceMod, List.drop_zero]
  · have D := bits_Div_px (G := G) x y z (by omega) hy hz
    obtain ⟨N, hN⟩ : ∃ N, N = x * 18446744073709551616 + y := ⟨_, rfl⟩
    rw [← hN] at D
    have hN2 : N < 340282366920938463463374607431768211456 := by omega
    have hz0 : 0 < z := by omega
    have hq2 : N / z < 18446744073709551616 := Nat.div_lt_of_lt_mul (by omega)
    have hr2 : N % z < 18446744073709551616 := Nat.lt_trans (Nat.mod_lt _ hz0) hz
    have M3 := ref_Mul_px (G := G) x 18446744073709551616 (b40 (by omega)) (b40 (by omega))
    have A2 := ref_Add_px (G := G) (x * 18446744073709551616) y (b40 (by omega)) (b40 (by omega))
    rw [← hN] at A2
    have D2 := ref_Div_px (G := G) N z hz0 (dl_40 (by omega)) (dl_40 (by omega))
    have C2 := ref_Cmp_px (G := G) (N / z) (N / z) (b40 (by omega)) (b40 (by omega))
    have C3 := ref_Cmp_px (G := G) (N % z) (N % z) (b40 (by omega)) (b40 (by omega))
    rw [cmpI_same] at C2 C3
    simp (maxSteps := 2000000) only [↓avm8, ↓avmW, avmD, avmL, avmO, avmR, avmN, avmM, wi64, csub, row_getD, row_reps, ↓reduceIte, decide_true, decide_false, true_imp_iff, Nat.reduceAdd, Nat.reduceMul, Nat.reduceSub, Nat.reduceLT, Nat.reduceLeDiff, Nat.reduceEqDiff, Nat.reducePow, Nat.min_eq_left, Nat.reduceMod, List.drop_zero, c]
    refine D.call ?_
    simp (maxSteps := 2000000) only [↓avm8, ↓avmW, avmD, avmL, avmO, avmR, avmN, avmM, wi64, csub, row_getD, row_reps, ↓reduceIte, decide_true, decide_false, true_imp_iff, Nat.reduceAdd, Nat.reduceMul, Nat.reduceSub, Nat.reduceLT, Nat.reduceLeDiff, Nat.reduceEqDiff, Nat.reducePow, Nat.min_eq_left, Nat.reduceMod, List.drop_zero, c]
    refine (U x hx).call ?_
    simp (maxSteps := 2000000) only [↓avm8, ↓avmW, avmD, avmL, avmO, avmR, avmN, avmM, wi64, csub, row_getD, row_reps, ↓reduceIte, decide_true, decide_false, true_imp_iff, Nat.reduceAdd, Nat.reduceMul, Nat.reduceSub, Nat.reduceLT, Nat.reduceLeDiff, Nat.reduceEqDiff, Nat.reducePow, Nat.min_eq_left, Nat.reduceMod, List.drop_zero]
    refine T.call ?_
    simp (maxSteps := 2000000) only [↓avm8, ↓avmW, avmD, avmL, avmO, avmR, avmN, avmM, wi64, csub, row_getD, row_reps, ↓reduceIte, decide_true, decide_false, true_imp_iff, Nat.reduceAdd, Nat.reduceMul, Nat.reduceSub, Nat.reduceLT, Nat.reduceLeDiff, Nat.reduceEqDiff, Nat.reducePow, Nat.min_eq_left, Nat.reduceMod, List.drop_zero]
    refine M3.call ?_
    simp (maxSteps := 2000000) only [↓avm8, ↓avmW, avmD, avmL, avmO, avmR, avmN, avmM, wi64, csub, row_getD, row_reps, ↓reduceIte, decide_true, decide_false, true_imp_iff, Nat.reduceAdd, Nat.reduceMul, Nat.reduceSub, Nat.reduceLT, Nat.reduceLeDiff, Nat.reduceEqDiff, Nat.reducePow, Nat.min_eq_left, Nat.reduceMod, List.drop_zero]
    refine (U y hy).call ?_
    simp (maxSteps := 2000000) only [↓avm8, ↓avmW, avmD, avmL, avmO, avmR, avmN, avmM, wi64, csub, row_getD, row_reps, ↓reduceIte, decide_true, decide_false, true_imp_iff, Nat.reduceAdd, Nat.reduceMul, Nat.reduceSub, Nat.reduceLT, Nat.reduceLeDiff, Nat.reduceEqDiff, Nat.reducePow, Nat.min_eq_left, Nat.reduceMod, List.drop_zero]
    refine A2.call ?_
    simp (maxSteps := 2000000) only [↓avm8, ↓avmW, avmD, avmL, avmO, avmR, avmN, avmM, wi64, csub, row_getD, row_reps, ↓reduceIte, decide_true, decide_false, true_imp_iff, Nat.reduceAdd, Nat.reduceMul, Nat.reduceSub, Nat.reduceLT, Nat.reduceLeDiff, Nat.reduceEqDiff, Nat.reducePow, Nat.min_eq_left, Nat.reduceMod, List.drop_zero]
    refine (U z hz).call ?_
    simp (maxSteps := 2000000) only [↓avm8, ↓avmW, avmD, avmL, avmO, avmR, avmN, avmM, wi64, csub, row_getD, row_reps, ↓reduceIte, decide_true, decide_false, true_imp_iff, Nat.reduceAdd, Nat.reduceMul, Nat.reduceSub, Nat.reduceLT, Nat.reduceLeDiff, Nat.reduceEqDiff, Nat.reducePow, Nat.min_eq_left, Nat.reduceMod, List.drop_zero]
    refine D2.call ?_
    simp (maxSteps := 2000000) only [↓avm8, ↓avmW, avmD, avmL, avmO, avmR, avmN, avmM, wi64, csub, row_getD, row_reps, ↓reduceIte, decide_true, decide_false, true_imp_iff, Nat.reduceAdd, Nat.reduceMul, Nat.reduceSub, Nat.reduceLT, Nat.reduceLeDiff, Nat.reduceEqDiff, Nat.reducePow, Nat.min_eq_left, Nat.reduceMod, List.drop_zero]
    refine (U _ hq2).call ?_
    simp (maxSteps := 2000000) only [↓avm8, ↓avmW, avmD, avmL, avmO, avmR, avmN, avmM, wi64, csub, row_getD, row_reps, ↓reduceIte, decide_true, decide_false, true_imp_iff, Nat.reduceAdd, Nat.reduceMul, Nat.reduceSub, Nat.reduceLT, Nat.reduceLeDiff, Nat.reduceEqDiff, Nat.reducePow, Nat.min_eq_left, Nat.reduceMod, List.drop_zero]
    refine C2.call ?_
    simp (maxSteps := 2000000) only [↓avm8, ↓avmW, avmD, avmL, avmO, avmR, avmN, avmM, wi64, csub, row_getD, row_reps, ↓reduceIte, decide_true, decide_false, true_imp_iff, Nat.reduceAdd, Nat.reduceMul, Nat.reduceSub, Nat.reduceLT, Nat.reduceLeDiff, Nat.reduceEqDiff, Nat.reducePow, Nat.min_eq_left, Nat.reduceMod, List.drop_zero]
    refine (U _ hr2).call ?_
    simp (maxSteps := 2000000) only [↓avm8, ↓avmW, avmD, avmL, avmO, avmR, avmN, avmM, wi64, csub, row_getD, row_reps, ↓reduceIte, decide_true, decide_false, true_imp_iff, Nat.reduceAdd, Nat.reduceMul, Nat.reduceSub, Nat.reduceLT, Nat.reduceLeDiff, Nat.reduceEqDiff, Nat.reducePow, Nat.min_eq_left, Nat.reduceMod, List.drop_zero]
    refine C3.call ?_
    simp (maxSteps := 2000000) only [↓avm8, ↓avmW, avmD, avmL, avmO, avmR, avmN, avmM, wi64, csub, row_getD, row_reps, ↓reduceIte, decide_true, decide_false, true_imp_iff, Nat.reduceAdd, Nat.reduceMul, Nat.reduceSub, Nat.reduceLT, Nat.reduceLeDiff, Nat.reduceEqDiff, Nat.reducePow, Nat.min_eq_left, Nat.reduceMod, List.drop_zero]
    refine ret_now ?_
    simp (maxSteps := 2000000) only [↓avm8, ↓avmW, avmD, avmL, avmO, avmR, avmN, avmM, wi64, csub, row_getD, row_reps, ↓reduceIte, decide_true, decide_false, true_imp_iff, Nat.reduceAdd, Nat.reduceMul, Nat.reduceSub, Nat.reduceLT, Nat.reduceLeDiff, Nat.reduceEqDiff, Nat.reducePow, Nat.min_eq_left, Nat.reduceMod, List.drop_zero]
end Va
