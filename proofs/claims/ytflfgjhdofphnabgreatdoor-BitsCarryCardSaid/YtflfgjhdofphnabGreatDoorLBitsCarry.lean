/- The law BitsCarry on trees: sums and differences with a carry, in and out. -/
import Derived.Test.YtflfgjhdofphnabGreatDoorBT5
import Derived.Test.YtflfgjhdofphnabGreatDoorRA
import Derived.Test.YtflfgjhdofphnabGreatDoorBG
set_option linter.unusedSimpArgs false
set_option linter.unusedVariables false
set_option maxRecDepth 100000
set_option maxHeartbeats 4000000
open Go Go.Avm
namespace Va
def ir_law1_BitsCarry : IF := (.mk (.seq (.reg [⟨(some 6), (.mov (.v (.bool false))), none⟩]) (.seq (.reg [⟨(some 14), (.call n_law1_begun []), none⟩, ⟨(some 7), (.mov (.t 14)), none⟩]) (.seq (.seq (.reg [⟨(some 15), (.mov (.t 7)), none⟩, ⟨(some 16), (.not (.t 15)), none⟩]) (.cond (.t 16) (.seq (.reg [⟨(some 6), (.mov (.v (.bool false))), none⟩]) .ret) .skip)) (.seq (.reg [⟨(some 18), (.mov (.t 0)), none⟩, ⟨(some 19), (.mov (.t 1)), none⟩, ⟨(some 20), (.mov (.t 2)), none⟩, ⟨(some 21), (.call n_bits_Add [(.t 18), (.t 19), (.t 20)]), none⟩, ⟨(some 17), (.mov (.t 21)), none⟩, ⟨(some 22), (.ext (.t 17) 0), none⟩, ⟨(some 23), (.ext (.t 17) 1), none⟩, ⟨(some 8), (.mov (.t 22)), none⟩, ⟨(some 9), (.mov (.t 23)), none⟩]) (.seq (.reg [⟨(some 24), (.mov (.t 0)), none⟩, ⟨(some 25), (.call n_ref1_OfU [(.t 24)]), none⟩, ⟨(some 26), (.mov (.t 1)), none⟩, ⟨(some 27), (.call n_ref1_OfU [(.t 26)]), none⟩, ⟨(some 28), (.call n_ref1_Add [(.t 25), (.t 27)]), none⟩, ⟨(some 10), (.mov (.t 28)), none⟩]) (.seq (.seq (.reg [⟨(some 29), (.mov (.t 2)), none⟩]) (.cond (.t 29) (.reg [⟨(some 30), (.mov (.t 10)), none⟩, ⟨(some 31), (.bslice t_int 1 1 [(iv .i64 0)] [(0, (1, (.v (iv .i64 1))))]), none⟩, ⟨(some 32), (.call n_ref1_Add [(.t 30), (.t 31)]), none⟩, ⟨(some 10), (.mov (.t 32)), none⟩]) .skip)) (.seq (.reg [⟨(some 33), (.mov (.t 8)), none⟩, ⟨(some 34), (.call n_ref1_OfU [(.t 33)]), none⟩, ⟨(some 11), (.mov (.t 34)), none⟩]) (.seq (.seq (.reg [⟨(some 35), (.mov (.t 9)), none⟩]) (.cond (.t 35) (.reg [⟨(some 36), (.mov (.t 11)), none⟩, ⟨(some 37), (.call n_ref1_Two [(.v (iv .i64 64))]), none⟩, ⟨(some 38), (.call n_ref1_Add [(.t 36), (.t 37)]), none⟩, ⟨(some 11), (.mov (.t 38)), none⟩]) .skip)) (.seq (.reg [⟨(some 40), (.mov (.t 8)), none⟩, ⟨(some 41), (.mov (.t 1)), none⟩, ⟨(some 42), (.mov (.t 2)), none⟩, ⟨(some 43), (.call n_bits_Sub [(.t 40), (.t 41), (.t 42)]), none⟩, ⟨(some 39), (.mov (.t 43)), none⟩, ⟨(some 44), (.ext (.t 39) 0), none⟩, ⟨(some 45), (.ext (.t 39) 1), none⟩, ⟨(some 12), (.mov (.t 44)), none⟩, ⟨(some 13), (.mov (.t 45)), none⟩]) (.seq (.reg [⟨(some 46), (.mov (.t 10)), none⟩, ⟨(some 47), (.mov (.t 11)), none⟩, ⟨(some 48), (.call n_ref1_Cmp [(.t 46), (.t 47)]), none⟩, ⟨(some 49), (.bin .eql (.t 48) (.v (iv .i64 0))), none⟩, ⟨(some 50), (.mov (.t 49)), none⟩, ⟨(some 51), (.mov (.t 12)), (some (50, true))⟩, ⟨(some 52), (.mov (.t 0)), (some (50, true))⟩, ⟨(some 53), (.bin .eql (.t 51) (.t 52)), (some (50, true))⟩, ⟨(some 54), (.pick (.t 50) (.t 53) (.v (.bool false))), none⟩, ⟨(some 55), (.mov (.t 54)), none⟩, ⟨(some 56), (.mov (.t 13)), (some (55, true))⟩, ⟨(some 57), (.mov (.t 9)), (some (55, true))⟩, ⟨(some 58), (.eqb false (.t 56) (.t 57)), (some (55, true))⟩, ⟨(some 59), (.pick (.t 55) (.t 58) (.v (.bool false))), none⟩, ⟨(some 6), (.mov (.t 59)), none⟩]) .ret)))))))))) [(.t 6)] 60)
theorem low_law1_BitsCarry : lowF P n_law1_BitsCarry = some ir_law1_BitsCarry := by kernel_rfl
variable {G : Glob}
theorem dl_20 {x : Nat} (h : x < 100000000000000000000) : dl 10000 x ≤ 1000000000 := Nat.le_trans ((dl_le_iff (k := 5) (by decide)).2 h) (by decide)
theorem cmpI_self (a : Nat) : cmpI a a = ((0 : Nat) : Int) := by simp [cmpI]
theorem BitsCarry_px (hG : GOK G) (x y : Nat) (c : Bool) (hx : x < 18446744073709551616) (hy : y < 18446744073709551616) : PX P G n_law1_BitsCarry [.int .u64 x, .int .u64 y, .bool c] (.bool true) := by
  refine PX_of_awp low_law1_BitsCarry fol (by simp only [avmF, and_true]) (by simp only [avmF, and_true]) ?_
  have hc : c.toNat ≤ 1 := Bool.toNat_le c
  obtain ⟨s, hs⟩ : ∃ s, s = (x + y + c.toNat) % 18446744073709551616 := ⟨_, rfl⟩
  have hs2 : s < 18446744073709551616 := by omega
  have A := bits_Add_px (G := G) x y c hx hy
  rw [← hs] at A
  have S := bits_Sub_px (G := G) s y c hs2 hy
  have e1 : (s + 18446744073709551616 + 18446744073709551616 - y - c.toNat) % 18446744073709551616 = x := by omega
  rw [e1] at S
  have U1 := ref_OfU_px (G := G) x hx
  have U2 := ref_OfU_px (G := G) y hy
  have U3 := ref_OfU_px (G := G) s hs2
  have A1 := ref_Add_px (G := G) x y (dl_20 (by omega)) (dl_20 (by omega))
  have A2 := ref_Add_px (G := G) (x + y) 1 (dl_20 (by omega)) (dl_20 (by omega))
  rw [refV_small (d := 1) (by decide) (by decide)] at A2
  have T := ref_Two_px (G := G) 64 (by decide)
  have A3 := ref_Add_px (G := G) s (2 ^ 64) (dl_20 (by omega)) (dl_20 (by decide))
  have tt : (true == true) = true := rfl
  simp only [ir_law1_BitsCarry, initF, List.replicate, Nat.reduceAdd, Nat.reduceSub, iv, avmL]
  simp (maxSteps := 2000000) only [↓avm8, ↓avmW, avmD, avmL, avmO, avmR, avmN, avmM, wi64, csub, row_getD, row_reps, ↓reduceIte, decide_true, decide_false, true_imp_iff, Nat.reduceAdd, Nat.reduceMul, Nat.reduceSub, Nat.reduceLT, Nat.reduceLeDiff, Nat.reduceEqDiff, Nat.reducePow, Nat.min_eq_left, Nat.reduceMod, List.drop_zero]
  refine (begun_px hG).call ?_
  simp (maxSteps := 2000000) only [↓avm8, ↓avmW, avmD, avmL, avmO, avmR, avmN, avmM, wi64, csub, row_getD, row_reps, ↓reduceIte, decide_true, decide_false, true_imp_iff, Nat.reduceAdd, Nat.reduceMul, Nat.reduceSub, Nat.reduceLT, Nat.reduceLeDiff, Nat.reduceEqDiff, Nat.reducePow, Nat.min_eq_left, Nat.reduceMod, List.drop_zero]
  refine A.call ?_
  simp (maxSteps := 2000000) only [↓avm8, ↓avmW, avmD, avmL, avmO, avmR, avmN, avmM, wi64, csub, row_getD, row_reps, ↓reduceIte, decide_true, decide_false, true_imp_iff, Nat.reduceAdd, Nat.reduceMul, Nat.reduceSub, Nat.reduceLT, Nat.reduceLeDiff, Nat.reduceEqDiff, Nat.reducePow, Nat.min_eq_left, Nat.reduceMod, List.drop_zero]
  refine U1.call ?_
  simp (maxSteps := 2000000) only [↓avm8, ↓avmW, avmD, avmL, avmO, avmR, avmN, avmM, wi64, csub, row_getD, row_reps, ↓reduceIte, decide_true, decide_false, true_imp_iff, Nat.reduceAdd, Nat.reduceMul, Nat.reduceSub, Nat.reduceLT, Nat.reduceLeDiff, Nat.reduceEqDiff, Nat.reducePow, Nat.min_eq_left, Nat.reduceMod, List.drop_zero]
  refine U2.call ?_
  simp (maxSteps := 2000000) only [↓avm8, ↓avmW, avmD, avmL, avmO, avmR, avmN, avmM, wi64, csub, row_getD, row_reps, ↓reduceIte, decide_true, decide_false, true_imp_iff, Nat.reduceAdd, Nat.reduceMul, Nat.reduceSub, Nat.reduceLT, Nat.reduceLeDiff, Nat.reduceEqDiff, Nat.reducePow, Nat.min_eq_left, Nat.reduceMod, List.drop_zero]
  refine A1.call ?_
  by_cases o : 18446744073709551616 ≤ x + y + c.toNat
  · have e2 : s < y + c.toNat := by omega
    cases c with
    | true =>
      have C := ref_Cmp_px (G := G) (x + y + 1) (s + 2 ^ 64) (dl_20 (by omega)) (dl_20 (by omega))
      rw [show s + 2 ^ 64 = x + y + 1 by simp only [Bool.toNat_true] at *; omega, cmpI_self] at C
      rw [show s + 2 ^ 64 = x + y + 1 by simp only [Bool.toNat_true] at *; omega] at A3
      simp (maxSteps := 2000000) only [↓avm8, ↓avmW, avmD, avmL, avmO, avmR, avmN, avmM, wi64, csub, row_getD, row_reps, ↓reduceIte, decide_true, decide_false, true_imp_iff, Nat.reduceAdd, Nat.reduceMul, Nat.reduceSub, Nat.reduceLT, Nat.reduceLeDiff, Nat.reduceEqDiff, Nat.reducePow, Nat.min_eq_left, Nat.reduceMod, List.drop_zero, cellsOf, putAt, fillP, List.replicate_one, List.set_cons_zero, List.length_cons, List.length_nil, o]
      refine ACall.fzc (H0 := []) 0 rfl rfl (Nat.le_refl _) (by simp only [avmF]) ?_
      simp (maxSteps := 2000000) only [↓avm8, ↓avmW, avmD, avmL, avmO, avmR, avmN, avmM, wi64, csub, row_getD, row_reps, ↓reduceIte, decide_true, decide_false, true_imp_iff, Nat.reduceAdd, Nat.reduceMul, Nat.reduceSub, Nat.reduceLT, Nat.reduceLeDiff, Nat.reduceEqDiff, Nat.reducePow, Nat.min_eq_left, Nat.reduceMod, List.drop_zero, avmT, avmK, List.length_cons, List.length_nil, List.take_succ_cons, List.take_zero]
      refine A2.call ?_
      simp (maxSteps := 2000000) only [↓avm8, ↓avmW, avmD, avmL, avmO, avmR, avmN, avmM, wi64, csub, row_getD, row_reps, ↓reduceIte, decide_true, decide_false, true_imp_iff, Nat.reduceAdd, Nat.reduceMul, Nat.reduceSub, Nat.reduceLT, Nat.reduceLeDiff, Nat.reduceEqDiff, Nat.reducePow, Nat.min_eq_left, Nat.reduceMod, List.drop_zero]
      refine U3.call ?_
      simp (maxSteps := 2000000) only [↓avm8, ↓avmW, avmD, avmL, avmO, avmR, avmN, avmM, wi64, csub, row_getD, row_reps, ↓reduceIte, decide_true, decide_false, true_imp_iff, Nat.reduceAdd, Nat.reduceMul, Nat.reduceSub, Nat.reduceLT, Nat.reduceLeDiff, Nat.reduceEqDiff, Nat.reducePow, Nat.min_eq_left, Nat.reduceMod, List.drop_zero]
      refine T.call ?_
      simp (maxSteps := 2000000) only [↓avm8, ↓avmW, avmD, avmL, avmO, avmR, avmN, avmM, wi64, csub, row_getD, row_reps, ↓reduceIte, decide_true, decide_false, true_imp_iff, Nat.reduceAdd, Nat.reduceMul, Nat.reduceSub, Nat.reduceLT, Nat.reduceLeDiff, Nat.reduceEqDiff, Nat.reducePow, Nat.min_eq_left, Nat.reduceMod, List.drop_zero]
      refine A3.call ?_
      simp (maxSteps := 2000000) only [↓avm8, ↓avmW, avmD, avmL, avmO, avmR, avmN, avmM, wi64, csub, row_getD, row_reps, ↓reduceIte, decide_true, decide_false, true_imp_iff, Nat.reduceAdd, Nat.reduceMul, Nat.reduceSub, Nat.reduceLT, Nat.reduceLeDiff, Nat.reduceEqDiff, Nat.reducePow, Nat.min_eq_left, Nat.reduceMod, List.drop_zero]
      refine S.call ?_
      simp (maxSteps := 2000000) only [↓avm8, ↓avmW, avmD, avmL, avmO, avmR, avmN, avmM, wi64, csub, row_getD, row_reps, ↓reduceIte, decide_true, decide_false, true_imp_iff, Nat.reduceAdd, Nat.reduceMul, Nat.reduceSub, Nat.reduceLT, Nat.reduceLeDiff, Nat.reduceEqDiff, Nat.reducePow, Nat.min_eq_left, Nat.reduceMod, List.drop_zero, e2]
      refine C.call ?_
      simp (maxSteps := 2000000) only [↓avm8, ↓avmW, avmD, avmL, avmO, avmR, avmN, avmM, wi64, csub, row_getD, row_reps, ↓reduceIte, decide_true, decide_false, true_imp_iff, Nat.reduceAdd, Nat.reduceMul, Nat.reduceSub, Nat.reduceLT, Nat.reduceLeDiff, Nat.reduceEqDiff, Nat.reducePow, Nat.min_eq_left, Nat.reduceMod, List.drop_zero]
      refine ret_now ?_
      simp (maxSteps := 2000000) only [↓avm8, ↓avmW, avmD, avmL, avmO, avmR, avmN, avmM, wi64, csub, row_getD, row_reps, ↓reduceIte, decide_true, decide_false, true_imp_iff, Nat.reduceAdd, Nat.reduceMul, Nat.reduceSub, Nat.reduceLT, Nat.reduceLeDiff, Nat.reduceEqDiff, Nat.reducePow, Nat.min_eq_left, Nat.reduceMod, List.drop_zero]
    | false =>
      have C := ref_Cmp_px (G := G) (x + y) (s + 2 ^ 64) (dl_20 (by omega)) (dl_20 (by omega))
      rw [show s + 2 ^ 64 = x + y by simp only [Bool.toNat_false] at *; omega, cmpI_self] at C
      rw [show s + 2 ^ 64 = x + y by simp only [Bool.toNat_false] at *; omega] at A3
      simp (maxSteps := 2000000) only [↓avm8, ↓avmW, avmD, avmL, avmO, avmR, avmN, avmM, wi64, csub, row_getD, row_reps, ↓reduceIte, decide_true, decide_false, true_imp_iff, Nat.reduceAdd, Nat.reduceMul, Nat.reduceSub, Nat.reduceLT, Nat.reduceLeDiff, Nat.reduceEqDiff, Nat.reducePow, Nat.min_eq_left, Nat.reduceMod, List.drop_zero, o]
      refine U3.call ?_
      simp (maxSteps := 2000000) only [↓avm8, ↓avmW, avmD, avmL, avmO, avmR, avmN, avmM, wi64, csub, row_getD, row_reps, ↓reduceIte, decide_true, decide_false, true_imp_iff, Nat.reduceAdd, Nat.reduceMul, Nat.reduceSub, Nat.reduceLT, Nat.reduceLeDiff, Nat.reduceEqDiff, Nat.reducePow, Nat.min_eq_left, Nat.reduceMod, List.drop_zero]
      refine T.call ?_
      simp (maxSteps := 2000000) only [↓avm8, ↓avmW, avmD, avmL, avmO, avmR, avmN, avmM, wi64, csub, row_getD, row_reps, ↓reduceIte, decide_true, decide_false, true_imp_iff, Nat.reduceAdd, Nat.reduceMul, Nat.reduceSub, Nat.reduceLT, Nat.reduceLeDiff, Nat.reduceEqDiff, Nat.reducePow, Nat.min_eq_left, Nat.reduceMod, List.drop_zero]
      refine A3.call ?_
      simp (maxSteps := 2000000) only [↓avm8, ↓avmW, avmD, avmL, avmO, avmR, avmN, avmM, wi64, csub, row_getD, row_reps, ↓reduceIte, decide_true, decide_false, true_imp_iff, Nat.reduceAdd, Nat.reduceMul, Nat.reduceSub, Nat.reduceLT, Nat.reduceLeDiff, Nat.reduceEqDiff, Nat.reducePow, Nat.min_eq_left, Nat.reduceMod, List.drop_zero]
      refine S.call ?_
      simp (maxSteps := 2000000) only [↓avm8, ↓avmW, avmD, avmL, avmO, avmR, avmN, avmM, wi64, csub, row_getD, row_reps, ↓reduceIte, decide_true, decide_false, true_imp_iff, Nat.reduceAdd, Nat.reduceMul, Nat.reduceSub, Nat.reduceLT, Nat.reduceLeDiff, Nat.reduceEqDiff, Nat.reducePow, Nat.min_eq_left, Nat.reduceMod, List.drop_zero, e2]
      refine C.call ?_
      simp (maxSteps := 2000000) only [↓avm8, ↓avmW, avmD, avmL, avmO, avmR, avmN, avmM, wi64, csub, row_getD, row_reps, ↓reduceIte, decide_true, decide_false, true_imp_iff, Nat.reduceAdd, Nat.reduceMul, Nat.reduceSub, Nat.reduceLT, Nat.reduceLeDiff, Nat.reduceEqDiff, Nat.reducePow, Nat.min_eq_left, Nat.reduceMod, List.drop_zero]
      refine ret_now ?_
      simp (maxSteps := 2000000) only [↓avm8, ↓avmW, avmD, avmL, avmO, avmR, avmN, avmM, wi64, csub, row_getD, row_reps, ↓reduceIte, decide_true, decide_false, true_imp_iff, Nat.reduceAdd, Nat.reduceMul, Nat.reduceSub, Nat.reduceLT, Nat.reduceLeDiff, Nat.reduceEqDiff, Nat.reducePow, Nat.min_eq_left, Nat.reduceMod, List.drop_zero]
  · have e2 : ¬ s < y + c.toNat := by omega
    cases c with
    | true =>
      have hse : s = x + y + 1 := by rw [hs]; simp only [Bool.toNat_true] at o ⊢; omega
      subst hse
      have C := ref_Cmp_px (G := G) (x + y + 1) (x + y + 1) (dl_20 (by omega)) (dl_20 (by omega))
      rw [cmpI_self] at C
      simp (maxSteps := 2000000) only [↓avm8, ↓avmW, avmD, avmL, avmO, avmR, avmN, avmM, wi64, csub, row_getD, row_reps, ↓reduceIte, decide_true, decide_false, true_imp_iff, Nat.reduceAdd, Nat.reduceMul, Nat.reduceSub, Nat.reduceLT, Nat.reduceLeDiff, Nat.reduceEqDiff, Nat.reducePow, Nat.min_eq_left, Nat.reduceMod, List.drop_zero, cellsOf, putAt, fillP, List.replicate_one, List.set_cons_zero, List.length_cons, List.length_nil, o]
      refine ACall.fzc (H0 := []) 0 rfl rfl (Nat.le_refl _) (by simp only [avmF]) ?_
      simp (maxSteps := 2000000) only [↓avm8, ↓avmW, avmD, avmL, avmO, avmR, avmN, avmM, wi64, csub, row_getD, row_reps, ↓reduceIte, decide_true, decide_false, true_imp_iff, Nat.reduceAdd, Nat.reduceMul, Nat.reduceSub, Nat.reduceLT, Nat.reduceLeDiff, Nat.reduceEqDiff, Nat.reducePow, Nat.min_eq_left, Nat.reduceMod, List.drop_zero, avmT, avmK, List.length_cons, List.length_nil, List.take_succ_cons, List.take_zero]
      refine A2.call ?_
      simp (maxSteps := 2000000) only [↓avm8, ↓avmW, avmD, avmL, avmO, avmR, avmN, avmM, wi64, csub, row_getD, row_reps, ↓reduceIte, decide_true, decide_false, true_imp_iff, Nat.reduceAdd, Nat.reduceMul, Nat.reduceSub, Nat.reduceLT, Nat.reduceLeDiff, Nat.reduceEqDiff, Nat.reducePow, Nat.min_eq_left, Nat.reduceMod, List.drop_zero]
      refine U3.call ?_
      simp (maxSteps := 2000000) only [↓avm8, ↓avmW, avmD, avmL, avmO, avmR, avmN, avmM, wi64, csub, row_getD, row_reps, ↓reduceIte, decide_true, decide_false, true_imp_iff, Nat.reduceAdd, Nat.reduceMul, Nat.reduceSub, Nat.reduceLT, Nat.reduceLeDiff, Nat.reduceEqDiff, Nat.reducePow, Nat.min_eq_left, Nat.reduceMod, List.drop_zero]
      refine S.call ?_
      simp (maxSteps := 2000000) only [↓avm8, ↓avmW, avmD, avmL, avmO, avmR, avmN, avmM, wi64, csub, row_getD, row_reps, ↓reduceIte, decide_true, decide_false, true_imp_iff, Nat.reduceAdd, Nat.reduceMul, Nat.reduceSub, Nat.reduceLT, Nat.reduceLeDiff, Nat.reduceEqDiff, Nat.reducePow, Nat.min_eq_left, Nat.reduceMod, List.drop_zero, e2]
      refine C.call ?_
      simp (maxSteps := 2000000) only [↓avm8, ↓avmW, avmD, avmL, avmO, avmR, avmN, avmM, wi64, csub, row_getD, row_reps, ↓reduceIte, decide_true, decide_false, true_imp_iff, Nat.reduceAdd, Nat.reduceMul, Nat.reduceSub, Nat.reduceLT, Nat.reduceLeDiff, Nat.reduceEqDiff, Nat.reducePow, Nat.min_eq_left, Nat.reduceMod, List.drop_zero]
      refine ret_now ?_
      simp (maxSteps := 2000000) only [↓avm8, ↓avmW, avmD, avmL, avmO, avmR, avmN, avmM, wi64, csub, row_getD, row_reps, ↓reduceIte, decide_true, decide_false, true_imp_iff, Nat.reduceAdd, Nat.reduceMul, Nat.reduceSub, Nat.reduceLT, Nat.reduceLeDiff, Nat.reduceEqDiff, Nat.reducePow, Nat.min_eq_left, Nat.reduceMod, List.drop_zero]
    | false =>
      have hse : s = x + y := by rw [hs]; simp only [Bool.toNat_false] at o ⊢; omega
      subst hse
      have C := ref_Cmp_px (G := G) (x + y) (x + y) (dl_20 (by omega)) (dl_20 (by omega))
      rw [cmpI_self] at C
      simp (maxSteps := 2000000) only [↓avm8, ↓avmW, avmD, avmL, avmO, avmR, avmN, avmM, wi64, csub, row_getD, row_reps, ↓reduceIte, decide_true, decide_false, true_imp_iff, Nat.reduceAdd, Nat.reduceMul, Nat.reduceSub, Nat.reduceLT, Nat.reduceLeDiff, Nat.reduceEqDiff, Nat.reducePow, Nat.min_eq_left, Nat.reduceMod, List.drop_zero, o]
      refine U3.call ?_
      simp (maxSteps := 2000000) only [↓avm8, ↓avmW, avmD, avmL, avmO, avmR, avmN, avmM, wi64, csub, row_getD, row_reps, ↓reduceIte, decide_true, decide_false, true_imp_iff, Nat.reduceAdd, Nat.reduceMul, Nat.reduceSub, Nat.reduceLT, Nat.reduceLeDiff, Nat.reduceEqDiff, Nat.reducePow, Nat.min_eq_left, Nat.reduceMod, List.drop_zero]
      refine S.call ?_
      simp (maxSteps := 2000000) only [↓avm8, ↓avmW, avmD, avmL, avmO, avmR, avmN, avmM, wi64, csub, row_getD, row_reps, ↓reduceIte, decide_true, decide_false, true_imp_iff, Nat.reduceAdd, Nat.reduceMul, Nat.reduceSub, Nat.reduceLT, Nat.reduceLeDiff, Nat.reduceEqDiff, Nat.reducePow, Nat.min_eq_left, Nat.reduceMod, List.drop_zero, e2]
      refine C.call ?_
      simp (maxSteps := 2000000) only [↓avm8, ↓avmW, avmD, avmL, avmO, avmR, avmN, avmM, wi64, csub, row_getD, row_reps, ↓reduceIte, decide_true, decide_false, true_imp_iff, Nat.reduceAdd, Nat.reduceMul, Nat.reduceSub, Nat.reduceLT, Nat.reduceLeDiff, Nat.reduceEqDiff, Nat.reducePow, Nat.min_eq_left, Nat.reduceMod, List.drop_zero]
      refine ret_now ?_
      simp (maxSteps := 2000000) only [↓avm8, ↓avmW, avmD, avmL, avmO, avmR, avmN, avmM, wi64, csub, row_getD, row_reps, ↓reduceIte, decide_true, decide_false, true_imp_iff, Nat.reduceAdd, Nat.reduceMul, Nat.reduceSub, Nat.reduceLT, Nat.reduceLeDiff, Nat.reduceEqDiff, Nat.reducePow, Nat.min_eq_left, Nat.reduceMod, List.drop_zero]
end Va
