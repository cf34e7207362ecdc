/- The law BitsTwo on trees: shifted up and down again a word keeps its lower bits; the lowest bit that is set stands at Zeros. -/
import Derived.Test.YtflfgjhdofphnaaGreatDoorBT2
import Derived.Test.YtflfgjhdofphnaaGreatDoorBg2
set_option linter.unusedSimpArgs false
set_option linter.unusedVariables false
set_option maxRecDepth 100000
set_option maxHeartbeats 4000000
open Go Go.Avm
namespace Va
def ir_law1_BitsTwo : IF := (.mk (.seq (.reg [⟨(some 4), (.mov (.v (.bool false))), none⟩]) (.seq (.reg [⟨(some 8), (.call n_law1_begun []), none⟩, ⟨(some 5), (.mov (.t 8)), none⟩]) (.seq (.seq (.reg [⟨(some 9), (.mov (.t 5)), none⟩, ⟨(some 10), (.not (.t 9)), none⟩]) (.cond (.t 10) (.seq (.reg [⟨(some 4), (.mov (.v (.bool false))), none⟩]) .ret) .skip)) (.seq (.reg [⟨(some 11), (.mov (.t 1)), none⟩, ⟨(some 12), (.bin .rem (.t 11) (.v (iv .i64 64))), none⟩, ⟨(some 13), (.bin .add (.t 12) (.v (iv .i64 64))), none⟩, ⟨(some 14), (.bin .rem (.t 13) (.v (iv .i64 64))), none⟩, ⟨(some 1), (.mov (.t 14)), none⟩]) (.seq (.seq (.regD [(⟨(some 15), (.mov (.t 0)), none⟩, 1), (⟨(some 16), (.mov (.t 1)), none⟩, 1), (⟨(some 17), (.call n_bits_Shl [(.t 15), (.t 16)]), none⟩, 0), (⟨(some 18), (.mov (.t 1)), none⟩, 1), (⟨(some 19), (.call n_bits_Shr [(.t 17), (.t 18)]), none⟩, 0), (⟨(some 20), (.mov (.t 0)), none⟩, 1), (⟨(some 21), (.mov (.t 1)), none⟩, 1), (⟨(some 22), (.bin .sub (.v (iv .i64 64)) (.t 21)), none⟩, 1), (⟨(some 23), (.bin .shl (.v (iv .u64 1)) (.t 22)), none⟩, 1), (⟨(some 24), (.bin .sub (.t 23) (.v (iv .u64 1))), none⟩, 1), (⟨(some 25), (.bin .and (.t 20) (.t 24)), none⟩, 1), (⟨(some 26), (.bin .neq (.t 19) (.t 25)), none⟩, 1), (⟨(some 27), (.mov (.t 26)), none⟩, 1), (⟨(some 28), (.mov (.t 1)), (some (27, true))⟩, 1), (⟨(some 29), (.bin .gtr (.t 28) (.v (iv .i64 0))), (some (27, true))⟩, 1), (⟨(some 30), (.pick (.t 27) (.t 29) (.v (.bool false))), none⟩, 1)]) (.cond (.t 30) (.seq (.reg [⟨(some 4), (.mov (.v (.bool false))), none⟩]) .ret) .skip)) (.seq (.reg [⟨(some 31), (.mov (.t 0)), none⟩, ⟨(some 32), (.call n_bits_Zeros [(.t 31)]), none⟩, ⟨(some 33), (.mov (.t 0)), none⟩, ⟨(some 34), (.call n_bits_Len [(.t 33)]), none⟩, ⟨(some 6), (.mov (.t 32)), none⟩, ⟨(some 7), (.mov (.t 34)), none⟩]) (.seq (.seq (.reg [⟨(some 35), (.mov (.t 0)), none⟩, ⟨(some 36), (.bin .eql (.t 35) (.v (iv .u64 0))), none⟩]) (.cond (.t 36) (.seq (.reg [⟨(some 37), (.mov (.t 6)), none⟩, ⟨(some 38), (.bin .eql (.t 37) (.v (iv .i64 64))), none⟩, ⟨(some 39), (.mov (.t 38)), none⟩, ⟨(some 40), (.mov (.t 7)), (some (39, true))⟩, ⟨(some 41), (.bin .eql (.t 40) (.v (iv .i64 0))), (some (39, true))⟩, ⟨(some 42), (.pick (.t 39) (.t 41) (.v (.bool false))), none⟩, ⟨(some 4), (.mov (.t 42)), none⟩]) .ret) .skip)) (.seq (.reg [⟨(some 43), (.mov (.t 0)), none⟩, ⟨(some 44), (.mov (.t 6)), none⟩, ⟨(some 45), (.call n_bits_Shr [(.t 43), (.t 44)]), none⟩, ⟨(some 46), (.mov (.t 6)), none⟩, ⟨(some 47), (.call n_bits_Shl [(.t 45), (.t 46)]), none⟩, ⟨(some 48), (.mov (.t 0)), none⟩, ⟨(some 49), (.bin .eql (.t 47) (.t 48)), none⟩, ⟨(some 50), (.mov (.t 49)), none⟩, ⟨(some 51), (.mov (.t 0)), (some (50, true))⟩, ⟨(some 52), (.mov (.t 6)), (some (50, true))⟩, ⟨(some 53), (.call n_bits_Shr [(.t 51), (.t 52)]), (some (50, true))⟩, ⟨(some 54), (.bin .and (.t 53) (.v (iv .u64 1))), (some (50, true))⟩, ⟨(some 55), (.bin .eql (.t 54) (.v (iv .u64 1))), (some (50, true))⟩, ⟨(some 56), (.pick (.t 50) (.t 55) (.v (.bool false))), none⟩, ⟨(some 57), (.mov (.t 56)), none⟩, ⟨(some 58), (.mov (.t 0)), (some (57, true))⟩, ⟨(some 59), (.mov (.t 7)), (some (57, true))⟩, ⟨(some 60), (.call n_bits_Shr [(.t 58), (.t 59)]), (some (57, true))⟩, ⟨(some 61), (.bin .eql (.t 60) (.v (iv .u64 0))), (some (57, true))⟩, ⟨(some 62), (.pick (.t 57) (.t 61) (.v (.bool false))), none⟩, ⟨(some 63), (.mov (.t 62)), none⟩, ⟨(some 64), (.mov (.t 0)), (some (63, true))⟩, ⟨(some 65), (.mov (.t 7)), (some (63, true))⟩, ⟨(some 66), (.bin .sub (.t 65) (.v (iv .i64 1))), (some (63, true))⟩, ⟨(some 67), (.call n_bits_Shr [(.t 64), (.t 66)]), (some (63, true))⟩, ⟨(some 68), (.bin .eql (.t 67) (.v (iv .u64 1))), (some (63, true))⟩, ⟨(some 69), (.pick (.t 63) (.t 68) (.v (.bool false))), none⟩, ⟨(some 4), (.mov (.t 69)), none⟩]) .ret)))))))) [(.t 4)] 70)
theorem low_law1_BitsTwo : lowF P n_law1_BitsTwo = some ir_law1_BitsTwo := by kernel_rfl
variable {G : Glob}
theorem BitsTwo_px (hG : GOK G) (x : Nat) (n : Int) (hx : x < 18446744073709551616) (hn : -9223372036854775808 ≤ n ∧ n ≤ 9223372036854775807) : PX P G n_law1_BitsTwo [.int .u64 x, .int .i64 n] (.bool true) := by
  refine PX_of_awp low_law1_BitsTwo fol (by simp only [avmF, and_true]) (by simp only [avmF, and_true]) ?_
  obtain ⟨k, hk, hk2⟩ := wrapmod n 64 (by decide) (by decide)
  have hm : IntKind.u64.wrap (((2 ^ (64 - k) % 18446744073709551616 : Nat) : Int) - ((1 : Nat) : Int)) = ((2 ^ (64 - k) - 1 : Nat) : Int) := by
    have h0 : 0 < 2 ^ (64 - k) := Nat.pow_pos (by decide)
    have h1 : 2 ^ (64 - k) ≤ 2 ^ 64 := Nat.pow_le_pow_right (by decide) (by omega)
    rw [show (2 : Nat) ^ 64 = 18446744073709551616 by rfl] at h1
    rw [wu64_mod]
    generalize 2 ^ (64 - k) = z at *
    omega
  have hE := lowmask x (64 - k) (by omega)
  have hU := updown (x := x) (k := k) (by omega)
  simp only [ir_law1_BitsTwo, initF, List.replicate, Nat.reduceAdd, Nat.reduceSub, iv, avmL]
  simp (disch := omega) only [↓avmW, avmD, avmL, avmO, avmR, avmN, avmM, wi64, csub, row_getD, row_reps, ↓reduceIte, decide_true, decide_false, Nat.reduceAdd, Nat.reduceMul, Nat.reduceSub, Nat.reduceLT, Nat.reduceLeDiff, Nat.reduceEqDiff, Nat.reducePow, Nat.min_eq_left, Nat.reduceMod, List.drop_zero]
  refine (begun_px hG).call ?_
  simp (disch := omega) only [↓avmW, avmD, avmL, avmO, avmR, avmN, avmM, wi64, csub, row_getD, row_reps, ↓reduceIte, decide_true, decide_false, Nat.reduceAdd, Nat.reduceMul, Nat.reduceSub, Nat.reduceLT, Nat.reduceLeDiff, Nat.reduceEqDiff, Nat.reducePow, Nat.min_eq_left, Nat.reduceMod, List.drop_zero, hk]
  refine (bits_Shl_n x k hx (by omega)).fcall ?_
  simp (disch := omega) only [↓avmW, avmD, avmL, avmO, avmR, avmN, avmM, wi64, csub, row_getD, row_reps, ↓reduceIte, decide_true, decide_false, Nat.reduceAdd, Nat.reduceMul, Nat.reduceSub, Nat.reduceLT, Nat.reduceLeDiff, Nat.reduceEqDiff, Nat.reducePow, Nat.min_eq_left, Nat.reduceMod, List.drop_zero, hk]
  refine (bits_Shr_n _ k (Nat.mod_lt _ (by decide)) (by omega)).fcall ?_
  simp (disch := omega) only [↓avmW, avmD, avmL, avmO, avmR, avmN, avmM, wi64, csub, row_getD, row_reps, ↓reduceIte, decide_true, decide_false, Nat.reduceAdd, Nat.reduceMul, Nat.reduceSub, Nat.reduceLT, Nat.reduceLeDiff, Nat.reduceEqDiff, Nat.reducePow, Nat.min_eq_left, Nat.reduceMod, List.drop_zero, hk, avmF, hm, hE, hU]
  refine (bits_Zeros_px x hx).call ?_
  simp (disch := omega) only [↓avmW, avmD, avmL, avmO, avmR, avmN, avmM, wi64, csub, row_getD, row_reps, ↓reduceIte, decide_true, decide_false, Nat.reduceAdd, Nat.reduceMul, Nat.reduceSub, Nat.reduceLT, Nat.reduceLeDiff, Nat.reduceEqDiff, Nat.reducePow, Nat.min_eq_left, Nat.reduceMod, List.drop_zero]
  refine (bits_Len_px x hx).call ?_
  have hd : dl 2 x ≤ 64 := (dl_le_iff (by decide)).2 (by simpa using hx)
  have hz := ctz_le 64 x
  clear hE hU hm
  by_cases h0 : x = 0
  · subst h0
    simp (disch := omega) only [↓avmW, avmD, avmL, avmO, avmR, avmN, avmM, wi64, csub, row_getD, row_reps, ↓reduceIte, decide_true, decide_false, Nat.reduceAdd, Nat.reduceMul, Nat.reduceSub, Nat.reduceLT, Nat.reduceLeDiff, Nat.reduceEqDiff, Nat.reducePow, Nat.min_eq_left, Nat.reduceMod, List.drop_zero, ctz_zero, dl_zero]
    refine ret_now ?_
    simp (disch := omega) only [↓avmW, avmD, avmL, avmO, avmR, avmN, avmM, wi64, csub, row_getD, row_reps, ↓reduceIte, decide_true, decide_false, Nat.reduceAdd, Nat.reduceMul, Nat.reduceSub, Nat.reduceLT, Nat.reduceLeDiff, Nat.reduceEqDiff, Nat.reducePow, Nat.min_eq_left, Nat.reduceMod, List.drop_zero]
  · obtain ⟨f1, f2, f3, f4⟩ := two_facts (by omega) hx
    have hd0 : 0 < dl 2 x := by rw [dl_pos (by decide) (by omega)]; omega
    simp (disch := omega) only [↓avmW, avmD, avmL, avmO, avmR, avmN, avmM, wi64, csub, row_getD, row_reps, ↓reduceIte, decide_true, decide_false, Nat.reduceAdd, Nat.reduceMul, Nat.reduceSub, Nat.reduceLT, Nat.reduceLeDiff, Nat.reduceEqDiff, Nat.reducePow, Nat.min_eq_left, Nat.reduceMod, List.drop_zero, decide_eq_false h0]
    refine (bits_Shr_n x _ hx (by omega)).call ?_
    simp (disch := omega) only [↓avmW, avmD, avmL, avmO, avmR, avmN, avmM, wi64, csub, row_getD, row_reps, ↓reduceIte, decide_true, decide_false, Nat.reduceAdd, Nat.reduceMul, Nat.reduceSub, Nat.reduceLT, Nat.reduceLeDiff, Nat.reduceEqDiff, Nat.reducePow, Nat.min_eq_left, Nat.reduceMod, List.drop_zero]
    refine (bits_Shl_n _ _ (Nat.lt_of_le_of_lt (Nat.div_le_self _ _) hx) (by omega)).call ?_
    simp (disch := omega) only [↓avmW, avmD, avmL, avmO, avmR, avmN, avmM, wi64, csub, row_getD, row_reps, ↓reduceIte, decide_true, decide_false, Nat.reduceAdd, Nat.reduceMul, Nat.reduceSub, Nat.reduceLT, Nat.reduceLeDiff, Nat.reduceEqDiff, Nat.reducePow, Nat.min_eq_left, Nat.reduceMod, List.drop_zero, f1]
    refine (bits_Shr_n x _ hx (by omega)).call ?_
    simp (disch := omega) only [↓avmW, avmD, avmL, avmO, avmR, avmN, avmM, wi64, csub, row_getD, row_reps, ↓reduceIte, decide_true, decide_false, Nat.reduceAdd, Nat.reduceMul, Nat.reduceSub, Nat.reduceLT, Nat.reduceLeDiff, Nat.reduceEqDiff, Nat.reducePow, Nat.min_eq_left, Nat.reduceMod, List.drop_zero, f1, f2]
    refine (bits_Shr_n x _ hx (by omega)).call ?_
    simp (disch := omega) only [↓avmW, avmD, avmL, avmO, avmR, avmN, avmM, wi64, csub, row_getD, row_reps, ↓reduceIte, decide_true, decide_false, Nat.reduceAdd, Nat.reduceMul, Nat.reduceSub, Nat.reduceLT, Nat.reduceLeDiff, Nat.reduceEqDiff, Nat.reducePow, Nat.min_eq_left, Nat.reduceMod, List.drop_zero, f1, f2, f3]
    refine (bits_Shr_n x _ hx (by omega)).call ?_
    simp (disch := omega) only [↓avmW, avmD, avmL, avmO, avmR, avmN, avmM, wi64, csub, row_getD, row_reps, ↓reduceIte, decide_true, decide_false, Nat.reduceAdd, Nat.reduceMul, Nat.reduceSub, Nat.reduceLT, Nat.reduceLeDiff, Nat.reduceEqDiff, Nat.reducePow, Nat.min_eq_left, Nat.reduceMod, List.drop_zero, f1, f2, f3, f4]
    refine ret_now ?_
    simp (disch := omega) only [↓avmW, avmD, avmL, avmO, avmR, avmN, avmM, wi64, csub, row_getD, row_reps, ↓reduceIte, decide_true, decide_false, Nat.reduceAdd, Nat.reduceMul, Nat.reduceSub, Nat.reduceLT, Nat.reduceLeDiff, Nat.reduceEqDiff, Nat.reducePow, Nat.min_eq_left, Nat.reduceMod, List.drop_zero, f1, f2, f3, f4]
end Va
