/- The law BitsSigned on trees (cases printed by tools/gensigned.py). -/
import Derived.Test.YtflfgjhdofphnabGreatDoorBS1
import Derived.Test.YtflfgjhdofphnabGreatDoorBM5
import Derived.Test.YtflfgjhdofphnabGreatDoorBG
set_option linter.unusedSimpArgs false
set_option linter.unusedVariables false
set_option maxRecDepth 100000
set_option maxHeartbeats 4000000
open Go Go.Avm
namespace Va
def ir_law1_BitsSigned : IF := (.mk (.seq (.reg [⟨(some 8), (.mov (.v (.bool false))), none⟩]) (.seq (.reg [⟨(some 20), (.call n_law1_begun []), none⟩, ⟨(some 9), (.mov (.t 20)), none⟩]) (.seq (.seq (.reg [⟨(some 21), (.mov (.t 9)), none⟩, ⟨(some 22), (.not (.t 21)), none⟩]) (.cond (.t 22) (.seq (.reg [⟨(some 8), (.mov (.v (.bool false))), none⟩]) .ret) .skip)) (.seq (.reg [⟨(some 23), (.mov (.t 0)), none⟩, ⟨(some 24), (.call n_bits_Abs [(.t 23)]), none⟩, ⟨(some 10), (.mov (.t 24)), none⟩]) (.seq (.reg [⟨(some 26), (.mov (.t 0)), none⟩, ⟨(some 27), (.bin .lss (.t 26) (.v (iv .i64 0))), none⟩, ⟨(some 28), (.mov (.t 10)), none⟩, ⟨(some 29), (.call n_bits_Signed [(.t 27), (.t 28)]), none⟩, ⟨(some 25), (.mov (.t 29)), none⟩, ⟨(some 30), (.ext (.t 25) 0), none⟩, ⟨(some 31), (.ext (.t 25) 1), none⟩, ⟨(some 11), (.mov (.t 30)), none⟩, ⟨(some 12), (.mov (.t 31)), none⟩]) (.seq (.reg [⟨(some 33), (.mov (.t 2)), none⟩, ⟨(some 34), (.mov (.t 1)), none⟩, ⟨(some 35), (.call n_bits_Signed [(.t 33), (.t 34)]), none⟩, ⟨(some 32), (.mov (.t 35)), none⟩, ⟨(some 36), (.ext (.t 32) 0), none⟩, ⟨(some 37), (.ext (.t 32) 1), none⟩, ⟨(some 13), (.mov (.t 36)), none⟩, ⟨(some 14), (.mov (.t 37)), none⟩]) (.seq (.reg [⟨(some 38), (.mov (.t 1)), none⟩, ⟨(some 39), (.bin .leq (.t 38) (.v (iv .u64 9223372036854775807))), none⟩, ⟨(some 40), (.mov (.t 39)), none⟩, ⟨(some 41), (.mov (.t 2)), (some (40, false))⟩, ⟨(some 42), (.mov (.t 41)), (some (40, false))⟩, ⟨(some 43), (.mov (.t 1)), (some (42, true))⟩, ⟨(some 44), (.bin .eql (.t 43) (.v (iv .u64 9223372036854775808))), (some (42, true))⟩, ⟨(some 45), (.pick (.t 42) (.t 44) (.v (.bool false))), (some (40, false))⟩, ⟨(some 46), (.pick (.t 40) (.v (.bool true)) (.t 45)), none⟩, ⟨(some 15), (.mov (.t 46)), none⟩]) (.seq (.seq (.reg [⟨(some 47), (.mov (.t 12)), none⟩, ⟨(some 48), (.not (.t 47)), none⟩, ⟨(some 49), (.mov (.t 48)), none⟩, ⟨(some 50), (.mov (.t 11)), (some (49, false))⟩, ⟨(some 51), (.mov (.t 0)), (some (49, false))⟩, ⟨(some 52), (.bin .neq (.t 50) (.t 51)), (some (49, false))⟩, ⟨(some 53), (.pick (.t 49) (.v (.bool true)) (.t 52)), none⟩, ⟨(some 54), (.mov (.t 53)), none⟩, ⟨(some 55), (.mov (.t 14)), (some (54, false))⟩, ⟨(some 56), (.mov (.t 15)), (some (54, false))⟩, ⟨(some 57), (.eqb true (.t 55) (.t 56)), (some (54, false))⟩, ⟨(some 58), (.pick (.t 54) (.v (.bool true)) (.t 57)), none⟩, ⟨(some 59), (.mov (.t 58)), none⟩, ⟨(some 60), (.mov (.t 14)), (some (59, false))⟩, ⟨(some 61), (.not (.t 60)), (some (59, false))⟩, ⟨(some 62), (.mov (.t 61)), (some (59, false))⟩, ⟨(some 63), (.mov (.t 13)), (some (62, true))⟩, ⟨(some 64), (.bin .neq (.t 63) (.v (iv .i64 0))), (some (62, true))⟩, ⟨(some 65), (.pick (.t 62) (.t 64) (.v (.bool false))), (some (59, false))⟩, ⟨(some 66), (.pick (.t 59) (.v (.bool true)) (.t 65)), none⟩, ⟨(some 67), (.mov (.t 66)), none⟩, ⟨(some 68), (.mov (.t 14)), (some (67, false))⟩, ⟨(some 69), (.mov (.t 68)), (some (67, false))⟩, ⟨(some 70), (.mov (.t 13)), (some (69, true))⟩, ⟨(some 71), (.call n_bits_Abs [(.t 70)]), (some (69, true))⟩, ⟨(some 72), (.mov (.t 1)), (some (69, true))⟩, ⟨(some 73), (.bin .neq (.t 71) (.t 72)), (some (69, true))⟩, ⟨(some 74), (.mov (.t 73)), (some (69, true))⟩, ⟨(some 75), (.mov (.t 1)), (some (74, false))⟩, ⟨(some 76), (.bin .gtr (.t 75) (.v (iv .u64 0))), (some (74, false))⟩, ⟨(some 77), (.mov (.t 76)), (some (74, false))⟩, ⟨(some 78), (.mov (.t 13)), (some (77, true))⟩, ⟨(some 79), (.bin .lss (.t 78) (.v (iv .i64 0))), (some (77, true))⟩, ⟨(some 80), (.mov (.t 2)), (some (77, true))⟩, ⟨(some 81), (.eqb true (.t 79) (.t 80)), (some (77, true))⟩, ⟨(some 82), (.pick (.t 77) (.t 81) (.v (.bool false))), (some (74, false))⟩, ⟨(some 83), (.pick (.t 74) (.v (.bool true)) (.t 82)), (some (69, true))⟩, ⟨(some 84), (.pick (.t 69) (.t 83) (.v (.bool false))), (some (67, false))⟩, ⟨(some 85), (.pick (.t 67) (.v (.bool true)) (.t 84)), none⟩]) (.cond (.t 85) (.seq (.reg [⟨(some 8), (.mov (.v (.bool false))), none⟩]) .ret) .skip)) (.seq (.reg [⟨(some 87), (.mov (.t 0)), none⟩, ⟨(some 88), (.mov (.t 3)), none⟩, ⟨(some 89), (.call n_bits_Narrow [(.t 87), (.t 88)]), none⟩, ⟨(some 86), (.mov (.t 89)), none⟩, ⟨(some 90), (.ext (.t 86) 0), none⟩, ⟨(some 91), (.ext (.t 86) 1), none⟩, ⟨(some 16), (.mov (.t 90)), none⟩, ⟨(some 17), (.mov (.t 91)), none⟩]) (.seq (.seq (.reg [⟨(some 92), (.mov (.t 3)), none⟩, ⟨(some 93), (.bin .lss (.t 92) (.v (iv .i64 1))), none⟩, ⟨(some 94), (.mov (.t 93)), none⟩, ⟨(some 95), (.mov (.t 3)), (some (94, false))⟩, ⟨(some 96), (.bin .gtr (.t 95) (.v (iv .i64 64))), (some (94, false))⟩, ⟨(some 97), (.pick (.t 94) (.v (.bool true)) (.t 96)), none⟩]) (.cond (.t 97) (.seq (.reg [⟨(some 98), (.mov (.t 16)), none⟩, ⟨(some 99), (.bin .eql (.t 98) (.v (iv .i64 0))), none⟩, ⟨(some 100), (.mov (.t 99)), none⟩, ⟨(some 101), (.mov (.t 17)), (some (100, true))⟩, ⟨(some 102), (.not (.t 101)), (some (100, true))⟩, ⟨(some 103), (.pick (.t 100) (.t 102) (.v (.bool false))), none⟩, ⟨(some 8), (.mov (.t 103)), none⟩]) .ret) .skip)) (.seq (.reg [⟨(some 104), (.mov (.t 0)), none⟩, ⟨(some 105), (.conv .u64 (.t 104)), none⟩, ⟨(some 106), (.call n_ref1_Bits [(.t 105)]), none⟩, ⟨(some 18), (.alloc t_64_bool [(.bool false), (.bool false), (.bool false), (.bool false), (.bool false), (.bool false), (.bool false), (.bool false), (.bool false), (.bool false), (.bool false), (.bool false), (.bool false), (.bool false), (.bool false), (.bool false), (.bool false), (.bool false), (.bool false), (.bool false), (.bool false), (.bool false), (.bool false), (.bool false), (.bool false), (.bool false), (.bool false), (.bool false), (.bool false), (.bool false), (.bool false), (.bool false), (.bool false), (.bool false), (.bool false), (.bool false), (.bool false), (.bool false), (.bool false), (.bool false), (.bool false), (.bool false), (.bool false), (.bool false), (.bool false), (.bool false), (.bool false), (.bool false), (.bool false), (.bool false), (.bool false), (.bool false), (.bool false), (.bool false), (.bool false), (.bool false), (.bool false), (.bool false), (.bool false), (.bool false), (.bool false), (.bool false), (.bool false), (.bool false)]), none⟩, ⟨none, (.store 64 (.t 18) (.t 106)), none⟩]) (.seq (.seq (.reg [⟨(some 107), (.mov (.t 3)), none⟩, ⟨(some 19), (.mov (.t 107)), none⟩]) (.block 0 (.loop (.seq (.seq (.reg [⟨(some 108), (.mov (.t 19)), none⟩, ⟨(some 109), (.bin .lss (.t 108) (.v (iv .i64 64))), none⟩]) (.cond (.t 109) .skip (.exit 0))) (.seq (.block 1 (.reg [⟨(some 112), (.mov (.t 19)), none⟩, ⟨(some 113), (.mov (.t 3)), none⟩, ⟨(some 114), (.bin .sub (.t 113) (.v (iv .i64 1))), none⟩, ⟨(some 115), (.idxP 64 1 (.t 18) (.t 114)), none⟩, ⟨(some 116), (.load none (.t 115)), none⟩, ⟨(some 117), (.idxP 64 1 (.t 18) (.t 112)), none⟩, ⟨none, (.store 1 (.t 117) (.t 116)), none⟩])) (.reg [⟨(some 110), (.mov (.t 19)), none⟩, ⟨(some 111), (.bin .add (.t 110) (.v (iv .i64 1))), none⟩, ⟨(some 19), (.mov (.t 111)), none⟩])))))) (.seq (.reg [⟨(some 118), (.mov (.t 16)), none⟩, ⟨(some 119), (.conv .u64 (.t 118)), none⟩, ⟨(some 120), (.load (some 64) (.t 18)), none⟩, ⟨(some 121), (.call n_ref1_Word [(.t 120)]), none⟩, ⟨(some 122), (.bin .eql (.t 119) (.t 121)), none⟩, ⟨(some 123), (.mov (.t 122)), none⟩, ⟨(some 124), (.mov (.t 17)), (some (123, true))⟩, ⟨(some 125), (.mov (.t 16)), (some (123, true))⟩, ⟨(some 126), (.mov (.t 0)), (some (123, true))⟩, ⟨(some 127), (.bin .eql (.t 125) (.t 126)), (some (123, true))⟩, ⟨(some 128), (.eqb false (.t 124) (.t 127)), (some (123, true))⟩, ⟨(some 129), (.pick (.t 123) (.t 128) (.v (.bool false))), none⟩, ⟨(some 8), (.mov (.t 129)), none⟩]) .ret))))))))))))) [(.t 8)] 130)
theorem low_law1_BitsSigned : lowF P n_law1_BitsSigned = some ir_law1_BitsSigned := by kernel_rfl
variable {G : Glob}
theorem bE : (∀ a : Int, (a ≠ a) = False) ∧ (∀ a : Nat, (a ≠ a) = False) ∧ (∀ a : Int, (a = a) = True) ∧ (∀ a : Nat, (a = a) = True) ∧ ((true == true) = true) ∧ ((false == false) = true) ∧ ((true != true) = false) ∧ ((true != false) = true) ∧ (¬ True) = False := by
  refine ⟨?_, ?_, ?_, ?_, rfl, rfl, rfl, rfl, ?_⟩ <;> simp
theorem sg_a (hG : GOK G) (x t : Int) (X u : Nat) (w : Int) (hx : -9223372036854775808 ≤ x ∧ x ≤ 9223372036854775807) (hu : u < 18446744073709551616) (hX : IntKind.u64.wrap x = (X : Int)) (hXt : x = (X : Int) + 18446744073709551616 * t) (hXl : X < 18446744073709551616) (hc : 0 < u ∧ u ≤ 9223372036854775807) : PX P G n_law1_BitsSigned [.int .i64 x, .int .u64 (u : Int), .bool true, .int .i64 w] (.bool true) := by
  refine PX_of_awp low_law1_BitsSigned fol (by simp only [avmF, and_true]) (by simp only [avmF, and_true]) ?_
  have hA := bits_Abs_px (G := G) x hx
  have hS1 := bits_Signed_self (G := G) x hx
  have hS2 := bits_Signed_neg (G := G) u (by omega)
  have hA2 := bits_Abs_px (G := G) (-(u : Int)) (by omega)
  rw [show (-(u : Int)).natAbs = u by omega] at hA2
  have f1 := hc.1
  have f2 := hc.2
  have f3 : -(u : Int) < 0 := by omega
  have f4 : -(u : Int) < ((0 : Nat) : Int) := by omega
  simp only [ir_law1_BitsSigned, initF, List.replicate, Nat.reduceAdd, Nat.reduceSub, iv, avmL]
  simp (maxSteps := 2000000) only [↓avm8, ↓avmW, avmD, avmL, avmO, avmR, avmN, avmM, wi64, csub, row_getD, row_reps, ↓reduceIte, decide_true, decide_false, true_imp_iff, Nat.reduceAdd, Nat.reduceMul, Nat.reduceSub, Nat.reduceLT, Nat.reduceLeDiff, Nat.reduceEqDiff, Nat.reducePow, Nat.min_eq_left, Nat.reduceMod, List.drop_zero]
  refine (begun_px hG).call ?_
  simp (maxSteps := 2000000) only [↓avm8, ↓avmW, avmD, avmL, avmO, avmR, avmN, avmM, wi64, csub, row_getD, row_reps, ↓reduceIte, decide_true, decide_false, true_imp_iff, Nat.reduceAdd, Nat.reduceMul, Nat.reduceSub, Nat.reduceLT, Nat.reduceLeDiff, Nat.reduceEqDiff, Nat.reducePow, Nat.min_eq_left, Nat.reduceMod, List.drop_zero]
  refine hA.call ?_
  simp (maxSteps := 2000000) only [↓avm8, ↓avmW, avmD, avmL, avmO, avmR, avmN, avmM, wi64, csub, row_getD, row_reps, ↓reduceIte, decide_true, decide_false, true_imp_iff, Nat.reduceAdd, Nat.reduceMul, Nat.reduceSub, Nat.reduceLT, Nat.reduceLeDiff, Nat.reduceEqDiff, Nat.reducePow, Nat.min_eq_left, Nat.reduceMod, List.drop_zero]
  refine hS1.call ?_
  simp (maxSteps := 2000000) only [↓avm8, ↓avmW, avmD, avmL, avmO, avmR, avmN, avmM, wi64, csub, row_getD, row_reps, ↓reduceIte, decide_true, decide_false, true_imp_iff, Nat.reduceAdd, Nat.reduceMul, Nat.reduceSub, Nat.reduceLT, Nat.reduceLeDiff, Nat.reduceEqDiff, Nat.reducePow, Nat.min_eq_left, Nat.reduceMod, List.drop_zero]
  refine hS2.call ?_
  simp (maxSteps := 2000000) only [↓avm8, ↓avmW, avmD, avmL, avmO, avmR, avmN, avmM, wi64, csub, row_getD, row_reps, ↓reduceIte, decide_true, decide_false, true_imp_iff, Nat.reduceAdd, Nat.reduceMul, Nat.reduceSub, Nat.reduceLT, Nat.reduceLeDiff, Nat.reduceEqDiff, Nat.reducePow, Nat.min_eq_left, Nat.reduceMod, List.drop_zero, bE, f1, f2, f3, f4]
  refine hA2.call ?_
  simp (maxSteps := 2000000) only [↓avm8, ↓avmW, avmD, avmL, avmO, avmR, avmN, avmM, wi64, csub, row_getD, row_reps, ↓reduceIte, decide_true, decide_false, true_imp_iff, Nat.reduceAdd, Nat.reduceMul, Nat.reduceSub, Nat.reduceLT, Nat.reduceLeDiff, Nat.reduceEqDiff, Nat.reducePow, Nat.min_eq_left, Nat.reduceMod, List.drop_zero, bE, f1, f2, f3, f4]
  by_cases hw : w < 1 ∨ 64 < w
  · refine (bits_Narrow_no x w hw).call ?_
    rcases hw with h | h
    · have h' : w < ((1 : Nat) : Int) := h
      simp (maxSteps := 2000000) only [↓avm8, ↓avmW, avmD, avmL, avmO, avmR, avmN, avmM, wi64, csub, row_getD, row_reps, ↓reduceIte, decide_true, decide_false, true_imp_iff, Nat.reduceAdd, Nat.reduceMul, Nat.reduceSub, Nat.reduceLT, Nat.reduceLeDiff, Nat.reduceEqDiff, Nat.reducePow, Nat.min_eq_left, Nat.reduceMod, List.drop_zero, h, h']
      refine ret_now ?_
      simp (maxSteps := 2000000) only [↓avm8, ↓avmW, avmD, avmL, avmO, avmR, avmN, avmM, wi64, csub, row_getD, row_reps, ↓reduceIte, decide_true, decide_false, true_imp_iff, Nat.reduceAdd, Nat.reduceMul, Nat.reduceSub, Nat.reduceLT, Nat.reduceLeDiff, Nat.reduceEqDiff, Nat.reducePow, Nat.min_eq_left, Nat.reduceMod, List.drop_zero]
    · have h' : ((64 : Nat) : Int) < w := h
      have h1 : ¬ w < ((1 : Nat) : Int) := by omega
      have h1' : ¬ w < (1 : Int) := by omega
      simp (maxSteps := 2000000) only [↓avm8, ↓avmW, avmD, avmL, avmO, avmR, avmN, avmM, wi64, csub, row_getD, row_reps, ↓reduceIte, decide_true, decide_false, true_imp_iff, Nat.reduceAdd, Nat.reduceMul, Nat.reduceSub, Nat.reduceLT, Nat.reduceLeDiff, Nat.reduceEqDiff, Nat.reducePow, Nat.min_eq_left, Nat.reduceMod, List.drop_zero, h, h', h1, h1']
      refine ret_now ?_
      simp (maxSteps := 2000000) only [↓avm8, ↓avmW, avmD, avmL, avmO, avmR, avmN, avmM, wi64, csub, row_getD, row_reps, ↓reduceIte, decide_true, decide_false, true_imp_iff, Nat.reduceAdd, Nat.reduceMul, Nat.reduceSub, Nat.reduceLT, Nat.reduceLeDiff, Nat.reduceEqDiff, Nat.reducePow, Nat.min_eq_left, Nat.reduceMod, List.drop_zero]
  · obtain ⟨k, rfl⟩ : ∃ k : Nat, w = (k : Int) := ⟨w.toNat, by omega⟩
    have k1 : 1 ≤ k := by omega
    have k2 : k ≤ 64 := by omega
    have a1 : ¬ k < 1 := by omega
    have a2 : ¬ 64 < k := by omega
    refine (bits_Narrow_px x k k1 k2).call ?_
    have hnb := narrow_bits x X k t k1 k2 hXt
    simp (maxSteps := 2000000) only [↓avm8, ↓avmW, avmD, avmL, avmO, avmR, avmN, avmM, wi64, csub, row_getD, row_reps, ↓reduceIte, decide_true, decide_false, true_imp_iff, Nat.reduceAdd, Nat.reduceMul, Nat.reduceSub, Nat.reduceLT, Nat.reduceLeDiff, Nat.reduceEqDiff, Nat.reducePow, Nat.min_eq_left, Nat.reduceMod, List.drop_zero, a1, a2, hX]
    refine (ref_Bits_px X hXl).call ?_
    have hbx := bitsF_length X.testBit
    have hp1 : putAt (bl (List.replicate 64 false)) 0 (bl (bitsF X.testBit)) = bl (bitsF X.testBit) := putAt_bl (by simp [hbx])
    simp (maxSteps := 2000000) only [↓avm8, ↓avmW, avmD, avmL, avmO, avmR, avmN, avmM, wi64, csub, row_getD, row_reps, ↓reduceIte, decide_true, decide_false, true_imp_iff, Nat.reduceAdd, Nat.reduceMul, Nat.reduceSub, Nat.reduceLT, Nat.reduceLeDiff, Nat.reduceEqDiff, Nat.reducePow, Nat.min_eq_left, Nat.reduceMod, List.drop_zero, avmB, hbx]
    refine loop_of (fun q : Nat × List Bool => ⟨(.int .i64 x :: .junk :: .junk :: .int .i64 k :: .junk :: .junk :: .junk :: .junk :: .junk :: .junk :: .junk :: .junk :: .junk :: .junk :: .junk :: .junk :: .int .i64 (narrow x (64 - k)) :: .bool (decide (narrow x (64 - k) = x)) :: .own 0 0 :: .int .i64 q.1 :: .junk :: .junk :: .junk :: .junk :: .junk :: .junk :: .junk :: .junk :: .junk :: .junk :: .junk :: .junk :: .junk :: .junk :: .junk :: .junk :: .junk :: .junk :: .junk :: .junk :: .junk :: .junk :: .junk :: .junk :: .junk :: .junk :: .junk :: .junk :: .junk :: .junk :: .junk :: .junk :: .junk :: .junk :: .junk :: .junk :: .junk :: .junk :: .junk :: .junk :: .junk :: .junk :: .junk :: .junk :: .junk :: .junk :: .junk :: .junk :: .junk :: .junk :: .junk :: .junk :: .junk :: .junk :: .junk :: .junk :: .junk :: .junk :: .junk :: .junk :: .junk :: .junk :: .junk :: .junk :: .junk :: .junk :: .junk :: .junk :: .junk :: .junk :: .junk :: .junk :: .junk :: .junk :: .junk :: .junk :: .junk :: .junk :: .junk :: .junk :: .junk :: .junk :: .junk :: .junk :: .junk :: .junk :: .junk :: .junk :: .junk :: .junk :: .junk :: .junk :: .junk :: .junk :: .junk :: .junk :: .junk :: .junk :: .junk :: .junk :: .junk :: .junk :: .junk :: .junk :: .junk :: .junk :: .junk :: .junk :: .junk :: .junk :: []), [.arr t_64_bool 64 false (putAt (bl (List.replicate 64 false)) 0 (bl q.2))]⟩)
      (fun q => q.1 ≤ 64 ∧ k ≤ q.1 ∧ q.2.length = 64 ∧ ∀ j, j < q.1 → q.2.getD j false = nrw X k j) (fun q => 64 - q.1) (k, bitsF X.testBit) [0, 3, 16, 17, 18, 19] rfl ⟨k2, Nat.le_refl _, hbx, fun j hj => by simp only at hj ⊢; rw [bitsF_getD, if_pos (by omega), nrw, if_pos hj]⟩ ?_
    rintro ⟨i, l⟩ ⟨hi, hki, hl, hb⟩
    simp only at hi hki hl hb
    have hp2 : putAt (bl (List.replicate 64 false)) 0 (bl l) = bl l := putAt_bl (by simp [hl])
    have hp3 : putAt (bl (List.replicate 64 false)) 0 (bl (l.set i (X.testBit (k - 1)))) = bl (l.set i (X.testBit (k - 1))) := putAt_bl (by simp [hl])
    by_cases h0 : i < 64
    · have w1 : IntKind.i64.wrap ((i : Int) + ((1 : Nat) : Int)) = ((i + 1 : Nat) : Int) := wi64 (n := i + 1) (by omega)
      have w1' : IntKind.i64.wrap ((i + 1 : Nat) : Int) = ((i + 1 : Nat) : Int) := wi64 (by omega)
      have w2 : IntKind.i64.wrap ((k : Int) - ((1 : Nat) : Int)) = ((k - 1 : Nat) : Int) := by rw [wi64_in (by omega) (by omega)]; omega
      have i63 : i ≤ 63 := by omega
      have q63 : k - 1 ≤ 63 := by omega
      have q64 : k - 1 < 64 := by omega
      have hkl : k - 1 < l.length := by omega
      have g1 := bl_getD hkl
      rw [hb (k - 1) (by omega), show nrw X k (k - 1) = X.testBit (k - 1) by unfold nrw; split <;> rfl] at g1
      simp (maxSteps := 2000000) only [↓avm8, ↓avmW, avmD, avmL, avmO, avmR, avmN, avmM, wi64, csub, row_getD, row_reps, ↓reduceIte, decide_true, decide_false, true_imp_iff, Nat.reduceAdd, Nat.reduceMul, Nat.reduceSub, Nat.reduceLT, Nat.reduceLeDiff, Nat.reduceEqDiff, Nat.reducePow, Nat.min_eq_left, Nat.reduceMod, List.drop_zero, h0, avmB, hl, hp2, w1, w1', w2, i63, q63, q64, g1]
      refine LN.next (i + 1, l.set i (X.testBit (k - 1))) [0, 3, 16, 17, 18, 19] ⟨by simp only; omega, by simp only; omega, by simp only [List.length_set]; exact hl, fun j hj => ?_⟩ (by simp only; omega) (by simp only [hp3]; rfl)
      simp only at hj ⊢
      by_cases e : j = i
      · subst e; rw [bgetD_set_eq (by omega), nrw, if_neg (by omega)]
      · rw [bgetD_set_ne (Ne.symm e)]; exact hb j (by omega)
    · have e : i = 64 := by omega
      subst e
      have hL := bitsF_of hl hb
      have ht : l.take 64 = l := List.take_of_length_le (by omega)
      have hW := ref_Word_px (G := G) l hl
      rw [← hL] at hnb
      simp (maxSteps := 2000000) only [↓avm8, ↓avmW, avmD, avmL, avmO, avmR, avmN, avmM, wi64, csub, row_getD, row_reps, ↓reduceIte, decide_true, decide_false, true_imp_iff, Nat.reduceAdd, Nat.reduceMul, Nat.reduceSub, Nat.reduceLT, Nat.reduceLeDiff, Nat.reduceEqDiff, Nat.reducePow, Nat.min_eq_left, Nat.reduceMod, List.drop_zero, h0, avmB, hl, hp2, ht, hnb]
      refine hW.call ?_
      simp (maxSteps := 2000000) only [↓avm8, ↓avmW, avmD, avmL, avmO, avmR, avmN, avmM, wi64, csub, row_getD, row_reps, ↓reduceIte, decide_true, decide_false, true_imp_iff, Nat.reduceAdd, Nat.reduceMul, Nat.reduceSub, Nat.reduceLT, Nat.reduceLeDiff, Nat.reduceEqDiff, Nat.reducePow, Nat.min_eq_left, Nat.reduceMod, List.drop_zero, avmB, hl, ht, hnb]
      refine ret_now ?_
      simp (maxSteps := 2000000) only [↓avm8, ↓avmW, avmD, avmL, avmO, avmR, avmN, avmM, wi64, csub, row_getD, row_reps, ↓reduceIte, decide_true, decide_false, true_imp_iff, Nat.reduceAdd, Nat.reduceMul, Nat.reduceSub, Nat.reduceLT, Nat.reduceLeDiff, Nat.reduceEqDiff, Nat.reducePow, Nat.min_eq_left, Nat.reduceMod, List.drop_zero, avmB, hl, ht]
      rw [beq_self_eq_true]
theorem sg_b (hG : GOK G) (x t : Int) (X u : Nat) (w : Int) (hx : -9223372036854775808 ≤ x ∧ x ≤ 9223372036854775807) (hu : u < 18446744073709551616) (hX : IntKind.u64.wrap x = (X : Int)) (hXt : x = (X : Int) + 18446744073709551616 * t) (hXl : X < 18446744073709551616) (hc : u = 9223372036854775808) : PX P G n_law1_BitsSigned [.int .i64 x, .int .u64 (u : Int), .bool true, .int .i64 w] (.bool true) := by
  refine PX_of_awp low_law1_BitsSigned fol (by simp only [avmF, and_true]) (by simp only [avmF, and_true]) ?_
  have hA := bits_Abs_px (G := G) x hx
  have hS1 := bits_Signed_self (G := G) x hx
  have hS2 := bits_Signed_neg (G := G) u (by omega)
  have hA2 := bits_Abs_px (G := G) (-(u : Int)) (by omega)
  rw [show (-(u : Int)).natAbs = u by omega] at hA2
  have f0 := eq_true hc
  have f1 : 0 < u := by omega
  have f2 : ¬ u ≤ 9223372036854775807 := by omega
  have f3 : -(u : Int) < 0 := by omega
  have f4 : -(u : Int) < ((0 : Nat) : Int) := by omega
  simp only [ir_law1_BitsSigned, initF, List.replicate, Nat.reduceAdd, Nat.reduceSub, iv, avmL]
  simp (maxSteps := 2000000) only [↓avm8, ↓avmW, avmD, avmL, avmO, avmR, avmN, avmM, wi64, csub, row_getD, row_reps, ↓reduceIte, decide_true, decide_false, true_imp_iff, Nat.reduceAdd, Nat.reduceMul, Nat.reduceSub, Nat.reduceLT, Nat.reduceLeDiff, Nat.reduceEqDiff, Nat.reducePow, Nat.min_eq_left, Nat.reduceMod, List.drop_zero]
  refine (begun_px hG).call ?_
  simp (maxSteps := 2000000) only [↓avm8, ↓avmW, avmD, avmL, avmO, avmR, avmN, avmM, wi64, csub, row_getD, row_reps, ↓reduceIte, decide_true, decide_false, true_imp_iff, Nat.reduceAdd, Nat.reduceMul, Nat.reduceSub, Nat.reduceLT, Nat.reduceLeDiff, Nat.reduceEqDiff, Nat.reducePow, Nat.min_eq_left, Nat.reduceMod, List.drop_zero]
  refine hA.call ?_
  simp (maxSteps := 2000000) only [↓avm8, ↓avmW, avmD, avmL, avmO, avmR, avmN, avmM, wi64, csub, row_getD, row_reps, ↓reduceIte, decide_true, decide_false, true_imp_iff, Nat.reduceAdd, Nat.reduceMul, Nat.reduceSub, Nat.reduceLT, Nat.reduceLeDiff, Nat.reduceEqDiff, Nat.reducePow, Nat.min_eq_left, Nat.reduceMod, List.drop_zero]
  refine hS1.call ?_
  simp (maxSteps := 2000000) only [↓avm8, ↓avmW, avmD, avmL, avmO, avmR, avmN, avmM, wi64, csub, row_getD, row_reps, ↓reduceIte, decide_true, decide_false, true_imp_iff, Nat.reduceAdd, Nat.reduceMul, Nat.reduceSub, Nat.reduceLT, Nat.reduceLeDiff, Nat.reduceEqDiff, Nat.reducePow, Nat.min_eq_left, Nat.reduceMod, List.drop_zero]
  refine hS2.call ?_
  simp (maxSteps := 2000000) only [↓avm8, ↓avmW, avmD, avmL, avmO, avmR, avmN, avmM, wi64, csub, row_getD, row_reps, ↓reduceIte, decide_true, decide_false, true_imp_iff, Nat.reduceAdd, Nat.reduceMul, Nat.reduceSub, Nat.reduceLT, Nat.reduceLeDiff, Nat.reduceEqDiff, Nat.reducePow, Nat.min_eq_left, Nat.reduceMod, List.drop_zero, bE, f0, f1, f2, f3, f4]
  refine hA2.call ?_
  simp (maxSteps := 2000000) only [↓avm8, ↓avmW, avmD, avmL, avmO, avmR, avmN, avmM, wi64, csub, row_getD, row_reps, ↓reduceIte, decide_true, decide_false, true_imp_iff, Nat.reduceAdd, Nat.reduceMul, Nat.reduceSub, Nat.reduceLT, Nat.reduceLeDiff, Nat.reduceEqDiff, Nat.reducePow, Nat.min_eq_left, Nat.reduceMod, List.drop_zero, bE, f0, f1, f2, f3, f4]
  by_cases hw : w < 1 ∨ 64 < w
  · refine (bits_Narrow_no x w hw).call ?_
    rcases hw with h | h
    · have h' : w < ((1 : Nat) : Int) := h
      simp (maxSteps := 2000000) only [↓avm8, ↓avmW, avmD, avmL, avmO, avmR, avmN, avmM, wi64, csub, row_getD, row_reps, ↓reduceIte, decide_true, decide_false, true_imp_iff, Nat.reduceAdd, Nat.reduceMul, Nat.reduceSub, Nat.reduceLT, Nat.reduceLeDiff, Nat.reduceEqDiff, Nat.reducePow, Nat.min_eq_left, Nat.reduceMod, List.drop_zero, h, h']
      refine ret_now ?_
      simp (maxSteps := 2000000) only [↓avm8, ↓avmW, avmD, avmL, avmO, avmR, avmN, avmM, wi64, csub, row_getD, row_reps, ↓reduceIte, decide_true, decide_false, true_imp_iff, Nat.reduceAdd, Nat.reduceMul, Nat.reduceSub, Nat.reduceLT, Nat.reduceLeDiff, Nat.reduceEqDiff, Nat.reducePow, Nat.min_eq_left, Nat.reduceMod, List.drop_zero]
    · have h' : ((64 : Nat) : Int) < w := h
      have h1 : ¬ w < ((1 : Nat) : Int) := by omega
      have h1' : ¬ w < (1 : Int) := by omega
      simp (maxSteps := 2000000) only [↓avm8, ↓avmW, avmD, avmL, avmO, avmR, avmN, avmM, wi64, csub, row_getD, row_reps, ↓reduceIte, decide_true, decide_false, true_imp_iff, Nat.reduceAdd, Nat.reduceMul, Nat.reduceSub, Nat.reduceLT, Nat.reduceLeDiff, Nat.reduceEqDiff, Nat.reducePow, Nat.min_eq_left, Nat.reduceMod, List.drop_zero, h, h', h1, h1']
      refine ret_now ?_
      simp (maxSteps := 2000000) only [↓avm8, ↓avmW, avmD, avmL, avmO, avmR, avmN, avmM, wi64, csub, row_getD, row_reps, ↓reduceIte, decide_true, decide_false, true_imp_iff, Nat.reduceAdd, Nat.reduceMul, Nat.reduceSub, Nat.reduceLT, Nat.reduceLeDiff, Nat.reduceEqDiff, Nat.reducePow, Nat.min_eq_left, Nat.reduceMod, List.drop_zero]
  · obtain ⟨k, rfl⟩ : ∃ k : Nat, w = (k : Int) := ⟨w.toNat, by omega⟩
    have k1 : 1 ≤ k := by omega
    have k2 : k ≤ 64 := by omega
    have a1 : ¬ k < 1 := by omega
    have a2 : ¬ 64 < k := by omega
    refine (bits_Narrow_px x k k1 k2).call ?_
    have hnb := narrow_bits x X k t k1 k2 hXt
    simp (maxSteps := 2000000) only [↓avm8, ↓avmW, avmD, avmL, avmO, avmR, avmN, avmM, wi64, csub, row_getD, row_reps, ↓reduceIte, decide_true, decide_false, true_imp_iff, Nat.reduceAdd, Nat.reduceMul, Nat.reduceSub, Nat.reduceLT, Nat.reduceLeDiff, Nat.reduceEqDiff, Nat.reducePow, Nat.min_eq_left, Nat.reduceMod, List.drop_zero, a1, a2, hX]
    refine (ref_Bits_px X hXl).call ?_
    have hbx := bitsF_length X.testBit
    have hp1 : putAt (bl (List.replicate 64 false)) 0 (bl (bitsF X.testBit)) = bl (bitsF X.testBit) := putAt_bl (by simp [hbx])
    simp (maxSteps := 2000000) only [↓avm8, ↓avmW, avmD, avmL, avmO, avmR, avmN, avmM, wi64, csub, row_getD, row_reps, ↓reduceIte, decide_true, decide_false, true_imp_iff, Nat.reduceAdd, Nat.reduceMul, Nat.reduceSub, Nat.reduceLT, Nat.reduceLeDiff, Nat.reduceEqDiff, Nat.reducePow, Nat.min_eq_left, Nat.reduceMod, List.drop_zero, avmB, hbx]
    refine loop_of (fun q : Nat × List Bool => ⟨(.int .i64 x :: .junk :: .junk :: .int .i64 k :: .junk :: .junk :: .junk :: .junk :: .junk :: .junk :: .junk :: .junk :: .junk :: .junk :: .junk :: .junk :: .int .i64 (narrow x (64 - k)) :: .bool (decide (narrow x (64 - k) = x)) :: .own 0 0 :: .int .i64 q.1 :: .junk :: .junk :: .junk :: .junk :: .junk :: .junk :: .junk :: .junk :: .junk :: .junk :: .junk :: .junk :: .junk :: .junk :: .junk :: .junk :: .junk :: .junk :: .junk :: .junk :: .junk :: .junk :: .junk :: .junk :: .junk :: .junk :: .junk :: .junk :: .junk :: .junk :: .junk :: .junk :: .junk :: .junk :: .junk :: .junk :: .junk :: .junk :: .junk :: .junk :: .junk :: .junk :: .junk :: .junk :: .junk :: .junk :: .junk :: .junk :: .junk :: .junk :: .junk :: .junk :: .junk :: .junk :: .junk :: .junk :: .junk :: .junk :: .junk :: .junk :: .junk :: .junk :: .junk :: .junk :: .junk :: .junk :: .junk :: .junk :: .junk :: .junk :: .junk :: .junk :: .junk :: .junk :: .junk :: .junk :: .junk :: .junk :: .junk :: .junk :: .junk :: .junk :: .junk :: .junk :: .junk :: .junk :: .junk :: .junk :: .junk :: .junk :: .junk :: .junk :: .junk :: .junk :: .junk :: .junk :: .junk :: .junk :: .junk :: .junk :: .junk :: .junk :: .junk :: .junk :: .junk :: .junk :: .junk :: .junk :: .junk :: .junk :: []), [.arr t_64_bool 64 false (putAt (bl (List.replicate 64 false)) 0 (bl q.2))]⟩)
      (fun q => q.1 ≤ 64 ∧ k ≤ q.1 ∧ q.2.length = 64 ∧ ∀ j, j < q.1 → q.2.getD j false = nrw X k j) (fun q => 64 - q.1) (k, bitsF X.testBit) [0, 3, 16, 17, 18, 19] rfl ⟨k2, Nat.le_refl _, hbx, fun j hj => by simp only at hj ⊢; rw [bitsF_getD, if_pos (by omega), nrw, if_pos hj]⟩ ?_
    rintro ⟨i, l⟩ ⟨hi, hki, hl, hb⟩
    simp only at hi hki hl hb
    have hp2 : putAt (bl (List.replicate 64 false)) 0 (bl l) = bl l := putAt_bl (by simp [hl])
    have hp3 : putAt (bl (List.replicate 64 false)) 0 (bl (l.set i (X.testBit (k - 1)))) = bl (l.set i (X.testBit (k - 1))) := putAt_bl (by simp [hl])
    by_cases h0 : i < 64
    · have w1 : IntKind.i64.wrap ((i : Int) + ((1 : Nat) : Int)) = ((i + 1 : Nat) : Int) := wi64 (n := i + 1) (by omega)
      have w1' : IntKind.i64.wrap ((i + 1 : Nat) : Int) = ((i + 1 : Nat) : Int) := wi64 (by omega)
      have w2 : IntKind.i64.wrap ((k : Int) - ((1 : Nat) : Int)) = ((k - 1 : Nat) : Int) := by rw [wi64_in (by omega) (by omega)]; omega
      have i63 : i ≤ 63 := by omega
      have q63 : k - 1 ≤ 63 := by omega
      have q64 : k - 1 < 64 := by omega
      have hkl : k - 1 < l.length := by omega
      have g1 := bl_getD hkl
      rw [hb (k - 1) (by omega), show nrw X k (k - 1) = X.testBit (k - 1) by unfold nrw; split <;> rfl] at g1
      simp (maxSteps := 2000000) only [↓avm8, ↓avmW, avmD, avmL, avmO, avmR, avmN, avmM, wi64, csub, row_getD, row_reps, ↓reduceIte, decide_true, decide_false, true_imp_iff, Nat.reduceAdd, Nat.reduceMul, Nat.reduceSub, Nat.reduceLT, Nat.reduceLeDiff, Nat.reduceEqDiff, Nat.reducePow, Nat.min_eq_left, Nat.reduceMod, List.drop_zero, h0, avmB, hl, hp2, w1, w1', w2, i63, q63, q64, g1]
      refine LN.next (i + 1, l.set i (X.testBit (k - 1))) [0, 3, 16, 17, 18, 19] ⟨by simp only; omega, by simp only; omega, by simp only [List.length_set]; exact hl, fun j hj => ?_⟩ (by simp only; omega) (by simp only [hp3]; rfl)
      simp only at hj ⊢
      by_cases e : j = i
      · subst e; rw [bgetD_set_eq (by omega), nrw, if_neg (by omega)]
      · rw [bgetD_set_ne (Ne.symm e)]; exact hb j (by omega)
    · have e : i = 64 := by omega
      subst e
      have hL := bitsF_of hl hb
      have ht : l.take 64 = l := List.take_of_length_le (by omega)
      have hW := ref_Word_px (G := G) l hl
      rw [← hL] at hnb
      simp (maxSteps := 2000000) only [↓avm8, ↓avmW, avmD, avmL, avmO, avmR, avmN, avmM, wi64, csub, row_getD, row_reps, ↓reduceIte, decide_true, decide_false, true_imp_iff, Nat.reduceAdd, Nat.reduceMul, Nat.reduceSub, Nat.reduceLT, Nat.reduceLeDiff, Nat.reduceEqDiff, Nat.reducePow, Nat.min_eq_left, Nat.reduceMod, List.drop_zero, h0, avmB, hl, hp2, ht, hnb]
      refine hW.call ?_
      simp (maxSteps := 2000000) only [↓avm8, ↓avmW, avmD, avmL, avmO, avmR, avmN, avmM, wi64, csub, row_getD, row_reps, ↓reduceIte, decide_true, decide_false, true_imp_iff, Nat.reduceAdd, Nat.reduceMul, Nat.reduceSub, Nat.reduceLT, Nat.reduceLeDiff, Nat.reduceEqDiff, Nat.reducePow, Nat.min_eq_left, Nat.reduceMod, List.drop_zero, avmB, hl, ht, hnb]
      refine ret_now ?_
      simp (maxSteps := 2000000) only [↓avm8, ↓avmW, avmD, avmL, avmO, avmR, avmN, avmM, wi64, csub, row_getD, row_reps, ↓reduceIte, decide_true, decide_false, true_imp_iff, Nat.reduceAdd, Nat.reduceMul, Nat.reduceSub, Nat.reduceLT, Nat.reduceLeDiff, Nat.reduceEqDiff, Nat.reducePow, Nat.min_eq_left, Nat.reduceMod, List.drop_zero, avmB, hl, ht]
      rw [beq_self_eq_true]
theorem sg_c (hG : GOK G) (x t : Int) (X u : Nat) (w : Int) (hx : -9223372036854775808 ≤ x ∧ x ≤ 9223372036854775807) (hu : u < 18446744073709551616) (hX : IntKind.u64.wrap x = (X : Int)) (hXt : x = (X : Int) + 18446744073709551616 * t) (hXl : X < 18446744073709551616) (hc : u = 0) : PX P G n_law1_BitsSigned [.int .i64 x, .int .u64 (u : Int), .bool true, .int .i64 w] (.bool true) := by
  refine PX_of_awp low_law1_BitsSigned fol (by simp only [avmF, and_true]) (by simp only [avmF, and_true]) ?_
  have hA := bits_Abs_px (G := G) x hx
  have hS1 := bits_Signed_self (G := G) x hx
  subst hc
  have hS2 : PX P G n_bits_Signed [.bool true, .int .u64 ((0 : Nat) : Int)] (.tup [.int .i64 ((0 : Nat) : Int), .bool true]) := bits_Signed_neg (G := G) 0 (by omega)
  have hA2 : PX P G n_bits_Abs [.int .i64 ((0 : Nat) : Int)] (.int .u64 ((0 : Nat) : Int)) := bits_Abs_px (G := G) ((0 : Nat) : Int) (by decide)
  simp only [ir_law1_BitsSigned, initF, List.replicate, Nat.reduceAdd, Nat.reduceSub, iv, avmL]
  simp (maxSteps := 2000000) only [↓avm8, ↓avmW, avmD, avmL, avmO, avmR, avmN, avmM, wi64, csub, row_getD, row_reps, ↓reduceIte, decide_true, decide_false, true_imp_iff, Nat.reduceAdd, Nat.reduceMul, Nat.reduceSub, Nat.reduceLT, Nat.reduceLeDiff, Nat.reduceEqDiff, Nat.reducePow, Nat.min_eq_left, Nat.reduceMod, List.drop_zero]
  refine (begun_px hG).call ?_
  simp (maxSteps := 2000000) only [↓avm8, ↓avmW, avmD, avmL, avmO, avmR, avmN, avmM, wi64, csub, row_getD, row_reps, ↓reduceIte, decide_true, decide_false, true_imp_iff, Nat.reduceAdd, Nat.reduceMul, Nat.reduceSub, Nat.reduceLT, Nat.reduceLeDiff, Nat.reduceEqDiff, Nat.reducePow, Nat.min_eq_left, Nat.reduceMod, List.drop_zero]
  refine hA.call ?_
  simp (maxSteps := 2000000) only [↓avm8, ↓avmW, avmD, avmL, avmO, avmR, avmN, avmM, wi64, csub, row_getD, row_reps, ↓reduceIte, decide_true, decide_false, true_imp_iff, Nat.reduceAdd, Nat.reduceMul, Nat.reduceSub, Nat.reduceLT, Nat.reduceLeDiff, Nat.reduceEqDiff, Nat.reducePow, Nat.min_eq_left, Nat.reduceMod, List.drop_zero]
  refine hS1.call ?_
  simp (maxSteps := 2000000) only [↓avm8, ↓avmW, avmD, avmL, avmO, avmR, avmN, avmM, wi64, csub, row_getD, row_reps, ↓reduceIte, decide_true, decide_false, true_imp_iff, Nat.reduceAdd, Nat.reduceMul, Nat.reduceSub, Nat.reduceLT, Nat.reduceLeDiff, Nat.reduceEqDiff, Nat.reducePow, Nat.min_eq_left, Nat.reduceMod, List.drop_zero]
  refine hS2.call ?_
  simp (maxSteps := 2000000) only [↓avm8, ↓avmW, avmD, avmL, avmO, avmR, avmN, avmM, wi64, csub, row_getD, row_reps, ↓reduceIte, decide_true, decide_false, true_imp_iff, Nat.reduceAdd, Nat.reduceMul, Nat.reduceSub, Nat.reduceLT, Nat.reduceLeDiff, Nat.reduceEqDiff, Nat.reducePow, Nat.min_eq_left, Nat.reduceMod, List.drop_zero, bE]
  refine hA2.call ?_
  simp (maxSteps := 2000000) only [↓avm8, ↓avmW, avmD, avmL, avmO, avmR, avmN, avmM, wi64, csub, row_getD, row_reps, ↓reduceIte, decide_true, decide_false, true_imp_iff, Nat.reduceAdd, Nat.reduceMul, Nat.reduceSub, Nat.reduceLT, Nat.reduceLeDiff, Nat.reduceEqDiff, Nat.reducePow, Nat.min_eq_left, Nat.reduceMod, List.drop_zero, bE]
  by_cases hw : w < 1 ∨ 64 < w
  · refine (bits_Narrow_no x w hw).call ?_
    rcases hw with h | h
    · have h' : w < ((1 : Nat) : Int) := h
      simp (maxSteps := 2000000) only [↓avm8, ↓avmW, avmD, avmL, avmO, avmR, avmN, avmM, wi64, csub, row_getD, row_reps, ↓reduceIte, decide_true, decide_false, true_imp_iff, Nat.reduceAdd, Nat.reduceMul, Nat.reduceSub, Nat.reduceLT, Nat.reduceLeDiff, Nat.reduceEqDiff, Nat.reducePow, Nat.min_eq_left, Nat.reduceMod, List.drop_zero, h, h']
      refine ret_now ?_
      simp (maxSteps := 2000000) only [↓avm8, ↓avmW, avmD, avmL, avmO, avmR, avmN, avmM, wi64, csub, row_getD, row_reps, ↓reduceIte, decide_true, decide_false, true_imp_iff, Nat.reduceAdd, Nat.reduceMul, Nat.reduceSub, Nat.reduceLT, Nat.reduceLeDiff, Nat.reduceEqDiff, Nat.reducePow, Nat.min_eq_left, Nat.reduceMod, List.drop_zero]
    · have h' : ((64 : Nat) : Int) < w := h
      have h1 : ¬ w < ((1 : Nat) : Int) := by omega
      have h1' : ¬ w < (1 : Int) := by omega
      simp (maxSteps := 2000000) only [↓avm8, ↓avmW, avmD, avmL, avmO, avmR, avmN, avmM, wi64, csub, row_getD, row_reps, ↓reduceIte, decide_true, decide_false, true_imp_iff, Nat.reduceAdd, Nat.reduceMul, Nat.reduceSub, Nat.reduceLT, Nat.reduceLeDiff, Nat.reduceEqDiff, Nat.reducePow, Nat.min_eq_left, Nat.reduceMod, List.drop_zero, h, h', h1, h1']
      refine ret_now ?_
      simp (maxSteps := 2000000) only [↓avm8, ↓avmW, avmD, avmL, avmO, avmR, avmN, avmM, wi64, csub, row_getD, row_reps, ↓reduceIte, decide_true, decide_false, true_imp_iff, Nat.reduceAdd, Nat.reduceMul, Nat.reduceSub, Nat.reduceLT, Nat.reduceLeDiff, Nat.reduceEqDiff, Nat.reducePow, Nat.min_eq_left, Nat.reduceMod, List.drop_zero]
  · obtain ⟨k, rfl⟩ : ∃ k : Nat, w = (k : Int) := ⟨w.toNat, by omega⟩
    have k1 : 1 ≤ k := by omega
    have k2 : k ≤ 64 := by omega
    have a1 : ¬ k < 1 := by omega
    have a2 : ¬ 64 < k := by omega
    refine (bits_Narrow_px x k k1 k2).call ?_
    have hnb := narrow_bits x X k t k1 k2 hXt
    simp (maxSteps := 2000000) only [↓avm8, ↓avmW, avmD, avmL, avmO, avmR, avmN, avmM, wi64, csub, row_getD, row_reps, ↓reduceIte, decide_true, decide_false, true_imp_iff, Nat.reduceAdd, Nat.reduceMul, Nat.reduceSub, Nat.reduceLT, Nat.reduceLeDiff, Nat.reduceEqDiff, Nat.reducePow, Nat.min_eq_left, Nat.reduceMod, List.drop_zero, a1, a2, hX]
    refine (ref_Bits_px X hXl).call ?_
    have hbx := bitsF_length X.testBit
    have hp1 : putAt (bl (List.replicate 64 false)) 0 (bl (bitsF X.testBit)) = bl (bitsF X.testBit) := putAt_bl (by simp [hbx])
    simp (maxSteps := 2000000) only [↓avm8, ↓avmW, avmD, avmL, avmO, avmR, avmN, avmM, wi64, csub, row_getD, row_reps, ↓reduceIte, decide_true, decide_false, true_imp_iff, Nat.reduceAdd, Nat.reduceMul, Nat.reduceSub, Nat.reduceLT, Nat.reduceLeDiff, Nat.reduceEqDiff, Nat.reducePow, Nat.min_eq_left, Nat.reduceMod, List.drop_zero, avmB, hbx]
    refine loop_of (fun q : Nat × List Bool => ⟨(.int .i64 x :: .junk :: .junk :: .int .i64 k :: .junk :: .junk :: .junk :: .junk :: .junk :: .junk :: .junk :: .junk :: .junk :: .junk :: .junk :: .junk :: .int .i64 (narrow x (64 - k)) :: .bool (decide (narrow x (64 - k) = x)) :: .own 0 0 :: .int .i64 q.1 :: .junk :: .junk :: .junk :: .junk :: .junk :: .junk :: .junk :: .junk :: .junk :: .junk :: .junk :: .junk :: .junk :: .junk :: .junk :: .junk :: .junk :: .junk :: .junk :: .junk :: .junk :: .junk :: .junk :: .junk :: .junk :: .junk :: .junk :: .junk :: .junk :: .junk :: .junk :: .junk :: .junk :: .junk :: .junk :: .junk :: .junk :: .junk :: .junk :: .junk :: .junk :: .junk :: .junk :: .junk :: .junk :: .junk :: .junk :: .junk :: .junk :: .junk :: .junk :: .junk :: .junk :: .junk :: .junk :: .junk :: .junk :: .junk :: .junk :: .junk :: .junk :: .junk :: .junk :: .junk :: .junk :: .junk :: .junk :: .junk :: .junk :: .junk :: .junk :: .junk :: .junk :: .junk :: .junk :: .junk :: .junk :: .junk :: .junk :: .junk :: .junk :: .junk :: .junk :: .junk :: .junk :: .junk :: .junk :: .junk :: .junk :: .junk :: .junk :: .junk :: .junk :: .junk :: .junk :: .junk :: .junk :: .junk :: .junk :: .junk :: .junk :: .junk :: .junk :: .junk :: .junk :: .junk :: .junk :: .junk :: .junk :: .junk :: []), [.arr t_64_bool 64 false (putAt (bl (List.replicate 64 false)) 0 (bl q.2))]⟩)
      (fun q => q.1 ≤ 64 ∧ k ≤ q.1 ∧ q.2.length = 64 ∧ ∀ j, j < q.1 → q.2.getD j false = nrw X k j) (fun q => 64 - q.1) (k, bitsF X.testBit) [0, 3, 16, 17, 18, 19] rfl ⟨k2, Nat.le_refl _, hbx, fun j hj => by simp only at hj ⊢; rw [bitsF_getD, if_pos (by omega), nrw, if_pos hj]⟩ ?_
    rintro ⟨i, l⟩ ⟨hi, hki, hl, hb⟩
    simp only at hi hki hl hb
    have hp2 : putAt (bl (List.replicate 64 false)) 0 (bl l) = bl l := putAt_bl (by simp [hl])
    have hp3 : putAt (bl (List.replicate 64 false)) 0 (bl (l.set i (X.testBit (k - 1)))) = bl (l.set i (X.testBit (k - 1))) := putAt_bl (by simp [hl])
    by_cases h0 : i < 64
    · have w1 : IntKind.i64.wrap ((i : Int) + ((1 : Nat) : Int)) = ((i + 1 : Nat) : Int) := wi64 (n := i + 1) (by omega)
      have w1' : IntKind.i64.wrap ((i + 1 : Nat) : Int) = ((i + 1 : Nat) : Int) := wi64 (by omega)
      have w2 : IntKind.i64.wrap ((k : Int) - ((1 : Nat) : Int)) = ((k - 1 : Nat) : Int) := by rw [wi64_in (by omega) (by omega)]; omega
      have i63 : i ≤ 63 := by omega
      have q63 : k - 1 ≤ 63 := by omega
      have q64 : k - 1 < 64 := by omega
      have hkl : k - 1 < l.length := by omega
      have g1 := bl_getD hkl
      rw [hb (k - 1) (by omega), show nrw X k (k - 1) = X.testBit (k - 1) by unfold nrw; split <;> rfl] at g1
      simp (maxSteps := 2000000) only [↓avm8, ↓avmW, avmD, avmL, avmO, avmR, avmN, avmM, wi64, csub, row_getD, row_reps, ↓reduceIte, decide_true, decide_false, true_imp_iff, Nat.reduceAdd, Nat.reduceMul, Nat.reduceSub, Nat.reduceLT, Nat.reduceLeDiff, Nat.reduceEqDiff, Nat.reducePow, Nat.min_eq_left, Nat.reduceMod, List.drop_zero, h0, avmB, hl, hp2, w1, w1', w2, i63, q63, q64, g1]
      refine LN.next (i + 1, l.set i (X.testBit (k - 1))) [0, 3, 16, 17, 18, 19] ⟨by simp only; omega, by simp only; omega, by simp only [List.length_set]; exact hl, fun j hj => ?_⟩ (by simp only; omega) (by simp only [hp3]; rfl)
      simp only at hj ⊢
      by_cases e : j = i
      · subst e; rw [bgetD_set_eq (by omega), nrw, if_neg (by omega)]
      · rw [bgetD_set_ne (Ne.symm e)]; exact hb j (by omega)
    · have e : i = 64 := by omega
      subst e
      have hL := bitsF_of hl hb
      have ht : l.take 64 = l := List.take_of_length_le (by omega)
      have hW := ref_Word_px (G := G) l hl
      rw [← hL] at hnb
      simp (maxSteps := 2000000) only [↓avm8, ↓avmW, avmD, avmL, avmO, avmR, avmN, avmM, wi64, csub, row_getD, row_reps, ↓reduceIte, decide_true, decide_false, true_imp_iff, Nat.reduceAdd, Nat.reduceMul, Nat.reduceSub, Nat.reduceLT, Nat.reduceLeDiff, Nat.reduceEqDiff, Nat.reducePow, Nat.min_eq_left, Nat.reduceMod, List.drop_zero, h0, avmB, hl, hp2, ht, hnb]
      refine hW.call ?_
      simp (maxSteps := 2000000) only [↓avm8, ↓avmW, avmD, avmL, avmO, avmR, avmN, avmM, wi64, csub, row_getD, row_reps, ↓reduceIte, decide_true, decide_false, true_imp_iff, Nat.reduceAdd, Nat.reduceMul, Nat.reduceSub, Nat.reduceLT, Nat.reduceLeDiff, Nat.reduceEqDiff, Nat.reducePow, Nat.min_eq_left, Nat.reduceMod, List.drop_zero, avmB, hl, ht, hnb]
      refine ret_now ?_
      simp (maxSteps := 2000000) only [↓avm8, ↓avmW, avmD, avmL, avmO, avmR, avmN, avmM, wi64, csub, row_getD, row_reps, ↓reduceIte, decide_true, decide_false, true_imp_iff, Nat.reduceAdd, Nat.reduceMul, Nat.reduceSub, Nat.reduceLT, Nat.reduceLeDiff, Nat.reduceEqDiff, Nat.reducePow, Nat.min_eq_left, Nat.reduceMod, List.drop_zero, avmB, hl, ht]
      rw [beq_self_eq_true]
theorem sg_d (hG : GOK G) (x t : Int) (X u : Nat) (w : Int) (hx : -9223372036854775808 ≤ x ∧ x ≤ 9223372036854775807) (hu : u < 18446744073709551616) (hX : IntKind.u64.wrap x = (X : Int)) (hXt : x = (X : Int) + 18446744073709551616 * t) (hXl : X < 18446744073709551616) (hc : 0 < u ∧ u ≤ 9223372036854775807) : PX P G n_law1_BitsSigned [.int .i64 x, .int .u64 (u : Int), .bool false, .int .i64 w] (.bool true) := by
  refine PX_of_awp low_law1_BitsSigned fol (by simp only [avmF, and_true]) (by simp only [avmF, and_true]) ?_
  have hA := bits_Abs_px (G := G) x hx
  have hS1 := bits_Signed_self (G := G) x hx
  have hS2 := bits_Signed_pos (G := G) u (by omega)
  have hA2 := bits_Abs_px (G := G) (u : Int) (by omega)
  rw [show ((u : Int)).natAbs = u by omega] at hA2
  have f1 := hc.1
  have f2 := hc.2
  have f3 : ¬ u < 0 := by omega
  simp only [ir_law1_BitsSigned, initF, List.replicate, Nat.reduceAdd, Nat.reduceSub, iv, avmL]
  simp (maxSteps := 2000000) only [↓avm8, ↓avmW, avmD, avmL, avmO, avmR, avmN, avmM, wi64, csub, row_getD, row_reps, ↓reduceIte, decide_true, decide_false, true_imp_iff, Nat.reduceAdd, Nat.reduceMul, Nat.reduceSub, Nat.reduceLT, Nat.reduceLeDiff, Nat.reduceEqDiff, Nat.reducePow, Nat.min_eq_left, Nat.reduceMod, List.drop_zero]
  refine (begun_px hG).call ?_
  simp (maxSteps := 2000000) only [↓avm8, ↓avmW, avmD, avmL, avmO, avmR, avmN, avmM, wi64, csub, row_getD, row_reps, ↓reduceIte, decide_true, decide_false, true_imp_iff, Nat.reduceAdd, Nat.reduceMul, Nat.reduceSub, Nat.reduceLT, Nat.reduceLeDiff, Nat.reduceEqDiff, Nat.reducePow, Nat.min_eq_left, Nat.reduceMod, List.drop_zero]
  refine hA.call ?_
  simp (maxSteps := 2000000) only [↓avm8, ↓avmW, avmD, avmL, avmO, avmR, avmN, avmM, wi64, csub, row_getD, row_reps, ↓reduceIte, decide_true, decide_false, true_imp_iff, Nat.reduceAdd, Nat.reduceMul, Nat.reduceSub, Nat.reduceLT, Nat.reduceLeDiff, Nat.reduceEqDiff, Nat.reducePow, Nat.min_eq_left, Nat.reduceMod, List.drop_zero]
  refine hS1.call ?_
  simp (maxSteps := 2000000) only [↓avm8, ↓avmW, avmD, avmL, avmO, avmR, avmN, avmM, wi64, csub, row_getD, row_reps, ↓reduceIte, decide_true, decide_false, true_imp_iff, Nat.reduceAdd, Nat.reduceMul, Nat.reduceSub, Nat.reduceLT, Nat.reduceLeDiff, Nat.reduceEqDiff, Nat.reducePow, Nat.min_eq_left, Nat.reduceMod, List.drop_zero]
  refine hS2.call ?_
  simp (maxSteps := 2000000) only [↓avm8, ↓avmW, avmD, avmL, avmO, avmR, avmN, avmM, wi64, csub, row_getD, row_reps, ↓reduceIte, decide_true, decide_false, true_imp_iff, Nat.reduceAdd, Nat.reduceMul, Nat.reduceSub, Nat.reduceLT, Nat.reduceLeDiff, Nat.reduceEqDiff, Nat.reducePow, Nat.min_eq_left, Nat.reduceMod, List.drop_zero, bE, f1, f2, f3]
  refine hA2.call ?_
  simp (maxSteps := 2000000) only [↓avm8, ↓avmW, avmD, avmL, avmO, avmR, avmN, avmM, wi64, csub, row_getD, row_reps, ↓reduceIte, decide_true, decide_false, true_imp_iff, Nat.reduceAdd, Nat.reduceMul, Nat.reduceSub, Nat.reduceLT, Nat.reduceLeDiff, Nat.reduceEqDiff, Nat.reducePow, Nat.min_eq_left, Nat.reduceMod, List.drop_zero, bE, f1, f2, f3]
  by_cases hw : w < 1 ∨ 64 < w
  · refine (bits_Narrow_no x w hw).call ?_
    rcases hw with h | h
    · have h' : w < ((1 : Nat) : Int) := h
      simp (maxSteps := 2000000) only [↓avm8, ↓avmW, avmD, avmL, avmO, avmR, avmN, avmM, wi64, csub, row_getD, row_reps, ↓reduceIte, decide_true, decide_false, true_imp_iff, Nat.reduceAdd, Nat.reduceMul, Nat.reduceSub, Nat.reduceLT, Nat.reduceLeDiff, Nat.reduceEqDiff, Nat.reducePow, Nat.min_eq_left, Nat.reduceMod, List.drop_zero, h, h']
      refine ret_now ?_
      simp (maxSteps := 2000000) only [↓avm8, ↓avmW, avmD, avmL, avmO, avmR, avmN, avmM, wi64, csub, row_getD, row_reps, ↓reduceIte, decide_true, decide_false, true_imp_iff, Nat.reduceAdd, Nat.reduceMul, Nat.reduceSub, Nat.reduceLT, Nat.reduceLeDiff, Nat.reduceEqDiff, Nat.reducePow, Nat.min_eq_left, Nat.reduceMod, List.drop_zero]
    · have h' : ((64 : Nat) : Int) < w := h
      have h1 : ¬ w < ((1 : Nat) : Int) := by omega
      have h1' : ¬ w < (1 : Int) := by omega
      simp (maxSteps := 2000000) only [↓avm8, ↓avmW, avmD, avmL, avmO, avmR, avmN, avmM, wi64, csub, row_getD, row_reps, ↓reduceIte, decide_true, decide_false, true_imp_iff, Nat.reduceAdd, Nat.reduceMul, Nat.reduceSub, Nat.reduceLT, Nat.reduceLeDiff, Nat.reduceEqDiff, Nat.reducePow, Nat.min_eq_left, Nat.reduceMod, List.drop_zero, h, h', h1, h1']
      refine ret_now ?_
      simp (maxSteps := 2000000) only [↓avm8, ↓avmW, avmD, avmL, avmO, avmR, avmN, avmM, wi64, csub, row_getD, row_reps, ↓reduceIte, decide_true, decide_false, true_imp_iff, Nat.reduceAdd, Nat.reduceMul, Nat.reduceSub, Nat.reduceLT, Nat.reduceLeDiff, Nat.reduceEqDiff, Nat.reducePow, Nat.min_eq_left, Nat.reduceMod, List.drop_zero]
  · obtain ⟨k, rfl⟩ : ∃ k : Nat, w = (k : Int) := ⟨w.toNat, by omega⟩
    have k1 : 1 ≤ k := by omega
    have k2 : k ≤ 64 := by omega
    have a1 : ¬ k < 1 := by omega
    have a2 : ¬ 64 < k := by omega
    refine (bits_Narrow_px x k k1 k2).call ?_
    have hnb := narrow_bits x X k t k1 k2 hXt
    simp (maxSteps := 2000000) only [↓avm8, ↓avmW, avmD, avmL, avmO, avmR, avmN, avmM, wi64, csub, row_getD, row_reps, ↓reduceIte, decide_true, decide_false, true_imp_iff, Nat.reduceAdd, Nat.reduceMul, Nat.reduceSub, Nat.reduceLT, Nat.reduceLeDiff, Nat.reduceEqDiff, Nat.reducePow, Nat.min_eq_left, Nat.reduceMod, List.drop_zero, a1, a2, hX]
    refine (ref_Bits_px X hXl).call ?_
    have hbx := bitsF_length X.testBit
    have hp1 : putAt (bl (List.replicate 64 false)) 0 (bl (bitsF X.testBit)) = bl (bitsF X.testBit) := putAt_bl (by simp [hbx])
    simp (maxSteps := 2000000) only [↓avm8, ↓avmW, avmD, avmL, avmO, avmR, avmN, avmM, wi64, csub, row_getD, row_reps, ↓reduceIte, decide_true, decide_false, true_imp_iff, Nat.reduceAdd, Nat.reduceMul, Nat.reduceSub, Nat.reduceLT, Nat.reduceLeDiff, Nat.reduceEqDiff, Nat.reducePow, Nat.min_eq_left, Nat.reduceMod, List.drop_zero, avmB, hbx]
    refine loop_of (fun q : Nat × List Bool => ⟨(.int .i64 x :: .junk :: .junk :: .int .i64 k :: .junk :: .junk :: .junk :: .junk :: .junk :: .junk :: .junk :: .junk :: .junk :: .junk :: .junk :: .junk :: .int .i64 (narrow x (64 - k)) :: .bool (decide (narrow x (64 - k) = x)) :: .own 0 0 :: .int .i64 q.1 :: .junk :: .junk :: .junk :: .junk :: .junk :: .junk :: .junk :: .junk :: .junk :: .junk :: .junk :: .junk :: .junk :: .junk :: .junk :: .junk :: .junk :: .junk :: .junk :: .junk :: .junk :: .junk :: .junk :: .junk :: .junk :: .junk :: .junk :: .junk :: .junk :: .junk :: .junk :: .junk :: .junk :: .junk :: .junk :: .junk :: .junk :: .junk :: .junk :: .junk :: .junk :: .junk :: .junk :: .junk :: .junk :: .junk :: .junk :: .junk :: .junk :: .junk :: .junk :: .junk :: .junk :: .junk :: .junk :: .junk :: .junk :: .junk :: .junk :: .junk :: .junk :: .junk :: .junk :: .junk :: .junk :: .junk :: .junk :: .junk :: .junk :: .junk :: .junk :: .junk :: .junk :: .junk :: .junk :: .junk :: .junk :: .junk :: .junk :: .junk :: .junk :: .junk :: .junk :: .junk :: .junk :: .junk :: .junk :: .junk :: .junk :: .junk :: .junk :: .junk :: .junk :: .junk :: .junk :: .junk :: .junk :: .junk :: .junk :: .junk :: .junk :: .junk :: .junk :: .junk :: .junk :: .junk :: .junk :: .junk :: .junk :: .junk :: []), [.arr t_64_bool 64 false (putAt (bl (List.replicate 64 false)) 0 (bl q.2))]⟩)
      (fun q => q.1 ≤ 64 ∧ k ≤ q.1 ∧ q.2.length = 64 ∧ ∀ j, j < q.1 → q.2.getD j false = nrw X k j) (fun q => 64 - q.1) (k, bitsF X.testBit) [0, 3, 16, 17, 18, 19] rfl ⟨k2, Nat.le_refl _, hbx, fun j hj => by simp only at hj ⊢; rw [bitsF_getD, if_pos (by omega), nrw, if_pos hj]⟩ ?_
    rintro ⟨i, l⟩ ⟨hi, hki, hl, hb⟩
    simp only at hi hki hl hb
    have hp2 : putAt (bl (List.replicate 64 false)) 0 (bl l) = bl l := putAt_bl (by simp [hl])
    have hp3 : putAt (bl (List.replicate 64 false)) 0 (bl (l.set i (X.testBit (k - 1)))) = bl (l.set i (X.testBit (k - 1))) := putAt_bl (by simp [hl])
    by_cases h0 : i < 64
    · have w1 : IntKind.i64.wrap ((i : Int) + ((1 : Nat) : Int)) = ((i + 1 : Nat) : Int) := wi64 (n := i + 1) (by omega)
      have w1' : IntKind.i64.wrap ((i + 1 : Nat) : Int) = ((i + 1 : Nat) : Int) := wi64 (by omega)
      have w2 : IntKind.i64.wrap ((k : Int) - ((1 : Nat) : Int)) = ((k - 1 : Nat) : Int) := by rw [wi64_in (by omega) (by omega)]; omega
      have i63 : i ≤ 63 := by omega
      have q63 : k - 1 ≤ 63 := by omega
      have q64 : k - 1 < 64 := by omega
      have hkl : k - 1 < l.length := by omega
      have g1 := bl_getD hkl
      rw [hb (k - 1) (by omega), show nrw X k (k - 1) = X.testBit (k - 1) by unfold nrw; split <;> rfl] at g1
      simp (maxSteps := 2000000) only [↓avm8, ↓avmW, avmD, avmL, avmO, avmR, avmN, avmM, wi64, csub, row_getD, row_reps, ↓reduceIte, decide_true, decide_false, true_imp_iff, Nat.reduceAdd, Nat.reduceMul, Nat.reduceSub, Nat.reduceLT, Nat.reduceLeDiff, Nat.reduceEqDiff, Nat.reducePow, Nat.min_eq_left, Nat.reduceMod, List.drop_zero, h0, avmB, hl, hp2, w1, w1', w2, i63, q63, q64, g1]
      refine LN.next (i + 1, l.set i (X.testBit (k - 1))) [0, 3, 16, 17, 18, 19] ⟨by simp only; omega, by simp only; omega, by simp only [List.length_set]; exact hl, fun j hj => ?_⟩ (by simp only; omega) (by simp only [hp3]; rfl)
      simp only at hj ⊢
      by_cases e : j = i
      · subst e; rw [bgetD_set_eq (by omega), nrw, if_neg (by omega)]
      · rw [bgetD_set_ne (Ne.symm e)]; exact hb j (by omega)
    · have e : i = 64 := by omega
      subst e
      have hL := bitsF_of hl hb
      have ht : l.take 64 = l := List.take_of_length_le (by omega)
      have hW := ref_Word_px (G := G) l hl
      rw [← hL] at hnb
      simp (maxSteps := 2000000) only [↓avm8, ↓avmW, avmD, avmL, avmO, avmR, avmN, avmM, wi64, csub, row_getD, row_reps, ↓reduceIte, decide_true, decide_false, true_imp_iff, Nat.reduceAdd, Nat.reduceMul, Nat.reduceSub, Nat.reduceLT, Nat.reduceLeDiff, Nat.reduceEqDiff, Nat.reducePow, Nat.min_eq_left, Nat.reduceMod, List.drop_zero, h0, avmB, hl, hp2, ht, hnb]
      refine hW.call ?_
      simp (maxSteps := 2000000) only [↓avm8, ↓avmW, avmD, avmL, avmO, avmR, avmN, avmM, wi64, csub, row_getD, row_reps, ↓reduceIte, decide_true, decide_false, true_imp_iff, Nat.reduceAdd, Nat.reduceMul, Nat.reduceSub, Nat.reduceLT, Nat.reduceLeDiff, Nat.reduceEqDiff, Nat.reducePow, Nat.min_eq_left, Nat.reduceMod, List.drop_zero, avmB, hl, ht, hnb]
      refine ret_now ?_
      simp (maxSteps := 2000000) only [↓avm8, ↓avmW, avmD, avmL, avmO, avmR, avmN, avmM, wi64, csub, row_getD, row_reps, ↓reduceIte, decide_true, decide_false, true_imp_iff, Nat.reduceAdd, Nat.reduceMul, Nat.reduceSub, Nat.reduceLT, Nat.reduceLeDiff, Nat.reduceEqDiff, Nat.reducePow, Nat.min_eq_left, Nat.reduceMod, List.drop_zero, avmB, hl, ht]
      rw [beq_self_eq_true]
theorem sg_e (hG : GOK G) (x t : Int) (X u : Nat) (w : Int) (hx : -9223372036854775808 ≤ x ∧ x ≤ 9223372036854775807) (hu : u < 18446744073709551616) (hX : IntKind.u64.wrap x = (X : Int)) (hXt : x = (X : Int) + 18446744073709551616 * t) (hXl : X < 18446744073709551616) (hc : u = 0) : PX P G n_law1_BitsSigned [.int .i64 x, .int .u64 (u : Int), .bool false, .int .i64 w] (.bool true) := by
  refine PX_of_awp low_law1_BitsSigned fol (by simp only [avmF, and_true]) (by simp only [avmF, and_true]) ?_
  have hA := bits_Abs_px (G := G) x hx
  have hS1 := bits_Signed_self (G := G) x hx
  subst hc
  have hS2 : PX P G n_bits_Signed [.bool false, .int .u64 ((0 : Nat) : Int)] (.tup [.int .i64 ((0 : Nat) : Int), .bool true]) := bits_Signed_pos (G := G) 0 (by omega)
  have hA2 : PX P G n_bits_Abs [.int .i64 ((0 : Nat) : Int)] (.int .u64 ((0 : Nat) : Int)) := bits_Abs_px (G := G) ((0 : Nat) : Int) (by decide)
  simp only [ir_law1_BitsSigned, initF, List.replicate, Nat.reduceAdd, Nat.reduceSub, iv, avmL]
  simp (maxSteps := 2000000) only [↓avm8, ↓avmW, avmD, avmL, avmO, avmR, avmN, avmM, wi64, csub, row_getD, row_reps, ↓reduceIte, decide_true, decide_false, true_imp_iff, Nat.reduceAdd, Nat.reduceMul, Nat.reduceSub, Nat.reduceLT, Nat.reduceLeDiff, Nat.reduceEqDiff, Nat.reducePow, Nat.min_eq_left, Nat.reduceMod, List.drop_zero]
  refine (begun_px hG).call ?_
  simp (maxSteps := 2000000) only [↓avm8, ↓avmW, avmD, avmL, avmO, avmR, avmN, avmM, wi64, csub, row_getD, row_reps, ↓reduceIte, decide_true, decide_false, true_imp_iff, Nat.reduceAdd, Nat.reduceMul, Nat.reduceSub, Nat.reduceLT, Nat.reduceLeDiff, Nat.reduceEqDiff, Nat.reducePow, Nat.min_eq_left, Nat.reduceMod, List.drop_zero]
  refine hA.call ?_
  simp (maxSteps := 2000000) only [↓avm8, ↓avmW, avmD, avmL, avmO, avmR, avmN, avmM, wi64, csub, row_getD, row_reps, ↓reduceIte, decide_true, decide_false, true_imp_iff, Nat.reduceAdd, Nat.reduceMul, Nat.reduceSub, Nat.reduceLT, Nat.reduceLeDiff, Nat.reduceEqDiff, Nat.reducePow, Nat.min_eq_left, Nat.reduceMod, List.drop_zero]
  refine hS1.call ?_
  simp (maxSteps := 2000000) only [↓avm8, ↓avmW, avmD, avmL, avmO, avmR, avmN, avmM, wi64, csub, row_getD, row_reps, ↓reduceIte, decide_true, decide_false, true_imp_iff, Nat.reduceAdd, Nat.reduceMul, Nat.reduceSub, Nat.reduceLT, Nat.reduceLeDiff, Nat.reduceEqDiff, Nat.reducePow, Nat.min_eq_left, Nat.reduceMod, List.drop_zero]
  refine hS2.call ?_
  simp (maxSteps := 2000000) only [↓avm8, ↓avmW, avmD, avmL, avmO, avmR, avmN, avmM, wi64, csub, row_getD, row_reps, ↓reduceIte, decide_true, decide_false, true_imp_iff, Nat.reduceAdd, Nat.reduceMul, Nat.reduceSub, Nat.reduceLT, Nat.reduceLeDiff, Nat.reduceEqDiff, Nat.reducePow, Nat.min_eq_left, Nat.reduceMod, List.drop_zero, bE]
  refine hA2.call ?_
  simp (maxSteps := 2000000) only [↓avm8, ↓avmW, avmD, avmL, avmO, avmR, avmN, avmM, wi64, csub, row_getD, row_reps, ↓reduceIte, decide_true, decide_false, true_imp_iff, Nat.reduceAdd, Nat.reduceMul, Nat.reduceSub, Nat.reduceLT, Nat.reduceLeDiff, Nat.reduceEqDiff, Nat.reducePow, Nat.min_eq_left, Nat.reduceMod, List.drop_zero, bE]
  by_cases hw : w < 1 ∨ 64 < w
  · refine (bits_Narrow_no x w hw).call ?_
    rcases hw with h | h
    · have h' : w < ((1 : Nat) : Int) := h
      simp (maxSteps := 2000000) only [↓avm8, ↓avmW, avmD, avmL, avmO, avmR, avmN, avmM, wi64, csub, row_getD, row_reps, ↓reduceIte, decide_true, decide_false, true_imp_iff, Nat.reduceAdd, Nat.reduceMul, Nat.reduceSub, Nat.reduceLT, Nat.reduceLeDiff, Nat.reduceEqDiff, Nat.reducePow, Nat.min_eq_left, Nat.reduceMod, List.drop_zero, h, h']
      refine ret_now ?_
      simp (maxSteps := 2000000) only [↓avm8, ↓avmW, avmD, avmL, avmO, avmR, avmN, avmM, wi64, csub, row_getD, row_reps, ↓reduceIte, decide_true, decide_false, true_imp_iff, Nat.reduceAdd, Nat.reduceMul, Nat.reduceSub, Nat.reduceLT, Nat.reduceLeDiff, Nat.reduceEqDiff, Nat.reducePow, Nat.min_eq_left, Nat.reduceMod, List.drop_zero]
    · have h' : ((64 : Nat) : Int) < w := h
      have h1 : ¬ w < ((1 : Nat) : Int) := by omega
      have h1' : ¬ w < (1 : Int) := by omega
      simp (maxSteps := 2000000) only [↓avm8, ↓avmW, avmD, avmL, avmO, avmR, avmN, avmM, wi64, csub, row_getD, row_reps, ↓reduceIte, decide_true, decide_false, true_imp_iff, Nat.reduceAdd, Nat.reduceMul, Nat.reduceSub, Nat.reduceLT, Nat.reduceLeDiff, Nat.reduceEqDiff, Nat.reducePow, Nat.min_eq_left, Nat.reduceMod, List.drop_zero, h, h', h1, h1']
      refine ret_now ?_
      simp (maxSteps := 2000000) only [↓avm8, ↓avmW, avmD, avmL, avmO, avmR, avmN, avmM, wi64, csub, row_getD, row_reps, ↓reduceIte, decide_true, decide_false, true_imp_iff, Nat.reduceAdd, Nat.reduceMul, Nat.reduceSub, Nat.reduceLT, Nat.reduceLeDiff, Nat.reduceEqDiff, Nat.reducePow, Nat.min_eq_left, Nat.reduceMod, List.drop_zero]
  · obtain ⟨k, rfl⟩ : ∃ k : Nat, w = (k : Int) := ⟨w.toNat, by omega⟩
    have k1 : 1 ≤ k := by omega
    have k2 : k ≤ 64 := by omega
    have a1 : ¬ k < 1 := by omega
    have a2 : ¬ 64 < k := by omega
    refine (bits_Narrow_px x k k1 k2).call ?_
    have hnb := narrow_bits x X k t k1 k2 hXt
    simp (maxSteps := 2000000) only [↓avm8, ↓avmW, avmD, avmL, avmO, avmR, avmN, avmM, wi64, csub, row_getD, row_reps, ↓reduceIte, decide_true, decide_false, true_imp_iff, Nat.reduceAdd, Nat.reduceMul, Nat.reduceSub, Nat.reduceLT, Nat.reduceLeDiff, Nat.reduceEqDiff, Nat.reducePow, Nat.min_eq_left, Nat.reduceMod, List.drop_zero, a1, a2, hX]
    refine (ref_Bits_px X hXl).call ?_
    have hbx := bitsF_length X.testBit
    have hp1 : putAt (bl (List.replicate 64 false)) 0 (bl (bitsF X.testBit)) = bl (bitsF X.testBit) := putAt_bl (by simp [hbx])
    simp (maxSteps := 2000000) only [↓avm8, ↓avmW, avmD, avmL, avmO, avmR, avmN, avmM, wi64, csub, row_getD, row_reps, ↓reduceIte, decide_true, decide_false, true_imp_iff, Nat.reduceAdd, Nat.reduceMul, Nat.reduceSub, Nat.reduceLT, Nat.reduceLeDiff, Nat.reduceEqDiff, Nat.reducePow, Nat.min_eq_left, Nat.reduceMod, List.drop_zero, avmB, hbx]
    refine loop_of (fun q : Nat × List Bool => ⟨(.int .i64 x :: .junk :: .junk :: .int .i64 k :: .junk :: .junk :: .junk :: .junk :: .junk :: .junk :: .junk :: .junk :: .junk :: .junk :: .junk :: .junk :: .int .i64 (narrow x (64 - k)) :: .bool (decide (narrow x (64 - k) = x)) :: .own 0 0 :: .int .i64 q.1 :: .junk :: .junk :: .junk :: .junk :: .junk :: .junk :: .junk :: .junk :: .junk :: .junk :: .junk :: .junk :: .junk :: .junk :: .junk :: .junk :: .junk :: .junk :: .junk :: .junk :: .junk :: .junk :: .junk :: .junk :: .junk :: .junk :: .junk :: .junk :: .junk :: .junk :: .junk :: .junk :: .junk :: .junk :: .junk :: .junk :: .junk :: .junk :: .junk :: .junk :: .junk :: .junk :: .junk :: .junk :: .junk :: .junk :: .junk :: .junk :: .junk :: .junk :: .junk :: .junk :: .junk :: .junk :: .junk :: .junk :: .junk :: .junk :: .junk :: .junk :: .junk :: .junk :: .junk :: .junk :: .junk :: .junk :: .junk :: .junk :: .junk :: .junk :: .junk :: .junk :: .junk :: .junk :: .junk :: .junk :: .junk :: .junk :: .junk :: .junk :: .junk :: .junk :: .junk :: .junk :: .junk :: .junk :: .junk :: .junk :: .junk :: .junk :: .junk :: .junk :: .junk :: .junk :: .junk :: .junk :: .junk :: .junk :: .junk :: .junk :: .junk :: .junk :: .junk :: .junk :: .junk :: .junk :: .junk :: .junk :: .junk :: .junk :: []), [.arr t_64_bool 64 false (putAt (bl (List.replicate 64 false)) 0 (bl q.2))]⟩)
      (fun q => q.1 ≤ 64 ∧ k ≤ q.1 ∧ q.2.length = 64 ∧ ∀ j, j < q.1 → q.2.getD j false = nrw X k j) (fun q => 64 - q.1) (k, bitsF X.testBit) [0, 3, 16, 17, 18, 19] rfl ⟨k2, Nat.le_refl _, hbx, fun j hj => by simp only at hj ⊢; rw [bitsF_getD, if_pos (by omega), nrw, if_pos hj]⟩ ?_
    rintro ⟨i, l⟩ ⟨hi, hki, hl, hb⟩
    simp only at hi hki hl hb
    have hp2 : putAt (bl (List.replicate 64 false)) 0 (bl l) = bl l := putAt_bl (by simp [hl])
    have hp3 : putAt (bl (List.replicate 64 false)) 0 (bl (l.set i (X.testBit (k - 1)))) = bl (l.set i (X.testBit (k - 1))) := putAt_bl (by simp [hl])
    by_cases h0 : i < 64
    · have w1 : IntKind.i64.wrap ((i : Int) + ((1 : Nat) : Int)) = ((i + 1 : Nat) : Int) := wi64 (n := i + 1) (by omega)
      have w1' : IntKind.i64.wrap ((i + 1 : Nat) : Int) = ((i + 1 : Nat) : Int) := wi64 (by omega)
      have w2 : IntKind.i64.wrap ((k : Int) - ((1 : Nat) : Int)) = ((k - 1 : Nat) : Int) := by rw [wi64_in (by omega) (by omega)]; omega
      have i63 : i ≤ 63 := by omega
      have q63 : k - 1 ≤ 63 := by omega
      have q64 : k - 1 < 64 := by omega
      have hkl : k - 1 < l.length := by omega
      have g1 := bl_getD hkl
      rw [hb (k - 1) (by omega), show nrw X k (k - 1) = X.testBit (k - 1) by unfold nrw; split <;> rfl] at g1
      simp (maxSteps := 2000000) only [↓avm8, ↓avmW, avmD, avmL, avmO, avmR, avmN, avmM, wi64, csub, row_getD, row_reps, ↓reduceIte, decide_true, decide_false, true_imp_iff, Nat.reduceAdd, Nat.reduceMul, Nat.reduceSub, Nat.reduceLT, Nat.reduceLeDiff, Nat.reduceEqDiff, Nat.reducePow, Nat.min_eq_left, Nat.reduceMod, List.drop_zero, h0, avmB, hl, hp2, w1, w1', w2, i63, q63, q64, g1]
      refine LN.next (i + 1, l.set i (X.testBit (k - 1))) [0, 3, 16, 17, 18, 19] ⟨by simp only; omega, by simp only; omega, by simp only [List.length_set]; exact hl, fun j hj => ?_⟩ (by simp only; omega) (by simp only [hp3]; rfl)
      simp only at hj ⊢
      by_cases e : j = i
      · subst e; rw [bgetD_set_eq (by omega), nrw, if_neg (by omega)]
      · rw [bgetD_set_ne (Ne.symm e)]; exact hb j (by omega)
    · have e : i = 64 := by omega
      subst e
      have hL := bitsF_of hl hb
      have ht : l.take 64 = l := List.take_of_length_le (by omega)
      have hW := ref_Word_px (G := G) l hl
      rw [← hL] at hnb
      simp (maxSteps := 2000000) only [↓avm8, ↓avmW, avmD, avmL, avmO, avmR, avmN, avmM, wi64, csub, row_getD, row_reps, ↓reduceIte, decide_true, decide_false, true_imp_iff, Nat.reduceAdd, Nat.reduceMul, Nat.reduceSub, Nat.reduceLT, Nat.reduceLeDiff, Nat.reduceEqDiff, Nat.reducePow, Nat.min_eq_left, Nat.reduceMod, List.drop_zero, h0, avmB, hl, hp2, ht, hnb]
      refine hW.call ?_
      simp (maxSteps := 2000000) only [↓avm8, ↓avmW, avmD, avmL, avmO, avmR, avmN, avmM, wi64, csub, row_getD, row_reps, ↓reduceIte, decide_true, decide_false, true_imp_iff, Nat.reduceAdd, Nat.reduceMul, Nat.reduceSub, Nat.reduceLT, Nat.reduceLeDiff, Nat.reduceEqDiff, Nat.reducePow, Nat.min_eq_left, Nat.reduceMod, List.drop_zero, avmB, hl, ht, hnb]
      refine ret_now ?_
      simp (maxSteps := 2000000) only [↓avm8, ↓avmW, avmD, avmL, avmO, avmR, avmN, avmM, wi64, csub, row_getD, row_reps, ↓reduceIte, decide_true, decide_false, true_imp_iff, Nat.reduceAdd, Nat.reduceMul, Nat.reduceSub, Nat.reduceLT, Nat.reduceLeDiff, Nat.reduceEqDiff, Nat.reducePow, Nat.min_eq_left, Nat.reduceMod, List.drop_zero, avmB, hl, ht]
      rw [beq_self_eq_true]
theorem sg_f (hG : GOK G) (x t : Int) (X u : Nat) (w : Int) (hx : -9223372036854775808 ≤ x ∧ x ≤ 9223372036854775807) (hu : u < 18446744073709551616) (hX : IntKind.u64.wrap x = (X : Int)) (hXt : x = (X : Int) + 18446744073709551616 * t) (hXl : X < 18446744073709551616) (hc : 9223372036854775808 < u) : PX P G n_law1_BitsSigned [.int .i64 x, .int .u64 (u : Int), .bool true, .int .i64 w] (.bool true) := by
  refine PX_of_awp low_law1_BitsSigned fol (by simp only [avmF, and_true]) (by simp only [avmF, and_true]) ?_
  have hA := bits_Abs_px (G := G) x hx
  have hS1 := bits_Signed_self (G := G) x hx
  have hS2 := bits_Signed_no (G := G) true u (by simp; omega)
  have f1 : ¬ u ≤ 9223372036854775807 := by omega
  have f2 : ¬ u = 9223372036854775808 := by omega
  simp only [ir_law1_BitsSigned, initF, List.replicate, Nat.reduceAdd, Nat.reduceSub, iv, avmL]
  simp (maxSteps := 2000000) only [↓avm8, ↓avmW, avmD, avmL, avmO, avmR, avmN, avmM, wi64, csub, row_getD, row_reps, ↓reduceIte, decide_true, decide_false, true_imp_iff, Nat.reduceAdd, Nat.reduceMul, Nat.reduceSub, Nat.reduceLT, Nat.reduceLeDiff, Nat.reduceEqDiff, Nat.reducePow, Nat.min_eq_left, Nat.reduceMod, List.drop_zero]
  refine (begun_px hG).call ?_
  simp (maxSteps := 2000000) only [↓avm8, ↓avmW, avmD, avmL, avmO, avmR, avmN, avmM, wi64, csub, row_getD, row_reps, ↓reduceIte, decide_true, decide_false, true_imp_iff, Nat.reduceAdd, Nat.reduceMul, Nat.reduceSub, Nat.reduceLT, Nat.reduceLeDiff, Nat.reduceEqDiff, Nat.reducePow, Nat.min_eq_left, Nat.reduceMod, List.drop_zero]
  refine hA.call ?_
  simp (maxSteps := 2000000) only [↓avm8, ↓avmW, avmD, avmL, avmO, avmR, avmN, avmM, wi64, csub, row_getD, row_reps, ↓reduceIte, decide_true, decide_false, true_imp_iff, Nat.reduceAdd, Nat.reduceMul, Nat.reduceSub, Nat.reduceLT, Nat.reduceLeDiff, Nat.reduceEqDiff, Nat.reducePow, Nat.min_eq_left, Nat.reduceMod, List.drop_zero]
  refine hS1.call ?_
  simp (maxSteps := 2000000) only [↓avm8, ↓avmW, avmD, avmL, avmO, avmR, avmN, avmM, wi64, csub, row_getD, row_reps, ↓reduceIte, decide_true, decide_false, true_imp_iff, Nat.reduceAdd, Nat.reduceMul, Nat.reduceSub, Nat.reduceLT, Nat.reduceLeDiff, Nat.reduceEqDiff, Nat.reducePow, Nat.min_eq_left, Nat.reduceMod, List.drop_zero]
  refine hS2.call ?_
  simp (maxSteps := 2000000) only [↓avm8, ↓avmW, avmD, avmL, avmO, avmR, avmN, avmM, wi64, csub, row_getD, row_reps, ↓reduceIte, decide_true, decide_false, true_imp_iff, Nat.reduceAdd, Nat.reduceMul, Nat.reduceSub, Nat.reduceLT, Nat.reduceLeDiff, Nat.reduceEqDiff, Nat.reducePow, Nat.min_eq_left, Nat.reduceMod, List.drop_zero, bE, f1, f2]

  by_cases hw : w < 1 ∨ 64 < w
  · refine (bits_Narrow_no x w hw).call ?_
    rcases hw with h | h
    · have h' : w < ((1 : Nat) : Int) := h
      simp (maxSteps := 2000000) only [↓avm8, ↓avmW, avmD, avmL, avmO, avmR, avmN, avmM, wi64, csub, row_getD, row_reps, ↓reduceIte, decide_true, decide_false, true_imp_iff, Nat.reduceAdd, Nat.reduceMul, Nat.reduceSub, Nat.reduceLT, Nat.reduceLeDiff, Nat.reduceEqDiff, Nat.reducePow, Nat.min_eq_left, Nat.reduceMod, List.drop_zero, h, h']
      refine ret_now ?_
      simp (maxSteps := 2000000) only [↓avm8, ↓avmW, avmD, avmL, avmO, avmR, avmN, avmM, wi64, csub, row_getD, row_reps, ↓reduceIte, decide_true, decide_false, true_imp_iff, Nat.reduceAdd, Nat.reduceMul, Nat.reduceSub, Nat.reduceLT, Nat.reduceLeDiff, Nat.reduceEqDiff, Nat.reducePow, Nat.min_eq_left, Nat.reduceMod, List.drop_zero]
    · have h' : ((64 : Nat) : Int) < w := h
      have h1 : ¬ w < ((1 : Nat) : Int) := by omega
      have h1' : ¬ w < (1 : Int) := by omega
      simp (maxSteps := 2000000) only [↓avm8, ↓avmW, avmD, avmL, avmO, avmR, avmN, avmM, wi64, csub, row_getD, row_reps, ↓reduceIte, decide_true, decide_false, true_imp_iff, Nat.reduceAdd, Nat.reduceMul, Nat.reduceSub, Nat.reduceLT, Nat.reduceLeDiff, Nat.reduceEqDiff, Nat.reducePow, Nat.min_eq_left, Nat.reduceMod, List.drop_zero, h, h', h1, h1']
      refine ret_now ?_
      simp (maxSteps := 2000000) only [↓avm8, ↓avmW, avmD, avmL, avmO, avmR, avmN, avmM, wi64, csub, row_getD, row_reps, ↓reduceIte, decide_true, decide_false, true_imp_iff, Nat.reduceAdd, Nat.reduceMul, Nat.reduceSub, Nat.reduceLT, Nat.reduceLeDiff, Nat.reduceEqDiff, Nat.reducePow, Nat.min_eq_left, Nat.reduceMod, List.drop_zero]
  · obtain ⟨k, rfl⟩ : ∃ k : Nat, w = (k : Int) := ⟨w.toNat, by omega⟩
    have k1 : 1 ≤ k := by omega
    have k2 : k ≤ 64 := by omega
    have a1 : ¬ k < 1 := by omega
    have a2 : ¬ 64 < k := by omega
    refine (bits_Narrow_px x k k1 k2).call ?_
    have hnb := narrow_bits x X k t k1 k2 hXt
    simp (maxSteps := 2000000) only [↓avm8, ↓avmW, avmD, avmL, avmO, avmR, avmN, avmM, wi64, csub, row_getD, row_reps, ↓reduceIte, decide_true, decide_false, true_imp_iff, Nat.reduceAdd, Nat.reduceMul, Nat.reduceSub, Nat.reduceLT, Nat.reduceLeDiff, Nat.reduceEqDiff, Nat.reducePow, Nat.min_eq_left, Nat.reduceMod, List.drop_zero, a1, a2, hX]
    refine (ref_Bits_px X hXl).call ?_
    have hbx := bitsF_length X.testBit
    have hp1 : putAt (bl (List.replicate 64 false)) 0 (bl (bitsF X.testBit)) = bl (bitsF X.testBit) := putAt_bl (by simp [hbx])
    simp (maxSteps := 2000000) only [↓avm8, ↓avmW, avmD, avmL, avmO, avmR, avmN, avmM, wi64, csub, row_getD, row_reps, ↓reduceIte, decide_true, decide_false, true_imp_iff, Nat.reduceAdd, Nat.reduceMul, Nat.reduceSub, Nat.reduceLT, Nat.reduceLeDiff, Nat.reduceEqDiff, Nat.reducePow, Nat.min_eq_left, Nat.reduceMod, List.drop_zero, avmB, hbx]
    refine loop_of (fun q : Nat × List Bool => ⟨(.int .i64 x :: .junk :: .junk :: .int .i64 k :: .junk :: .junk :: .junk :: .junk :: .junk :: .junk :: .junk :: .junk :: .junk :: .junk :: .junk :: .junk :: .int .i64 (narrow x (64 - k)) :: .bool (decide (narrow x (64 - k) = x)) :: .own 0 0 :: .int .i64 q.1 :: .junk :: .junk :: .junk :: .junk :: .junk :: .junk :: .junk :: .junk :: .junk :: .junk :: .junk :: .junk :: .junk :: .junk :: .junk :: .junk :: .junk :: .junk :: .junk :: .junk :: .junk :: .junk :: .junk :: .junk :: .junk :: .junk :: .junk :: .junk :: .junk :: .junk :: .junk :: .junk :: .junk :: .junk :: .junk :: .junk :: .junk :: .junk :: .junk :: .junk :: .junk :: .junk :: .junk :: .junk :: .junk :: .junk :: .junk :: .junk :: .junk :: .junk :: .junk :: .junk :: .junk :: .junk :: .junk :: .junk :: .junk :: .junk :: .junk :: .junk :: .junk :: .junk :: .junk :: .junk :: .junk :: .junk :: .junk :: .junk :: .junk :: .junk :: .junk :: .junk :: .junk :: .junk :: .junk :: .junk :: .junk :: .junk :: .junk :: .junk :: .junk :: .junk :: .junk :: .junk :: .junk :: .junk :: .junk :: .junk :: .junk :: .junk :: .junk :: .junk :: .junk :: .junk :: .junk :: .junk :: .junk :: .junk :: .junk :: .junk :: .junk :: .junk :: .junk :: .junk :: .junk :: .junk :: .junk :: .junk :: .junk :: .junk :: []), [.arr t_64_bool 64 false (putAt (bl (List.replicate 64 false)) 0 (bl q.2))]⟩)
      (fun q => q.1 ≤ 64 ∧ k ≤ q.1 ∧ q.2.length = 64 ∧ ∀ j, j < q.1 → q.2.getD j false = nrw X k j) (fun q => 64 - q.1) (k, bitsF X.testBit) [0, 3, 16, 17, 18, 19] rfl ⟨k2, Nat.le_refl _, hbx, fun j hj => by simp only at hj ⊢; rw [bitsF_getD, if_pos (by omega), nrw, if_pos hj]⟩ ?_
    rintro ⟨i, l⟩ ⟨hi, hki, hl, hb⟩
    simp only at hi hki hl hb
    have hp2 : putAt (bl (List.replicate 64 false)) 0 (bl l) = bl l := putAt_bl (by simp [hl])
    have hp3 : putAt (bl (List.replicate 64 false)) 0 (bl (l.set i (X.testBit (k - 1)))) = bl (l.set i (X.testBit (k - 1))) := putAt_bl (by simp [hl])
    by_cases h0 : i < 64
    · have w1 : IntKind.i64.wrap ((i : Int) + ((1 : Nat) : Int)) = ((i + 1 : Nat) : Int) := wi64 (n := i + 1) (by omega)
      have w1' : IntKind.i64.wrap ((i + 1 : Nat) : Int) = ((i + 1 : Nat) : Int) := wi64 (by omega)
      have w2 : IntKind.i64.wrap ((k : Int) - ((1 : Nat) : Int)) = ((k - 1 : Nat) : Int) := by rw [wi64_in (by omega) (by omega)]; omega
      have i63 : i ≤ 63 := by omega
      have q63 : k - 1 ≤ 63 := by omega
      have q64 : k - 1 < 64 := by omega
      have hkl : k - 1 < l.length := by omega
      have g1 := bl_getD hkl
      rw [hb (k - 1) (by omega), show nrw X k (k - 1) = X.testBit (k - 1) by unfold nrw; split <;> rfl] at g1
      simp (maxSteps := 2000000) only [↓avm8, ↓avmW, avmD, avmL, avmO, avmR, avmN, avmM, wi64, csub, row_getD, row_reps, ↓reduceIte, decide_true, decide_false, true_imp_iff, Nat.reduceAdd, Nat.reduceMul, Nat.reduceSub, Nat.reduceLT, Nat.reduceLeDiff, Nat.reduceEqDiff, Nat.reducePow, Nat.min_eq_left, Nat.reduceMod, List.drop_zero, h0, avmB, hl, hp2, w1, w1', w2, i63, q63, q64, g1]
      refine LN.next (i + 1, l.set i (X.testBit (k - 1))) [0, 3, 16, 17, 18, 19] ⟨by simp only; omega, by simp only; omega, by simp only [List.length_set]; exact hl, fun j hj => ?_⟩ (by simp only; omega) (by simp only [hp3]; rfl)
      simp only at hj ⊢
      by_cases e : j = i
      · subst e; rw [bgetD_set_eq (by omega), nrw, if_neg (by omega)]
      · rw [bgetD_set_ne (Ne.symm e)]; exact hb j (by omega)
    · have e : i = 64 := by omega
      subst e
      have hL := bitsF_of hl hb
      have ht : l.take 64 = l := List.take_of_length_le (by omega)
      have hW := ref_Word_px (G := G) l hl
      rw [← hL] at hnb
      simp (maxSteps := 2000000) only [↓avm8, ↓avmW, avmD, avmL, avmO, avmR, avmN, avmM, wi64, csub, row_getD, row_reps, ↓reduceIte, decide_true, decide_false, true_imp_iff, Nat.reduceAdd, Nat.reduceMul, Nat.reduceSub, Nat.reduceLT, Nat.reduceLeDiff, Nat.reduceEqDiff, Nat.reducePow, Nat.min_eq_left, Nat.reduceMod, List.drop_zero, h0, avmB, hl, hp2, ht, hnb]
      refine hW.call ?_
      simp (maxSteps := 2000000) only [↓avm8, ↓avmW, avmD, avmL, avmO, avmR, avmN, avmM, wi64, csub, row_getD, row_reps, ↓reduceIte, decide_true, decide_false, true_imp_iff, Nat.reduceAdd, Nat.reduceMul, Nat.reduceSub, Nat.reduceLT, Nat.reduceLeDiff, Nat.reduceEqDiff, Nat.reducePow, Nat.min_eq_left, Nat.reduceMod, List.drop_zero, avmB, hl, ht, hnb]
      refine ret_now ?_
      simp (maxSteps := 2000000) only [↓avm8, ↓avmW, avmD, avmL, avmO, avmR, avmN, avmM, wi64, csub, row_getD, row_reps, ↓reduceIte, decide_true, decide_false, true_imp_iff, Nat.reduceAdd, Nat.reduceMul, Nat.reduceSub, Nat.reduceLT, Nat.reduceLeDiff, Nat.reduceEqDiff, Nat.reducePow, Nat.min_eq_left, Nat.reduceMod, List.drop_zero, avmB, hl, ht]
      rw [beq_self_eq_true]
theorem sg_g (hG : GOK G) (x t : Int) (X u : Nat) (w : Int) (hx : -9223372036854775808 ≤ x ∧ x ≤ 9223372036854775807) (hu : u < 18446744073709551616) (hX : IntKind.u64.wrap x = (X : Int)) (hXt : x = (X : Int) + 18446744073709551616 * t) (hXl : X < 18446744073709551616) (hc : 9223372036854775807 < u) : PX P G n_law1_BitsSigned [.int .i64 x, .int .u64 (u : Int), .bool false, .int .i64 w] (.bool true) := by
  refine PX_of_awp low_law1_BitsSigned fol (by simp only [avmF, and_true]) (by simp only [avmF, and_true]) ?_
  have hA := bits_Abs_px (G := G) x hx
  have hS1 := bits_Signed_self (G := G) x hx
  have hS2 := bits_Signed_no (G := G) false u (by simp; omega)
  have f1 : ¬ u ≤ 9223372036854775807 := by omega
  simp only [ir_law1_BitsSigned, initF, List.replicate, Nat.reduceAdd, Nat.reduceSub, iv, avmL]
  simp (maxSteps := 2000000) only [↓avm8, ↓avmW, avmD, avmL, avmO, avmR, avmN, avmM, wi64, csub, row_getD, row_reps, ↓reduceIte, decide_true, decide_false, true_imp_iff, Nat.reduceAdd, Nat.reduceMul, Nat.reduceSub, Nat.reduceLT, Nat.reduceLeDiff, Nat.reduceEqDiff, Nat.reducePow, Nat.min_eq_left, Nat.reduceMod, List.drop_zero]
  refine (begun_px hG).call ?_
  simp (maxSteps := 2000000) only [↓avm8, ↓avmW, avmD, avmL, avmO, avmR, avmN, avmM, wi64, csub, row_getD, row_reps, ↓reduceIte, decide_true, decide_false, true_imp_iff, Nat.reduceAdd, Nat.reduceMul, Nat.reduceSub, Nat.reduceLT, Nat.reduceLeDiff, Nat.reduceEqDiff, Nat.reducePow, Nat.min_eq_left, Nat.reduceMod, List.drop_zero]
  refine hA.call ?_
  simp (maxSteps := 2000000) only [↓avm8, ↓avmW, avmD, avmL, avmO, avmR, avmN, avmM, wi64, csub, row_getD, row_reps, ↓reduceIte, decide_true, decide_false, true_imp_iff, Nat.reduceAdd, Nat.reduceMul, Nat.reduceSub, Nat.reduceLT, Nat.reduceLeDiff, Nat.reduceEqDiff, Nat.reducePow, Nat.min_eq_left, Nat.reduceMod, List.drop_zero]
  refine hS1.call ?_
  simp (maxSteps := 2000000) only [↓avm8, ↓avmW, avmD, avmL, avmO, avmR, avmN, avmM, wi64, csub, row_getD, row_reps, ↓reduceIte, decide_true, decide_false, true_imp_iff, Nat.reduceAdd, Nat.reduceMul, Nat.reduceSub, Nat.reduceLT, Nat.reduceLeDiff, Nat.reduceEqDiff, Nat.reducePow, Nat.min_eq_left, Nat.reduceMod, List.drop_zero]
  refine hS2.call ?_
  simp (maxSteps := 2000000) only [↓avm8, ↓avmW, avmD, avmL, avmO, avmR, avmN, avmM, wi64, csub, row_getD, row_reps, ↓reduceIte, decide_true, decide_false, true_imp_iff, Nat.reduceAdd, Nat.reduceMul, Nat.reduceSub, Nat.reduceLT, Nat.reduceLeDiff, Nat.reduceEqDiff, Nat.reducePow, Nat.min_eq_left, Nat.reduceMod, List.drop_zero, bE, f1]

  by_cases hw : w < 1 ∨ 64 < w
  · refine (bits_Narrow_no x w hw).call ?_
    rcases hw with h | h
    · have h' : w < ((1 : Nat) : Int) := h
      simp (maxSteps := 2000000) only [↓avm8, ↓avmW, avmD, avmL, avmO, avmR, avmN, avmM, wi64, csub, row_getD, row_reps, ↓reduceIte, decide_true, decide_false, true_imp_iff, Nat.reduceAdd, Nat.reduceMul, Nat.reduceSub, Nat.reduceLT, Nat.reduceLeDiff, Nat.reduceEqDiff, Nat.reducePow, Nat.min_eq_left, Nat.reduceMod, List.drop_zero, h, h']
      refine ret_now ?_
      simp (maxSteps := 2000000) only [↓avm8, ↓avmW, avmD, avmL, avmO, avmR, avmN, avmM, wi64, csub, row_getD, row_reps, ↓reduceIte, decide_true, decide_false, true_imp_iff, Nat.reduceAdd, Nat.reduceMul, Nat.reduceSub, Nat.reduceLT, Nat.reduceLeDiff, Nat.reduceEqDiff, Nat.reducePow, Nat.min_eq_left, Nat.reduceMod, List.drop_zero]
    · have h' : ((64 : Nat) : Int) < w := h
      have h1 : ¬ w < ((1 : Nat) : Int) := by omega
      have h1' : ¬ w < (1 : Int) := by omega
      simp (maxSteps := 2000000) only [↓avm8, ↓avmW, avmD, avmL, avmO, avmR, avmN, avmM, wi64, csub, row_getD, row_reps, ↓reduceIte, decide_true, decide_false, true_imp_iff, Nat.reduceAdd, Nat.reduceMul, Nat.reduceSub, Nat.reduceLT, Nat.reduceLeDiff, Nat.reduceEqDiff, Nat.reducePow, Nat.min_eq_left, Nat.reduceMod, List.drop_zero, h, h', h1, h1']
      refine ret_now ?_
      simp (maxSteps := 2000000) only [↓avm8, ↓avmW, avmD, avmL, avmO, avmR, avmN, avmM, wi64, csub, row_getD, row_reps, ↓reduceIte, decide_true, decide_false, true_imp_iff, Nat.reduceAdd, Nat.reduceMul, Nat.reduceSub, Nat.reduceLT, Nat.reduceLeDiff, Nat.reduceEqDiff, Nat.reducePow, Nat.min_eq_left, Nat.reduceMod, List.drop_zero]
  · obtain ⟨k, rfl⟩ : ∃ k : Nat, w = (k : Int) := ⟨w.toNat, by omega⟩
    have k1 : 1 ≤ k := by omega
    have k2 : k ≤ 64 := by omega
    have a1 : ¬ k < 1 := by omega
    have a2 : ¬ 64 < k := by omega
    refine (bits_Narrow_px x k k1 k2).call ?_
    have hnb := narrow_bits x X k t k1 k2 hXt
    simp (maxSteps := 2000000) only [↓avm8, ↓avmW, avmD, avmL, avmO, avmR, avmN, avmM, wi64, csub, row_getD, row_reps, ↓reduceIte, decide_true, decide_false, true_imp_iff, Nat.reduceAdd, Nat.reduceMul, Nat.reduceSub, Nat.reduceLT, Nat.reduceLeDiff, Nat.reduceEqDiff, Nat.reducePow, Nat.min_eq_left, Nat.reduceMod, List.drop_zero, a1, a2, hX]
    refine (ref_Bits_px X hXl).call ?_
    have hbx := bitsF_length X.testBit
    have hp1 : putAt (bl (List.replicate 64 false)) 0 (bl (bitsF X.testBit)) = bl (bitsF X.testBit) := putAt_bl (by simp [hbx])
    simp (maxSteps := 2000000) only [↓avm8, ↓avmW, avmD, avmL, avmO, avmR, avmN, avmM, wi64, csub, row_getD, row_reps, ↓reduceIte, decide_true, decide_false, true_imp_iff, Nat.reduceAdd, Nat.reduceMul, Nat.reduceSub, Nat.reduceLT, Nat.reduceLeDiff, Nat.reduceEqDiff, Nat.reducePow, Nat.min_eq_left, Nat.reduceMod, List.drop_zero, avmB, hbx]
    refine loop_of (fun q : Nat × List Bool => ⟨(.int .i64 x :: .junk :: .junk :: .int .i64 k :: .junk :: .junk :: .junk :: .junk :: .junk :: .junk :: .junk :: .junk :: .junk :: .junk :: .junk :: .junk :: .int .i64 (narrow x (64 - k)) :: .bool (decide (narrow x (64 - k) = x)) :: .own 0 0 :: .int .i64 q.1 :: .junk :: .junk :: .junk :: .junk :: .junk :: .junk :: .junk :: .junk :: .junk :: .junk :: .junk :: .junk :: .junk :: .junk :: .junk :: .junk :: .junk :: .junk :: .junk :: .junk :: .junk :: .junk :: .junk :: .junk :: .junk :: .junk :: .junk :: .junk :: .junk :: .junk :: .junk :: .junk :: .junk :: .junk :: .junk :: .junk :: .junk :: .junk :: .junk :: .junk :: .junk :: .junk :: .junk :: .junk :: .junk :: .junk :: .junk :: .junk :: .junk :: .junk :: .junk :: .junk :: .junk :: .junk :: .junk :: .junk :: .junk :: .junk :: .junk :: .junk :: .junk :: .junk :: .junk :: .junk :: .junk :: .junk :: .junk :: .junk :: .junk :: .junk :: .junk :: .junk :: .junk :: .junk :: .junk :: .junk :: .junk :: .junk :: .junk :: .junk :: .junk :: .junk :: .junk :: .junk :: .junk :: .junk :: .junk :: .junk :: .junk :: .junk :: .junk :: .junk :: .junk :: .junk :: .junk :: .junk :: .junk :: .junk :: .junk :: .junk :: .junk :: .junk :: .junk :: .junk :: .junk :: .junk :: .junk :: .junk :: .junk :: .junk :: []), [.arr t_64_bool 64 false (putAt (bl (List.replicate 64 false)) 0 (bl q.2))]⟩)
      (fun q => q.1 ≤ 64 ∧ k ≤ q.1 ∧ q.2.length = 64 ∧ ∀ j, j < q.1 → q.2.getD j false = nrw X k j) (fun q => 64 - q.1) (k, bitsF X.testBit) [0, 3, 16, 17, 18, 19] rfl ⟨k2, Nat.le_refl _, hbx, fun j hj => by simp only at hj ⊢; rw [bitsF_getD, if_pos (by omega), nrw, if_pos hj]⟩ ?_
    rintro ⟨i, l⟩ ⟨hi, hki, hl, hb⟩
    simp only at hi hki hl hb
    have hp2 : putAt (bl (List.replicate 64 false)) 0 (bl l) = bl l := putAt_bl (by simp [hl])
    have hp3 : putAt (bl (List.replicate 64 false)) 0 (bl (l.set i (X.testBit (k - 1)))) = bl (l.set i (X.testBit (k - 1))) := putAt_bl (by simp [hl])
    by_cases h0 : i < 64
    · have w1 : IntKind.i64.wrap ((i : Int) + ((1 : Nat) : Int)) = ((i + 1 : Nat) : Int) := wi64 (n := i + 1) (by omega)
      have w1' : IntKind.i64.wrap ((i + 1 : Nat) : Int) = ((i + 1 : Nat) : Int) := wi64 (by omega)
      have w2 : IntKind.i64.wrap ((k : Int) - ((1 : Nat) : Int)) = ((k - 1 : Nat) : Int) := by rw [wi64_in (by omega) (by omega)]; omega
      have i63 : i ≤ 63 := by omega
      have q63 : k - 1 ≤ 63 := by omega
      have q64 : k - 1 < 64 := by omega
      have hkl : k - 1 < l.length := by omega
      have g1 := bl_getD hkl
      rw [hb (k - 1) (by omega), show nrw X k (k - 1) = X.testBit (k - 1) by unfold nrw; split <;> rfl] at g1
      simp (maxSteps := 2000000) only [↓avm8, ↓avmW, avmD, avmL, avmO, avmR, avmN, avmM, wi64, csub, row_getD, row_reps, ↓reduceIte, decide_true, decide_false, true_imp_iff, Nat.reduceAdd, Nat.reduceMul, Nat.reduceSub, Nat.reduceLT, Nat.reduceLeDiff, Nat.reduceEqDiff, Nat.reducePow, Nat.min_eq_left, Nat.reduceMod, List.drop_zero, h0, avmB, hl, hp2, w1, w1', w2, i63, q63, q64, g1]
      refine LN.next (i + 1, l.set i (X.testBit (k - 1))) [0, 3, 16, 17, 18, 19] ⟨by simp only; omega, by simp only; omega, by simp only [List.length_set]; exact hl, fun j hj => ?_⟩ (by simp only; omega) (by simp only [hp3]; rfl)
      simp only at hj ⊢
      by_cases e : j = i
      · subst e; rw [bgetD_set_eq (by omega), nrw, if_neg (by omega)]
      · rw [bgetD_set_ne (Ne.symm e)]; exact hb j (by omega)
    · have e : i = 64 := by omega
      subst e
      have hL := bitsF_of hl hb
      have ht : l.take 64 = l := List.take_of_length_le (by omega)
      have hW := ref_Word_px (G := G) l hl
      rw [← hL] at hnb
      simp (maxSteps := 2000000) only [↓avm8, ↓avmW, avmD, avmL, avmO, avmR, avmN, avmM, wi64, csub, row_getD, row_reps, ↓reduceIte, decide_true, decide_false, true_imp_iff, Nat.reduceAdd, Nat.reduceMul, Nat.reduceSub, Nat.reduceLT, Nat.reduceLeDiff, Nat.reduceEqDiff, Nat.reducePow, Nat.min_eq_left, Nat.reduceMod, List.drop_zero, h0, avmB, hl, hp2, ht, hnb]
      refine hW.call ?_
      simp (maxSteps := 2000000) only [↓avm8, ↓avmW, avmD, avmL, avmO, avmR, avmN, avmM, wi64, csub, row_getD, row_reps, ↓reduceIte, decide_true, decide_false, true_imp_iff, Nat.reduceAdd, Nat.reduceMul, Nat.reduceSub, Nat.reduceLT, Nat.reduceLeDiff, Nat.reduceEqDiff, Nat.reducePow, Nat.min_eq_left, Nat.reduceMod, List.drop_zero, avmB, hl, ht, hnb]
      refine ret_now ?_
      simp (maxSteps := 2000000) only [↓avm8, ↓avmW, avmD, avmL, avmO, avmR, avmN, avmM, wi64, csub, row_getD, row_reps, ↓reduceIte, decide_true, decide_false, true_imp_iff, Nat.reduceAdd, Nat.reduceMul, Nat.reduceSub, Nat.reduceLT, Nat.reduceLeDiff, Nat.reduceEqDiff, Nat.reducePow, Nat.min_eq_left, Nat.reduceMod, List.drop_zero, avmB, hl, ht]
      rw [beq_self_eq_true]
theorem BitsSigned_px (hG : GOK G) (x : Int) (u : Nat) (neg : Bool) (w : Int) (hx : -9223372036854775808 ≤ x ∧ x ≤ 9223372036854775807) (hu : u < 18446744073709551616) (hw : -9223372036854775808 ≤ w ∧ w ≤ 9223372036854775807) : PX P G n_law1_BitsSigned [.int .i64 x, .int .u64 (u : Int), .bool neg, .int .i64 w] (.bool true) := by
  obtain ⟨X, t, h1, h2, h3⟩ := u64_cast x
  cases neg with
  | true =>
    by_cases a : u = 0
    · exact sg_c hG x t X u w hx hu h1 h3 h2 a
    by_cases b : u ≤ 9223372036854775807
    · exact sg_a hG x t X u w hx hu h1 h3 h2 ⟨by omega, b⟩
    by_cases c : u = 9223372036854775808
    · exact sg_b hG x t X u w hx hu h1 h3 h2 c
    exact sg_f hG x t X u w hx hu h1 h3 h2 (by omega)
  | false =>
    by_cases a : u = 0
    · exact sg_e hG x t X u w hx hu h1 h3 h2 a
    by_cases b : u ≤ 9223372036854775807
    · exact sg_d hG x t X u w hx hu h1 h3 h2 ⟨by omega, b⟩
    exact sg_g hG x t X u w hx hu h1 h3 h2 (by omega)
end Va
