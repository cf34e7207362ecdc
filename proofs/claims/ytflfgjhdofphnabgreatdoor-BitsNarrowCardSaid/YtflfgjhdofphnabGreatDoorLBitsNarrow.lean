/- The law BitsNarrow on trees: a number as so many bits, and back by shifts. -/
import Derived.Test.YtflfgjhdofphnabGreatDoorBT4
import Derived.Test.YtflfgjhdofphnabGreatDoorBg2
set_option linter.unusedSimpArgs false
set_option linter.unusedVariables false
set_option maxRecDepth 100000
set_option maxHeartbeats 4000000
open Go Go.Avm
namespace Va
def ir_law1_BitsNarrow : IF := (.mk (.seq (.reg [⟨(some 4), (.mov (.v (.bool false))), none⟩]) (.seq (.reg [⟨(some 10), (.call n_law1_begun []), none⟩, ⟨(some 5), (.mov (.t 10)), none⟩]) (.seq (.seq (.reg [⟨(some 11), (.mov (.t 5)), none⟩, ⟨(some 12), (.not (.t 11)), none⟩]) (.cond (.t 12) (.seq (.reg [⟨(some 4), (.mov (.v (.bool false))), none⟩]) .ret) .skip)) (.seq (.reg [⟨(some 13), (.mov (.t 1)), none⟩, ⟨(some 14), (.bin .rem (.t 13) (.v (iv .i64 64))), none⟩, ⟨(some 15), (.bin .add (.t 14) (.v (iv .i64 64))), none⟩, ⟨(some 16), (.bin .rem (.t 15) (.v (iv .i64 64))), none⟩, ⟨(some 17), (.bin .add (.v (iv .i64 1)) (.t 16)), none⟩, ⟨(some 1), (.mov (.t 17)), none⟩]) (.seq (.reg [⟨(some 19), (.mov (.t 0)), none⟩, ⟨(some 20), (.mov (.t 1)), none⟩, ⟨(some 21), (.call n_bits_Narrow [(.t 19), (.t 20)]), none⟩, ⟨(some 18), (.mov (.t 21)), none⟩, ⟨(some 22), (.ext (.t 18) 0), none⟩, ⟨(some 23), (.ext (.t 18) 1), none⟩, ⟨(some 6), (.mov (.t 22)), none⟩, ⟨(some 7), (.mov (.t 23)), none⟩]) (.seq (.reg [⟨(some 25), (.mov (.t 6)), none⟩, ⟨(some 26), (.mov (.t 1)), none⟩, ⟨(some 27), (.call n_bits_Narrow [(.t 25), (.t 26)]), none⟩, ⟨(some 24), (.mov (.t 27)), none⟩, ⟨(some 28), (.ext (.t 24) 0), none⟩, ⟨(some 29), (.ext (.t 24) 1), none⟩, ⟨(some 8), (.mov (.t 28)), none⟩, ⟨(some 9), (.mov (.t 29)), none⟩]) (.seq (.reg [⟨(some 30), (.mov (.t 9)), none⟩, ⟨(some 31), (.mov (.t 30)), none⟩, ⟨(some 32), (.mov (.t 8)), (some (31, true))⟩, ⟨(some 33), (.mov (.t 6)), (some (31, true))⟩, ⟨(some 34), (.bin .eql (.t 32) (.t 33)), (some (31, true))⟩, ⟨(some 35), (.pick (.t 31) (.t 34) (.v (.bool false))), none⟩, ⟨(some 36), (.mov (.t 35)), none⟩, ⟨(some 37), (.mov (.t 0)), (some (36, true))⟩, ⟨(some 38), (.conv .u64 (.t 37)), (some (36, true))⟩, ⟨(some 39), (.mov (.t 1)), (some (36, true))⟩, ⟨(some 40), (.bin .sub (.v (iv .i64 64)) (.t 39)), (some (36, true))⟩, ⟨(some 41), (.call n_bits_Shl [(.t 38), (.t 40)]), (some (36, true))⟩, ⟨(some 42), (.conv .i64 (.t 41)), (some (36, true))⟩, ⟨(some 43), (.mov (.t 1)), (some (36, true))⟩, ⟨(some 44), (.bin .sub (.v (iv .i64 64)) (.t 43)), (some (36, true))⟩, ⟨(some 45), (.call n_bits_Sar [(.t 42), (.t 44)]), (some (36, true))⟩, ⟨(some 46), (.mov (.t 6)), (some (36, true))⟩, ⟨(some 47), (.bin .eql (.t 45) (.t 46)), (some (36, true))⟩, ⟨(some 48), (.pick (.t 36) (.t 47) (.v (.bool false))), none⟩, ⟨(some 49), (.mov (.t 48)), none⟩, ⟨(some 50), (.mov (.t 7)), (some (49, true))⟩, ⟨(some 51), (.mov (.t 6)), (some (49, true))⟩, ⟨(some 52), (.mov (.t 0)), (some (49, true))⟩, ⟨(some 53), (.bin .eql (.t 51) (.t 52)), (some (49, true))⟩, ⟨(some 54), (.eqb false (.t 50) (.t 53)), (some (49, true))⟩, ⟨(some 55), (.pick (.t 49) (.t 54) (.v (.bool false))), none⟩, ⟨(some 56), (.mov (.t 55)), none⟩, ⟨(some 57), (.mov (.t 1)), (some (56, true))⟩, ⟨(some 58), (.bin .lss (.t 57) (.v (iv .i64 64))), (some (56, true))⟩, ⟨(some 59), (.mov (.t 58)), (some (56, true))⟩, ⟨(some 60), (.mov (.t 7)), (some (59, false))⟩, ⟨(some 61), (.pick (.t 59) (.v (.bool true)) (.t 60)), (some (56, true))⟩, ⟨(some 62), (.pick (.t 56) (.t 61) (.v (.bool false))), none⟩, ⟨(some 4), (.mov (.t 62)), none⟩]) .ret))))))) [(.t 4)] 63)
theorem low_law1_BitsNarrow : lowF P n_law1_BitsNarrow = some ir_law1_BitsNarrow := by kernel_rfl
variable {G : Glob}
theorem BitsNarrow_px (hG : GOK G) (x w : Int) (hx : -9223372036854775808 ≤ x ∧ x ≤ 9223372036854775807) (hw : -9223372036854775808 ≤ w ∧ w ≤ 9223372036854775807) : PX P G n_law1_BitsNarrow [.int .i64 x, .int .i64 w] (.bool true) := by
  refine PX_of_awp low_law1_BitsNarrow fol (by simp only [avmF, and_true]) (by simp only [avmF, and_true]) ?_
  obtain ⟨k, hk, hk2⟩ := wrapmod w 64 (by decide) (by decide)
  have a1 : IntKind.i64.wrap ((1 + k : Nat) : Int) = ((1 + k : Nat) : Int) := wi64 (by omega)
  have a2 : IntKind.i64.wrap (((64 : Nat) : Int) - ((1 + k : Nat) : Int)) = ((63 - k : Nat) : Int) := by rw [wi64_in (by omega) (by omega)]; omega
  have a3 : 64 - (1 + k) = 63 - k := by omega
  have N1 := bits_Narrow_px (G := G) x (1 + k) (by omega) (by omega)
  have N2 := bits_Narrow_px (G := G) (narrow x (63 - k)) (1 + k) (by omega) (by omega)
  rw [a3] at N1 N2
  rw [narrow_idem x (by omega)] at N2
  obtain ⟨u, hu, hu2⟩ : ∃ u : Nat, IntKind.u64.wrap x = (u : Int) ∧ u < 18446744073709551616 := ⟨(IntKind.u64.wrap x).toNat, by rw [wu64_mod]; omega, by rw [wu64_mod]; omega⟩
  have S1 := bits_Shl_n (G := G) u (63 - k) hu2 (by omega)
  have e1 : IntKind.i64.wrap ((u * 2 ^ (63 - k) % 18446744073709551616 : Nat) : Int) = IntKind.i64.wrap (x * 2 ^ (63 - k)) := by
    rw [wu64_mod] at hu
    have hdiv : x = u + 18446744073709551616 * (x / 18446744073709551616) := by omega
    have h1 : ((u * 2 ^ (63 - k) % 18446744073709551616 : Nat) : Int) = x * 2 ^ (63 - k) + 18446744073709551616 * (-(x / 18446744073709551616 * 2 ^ (63 - k)) - ((u * 2 ^ (63 - k) / 18446744073709551616 : Nat) : Int)) := by
      have h2 := Nat.div_add_mod (u * 2 ^ (63 - k)) 18446744073709551616
      have h3 : x * 2 ^ (63 - k) = (u : Int) * 2 ^ (63 - k) + 18446744073709551616 * (x / 18446744073709551616 * 2 ^ (63 - k)) := by
        conv => lhs; rw [hdiv]
        rw [Int.add_mul, Int.mul_assoc]
      have h4 : (u : Int) * 2 ^ (63 - k) = ((u * 2 ^ (63 - k) : Nat) : Int) := by simp
      rw [h3, h4]
      generalize x / 18446744073709551616 * 2 ^ (63 - k) = A
      generalize u * 2 ^ (63 - k) = B at *
      omega
    exact wi64_mod h1
  have S2 := bits_Sar_n (G := G) (IntKind.i64.wrap (x * 2 ^ (63 - k))) (63 - k) (by omega)
  have e2 : IntKind.i64.wrap (x * 2 ^ (63 - k)) / 2 ^ (63 - k) = narrow x (63 - k) := rfl
  rw [e2] at S2
  have e3 : (decide (narrow x (63 - k) = x)) = true ∨ k < 63 := by
    rcases Nat.lt_or_ge k 63 with h | h
    · exact .inr h
    · have : 63 - k = 0 := by omega
      rw [this, narrow_zero hx]; simp
  have hd : (decide (narrow x (63 - k) = narrow x (63 - k))) = true := by simp
  simp only [ir_law1_BitsNarrow, initF, List.replicate, Nat.reduceAdd, Nat.reduceSub, iv, avmL]
  simp (maxSteps := 2000000) only [↓avm8, ↓avmW, avmD, avmL, avmO, avmR, avmN, avmM, wi64, csub, row_getD, row_reps, ↓reduceIte, decide_true, decide_false, true_imp_iff, Nat.reduceAdd, Nat.reduceMul, Nat.reduceSub, Nat.reduceLT, Nat.reduceLeDiff, Nat.reduceEqDiff, Nat.reducePow, Nat.min_eq_left, Nat.reduceMod, List.drop_zero]
  refine (begun_px hG).call ?_
  simp (maxSteps := 2000000) only [↓avm8, ↓avmW, avmD, avmL, avmO, avmR, avmN, avmM, wi64, csub, row_getD, row_reps, ↓reduceIte, decide_true, decide_false, true_imp_iff, Nat.reduceAdd, Nat.reduceMul, Nat.reduceSub, Nat.reduceLT, Nat.reduceLeDiff, Nat.reduceEqDiff, Nat.reducePow, Nat.min_eq_left, Nat.reduceMod, List.drop_zero, hk, a1]
  refine N1.call ?_
  simp (maxSteps := 2000000) only [↓avm8, ↓avmW, avmD, avmL, avmO, avmR, avmN, avmM, wi64, csub, row_getD, row_reps, ↓reduceIte, decide_true, decide_false, true_imp_iff, Nat.reduceAdd, Nat.reduceMul, Nat.reduceSub, Nat.reduceLT, Nat.reduceLeDiff, Nat.reduceEqDiff, Nat.reducePow, Nat.min_eq_left, Nat.reduceMod, List.drop_zero, hk, a1]
  refine N2.call ?_
  simp (maxSteps := 2000000) only [↓avm8, ↓avmW, avmD, avmL, avmO, avmR, avmN, avmM, wi64, csub, row_getD, row_reps, ↓reduceIte, decide_true, decide_false, true_imp_iff, Nat.reduceAdd, Nat.reduceMul, Nat.reduceSub, Nat.reduceLT, Nat.reduceLeDiff, Nat.reduceEqDiff, Nat.reducePow, Nat.min_eq_left, Nat.reduceMod, List.drop_zero, hk, a1, a2, hd, hu]
  refine S1.call ?_
  simp (maxSteps := 2000000) only [↓avm8, ↓avmW, avmD, avmL, avmO, avmR, avmN, avmM, wi64, csub, row_getD, row_reps, ↓reduceIte, decide_true, decide_false, true_imp_iff, Nat.reduceAdd, Nat.reduceMul, Nat.reduceSub, Nat.reduceLT, Nat.reduceLeDiff, Nat.reduceEqDiff, Nat.reducePow, Nat.min_eq_left, Nat.reduceMod, List.drop_zero, hk, a1, a2, hd, hu, e1]
  refine S2.call ?_
  have hb : (decide (narrow x (63 - k) = x) == decide (narrow x (63 - k) = x)) = true := by simp
  by_cases c : 1 + k < 64
  · simp (maxSteps := 2000000) only [↓avm8, ↓avmW, avmD, avmL, avmO, avmR, avmN, avmM, wi64, csub, row_getD, row_reps, ↓reduceIte, decide_true, decide_false, true_imp_iff, Nat.reduceAdd, Nat.reduceMul, Nat.reduceSub, Nat.reduceLT, Nat.reduceLeDiff, Nat.reduceEqDiff, Nat.reducePow, Nat.min_eq_left, Nat.reduceMod, List.drop_zero, hk, a1, a2, hd, hu, e1, hb, c]
    refine ret_now ?_
    simp (maxSteps := 2000000) only [↓avm8, ↓avmW, avmD, avmL, avmO, avmR, avmN, avmM, wi64, csub, row_getD, row_reps, ↓reduceIte, decide_true, decide_false, true_imp_iff, Nat.reduceAdd, Nat.reduceMul, Nat.reduceSub, Nat.reduceLT, Nat.reduceLeDiff, Nat.reduceEqDiff, Nat.reducePow, Nat.min_eq_left, Nat.reduceMod, List.drop_zero]
  · have e4 : narrow x (63 - k) = x := by
      rcases e3 with h | h
      · exact of_decide_eq_true h
      · omega
    have e5 : (x = x) = True := by simp
    simp (maxSteps := 2000000) only [↓avm8, ↓avmW, avmD, avmL, avmO, avmR, avmN, avmM, wi64, csub, row_getD, row_reps, ↓reduceIte, decide_true, decide_false, true_imp_iff, Nat.reduceAdd, Nat.reduceMul, Nat.reduceSub, Nat.reduceLT, Nat.reduceLeDiff, Nat.reduceEqDiff, Nat.reducePow, Nat.min_eq_left, Nat.reduceMod, List.drop_zero, hk, a1, a2, hd, hu, e1, hb, c, e4, e5]
    refine ret_now ?_
    simp (maxSteps := 2000000) only [↓avm8, ↓avmW, avmD, avmL, avmO, avmR, avmN, avmM, wi64, csub, row_getD, row_reps, ↓reduceIte, decide_true, decide_false, true_imp_iff, Nat.reduceAdd, Nat.reduceMul, Nat.reduceSub, Nat.reduceLT, Nat.reduceLeDiff, Nat.reduceEqDiff, Nat.reducePow, Nat.min_eq_left, Nat.reduceMod, List.drop_zero]
end Va
